/- The document's cells, in plain Lean. -/
import Derived.Test.YthbodknlhkapdaaGreatBaB
import Derived.Test.YthbodknlhkapdaaGreatBaC
import Derived.Test.YthbodknlhkapdaaGreatBaE
import Derived.BigQuiet
import Derived.Deep.DeepCutAuto
import Derived.Deep.QuietTactic
namespace Go.Proofs.YthbodknlhkapdaaGreat
set_option linter.unusedSimpArgs false
set_option linter.unusedVariables false
set_option maxHeartbeats 2000000
set_option maxRecDepth 100000
section
structure Wv where
 a : Int
 v : Int
def Ads (L : List Wv) (x : Int) : Int := ((L.find? fun d => d.a == x).map Wv.v).getD 0
def rgo (a v : Int) : Bool → List Wv → List Wv → List Wv
 | done, out, [] => if done then out else out ++ [⟨a, v⟩]
 | done, out, x :: r =>
   if (!done && decide (a ≤ x.a)) = true then
    if x.a = a then rgo a v true (out ++ [⟨a, v⟩]) r else rgo a v true (out ++ [⟨a, v⟩] ++ [x]) r
   else if x.a = a then rgo a v done out r else rgo a v done (out ++ [x]) r
def All (a v : Int) : List Wv → List Wv
 | [] => [⟨a, v⟩]
 | x :: r => if a ≤ x.a then ⟨a, v⟩ :: (x :: r).filter (fun d => decide (d.a ≠ a)) else x :: All a v r
def Aon (a v : Int) (L : List Wv) : List Wv := if v = 0 then L.filter (fun d => decide (d.a ≠ a)) else All a v L
theorem Aka (a v : Int) (L : List Wv) : ∀ out, rgo a v true out L = out ++ L.filter (fun d => decide (d.a ≠ a)) := by
 induction L with
 | nil => intro out; simp [rgo]
 | cons x r ih =>
   intro out
   unfold rgo
   by_cases h : x.a = a
   · simp [h, ih]
   simp [h, ih]
theorem Axl (a v : Int) (L : List Wv) : ∀ out, rgo a v false out L = out ++ All a v L := by
 induction L with
 | nil => intro out; simp [rgo, All]
 | cons x r ih =>
   intro out
   unfold rgo All
   by_cases h1 : a ≤ x.a
   · by_cases h : x.a = a
     · simp [h1, h, Aka]
     simp [h1, h, Aka]
   have h : ¬ x.a = a := by omega
   simp [h1, h, ih]
theorem Axk (a v : Int) (L : List Wv) : rgo a v (v == 0) [] L = Aon a v L := by
 unfold Aon
 by_cases h : v = 0
 · have : (v == 0) = true := by simp [h]
   rw [this, if_pos h, Aka]; simp
 have : (v == 0) = false := by simp [h]
 rw [this, if_neg h, Axl]; simp
theorem Ab4 (x : Wv) (L : List Wv) (y : Int) : Ads (x :: L) y = if x.a = y then x.v else Ads L y := by
 unfold Ads
 rw [List.find?_cons]
 by_cases h : x.a = y
 · simp [h]
 have : (x.a == y) = false := by simpa using h
 simp [this, h]
theorem Agx (a : Int) (L : List Wv) (y : Int) : Ads (L.filter fun d => decide (d.a ≠ a)) y = if y = a then 0 else Ads L y := by
 induction L with
 | nil => simp [Ads]
 | cons x r ih =>
   by_cases h : x.a = a
   · rw [List.filter_cons_of_neg (by simp [h]), ih, Ab4]
     by_cases hy : y = a
     · simp [hy]
     simp [hy]; intro h2; omega
   rw [List.filter_cons_of_pos (by simp [h]), Ab4, ih, Ab4]
   by_cases hy : y = a
   · subst hy; simp [h]
   simp [hy]
theorem Ars (a v : Int) (L : List Wv) (y : Int) : Ads (All a v L) y = if y = a then v else Ads L y := by
 induction L with
 | nil =>
   unfold All
   rw [Ab4]
   by_cases hy : y = a
   · simp [hy]
   rw [if_neg (fun h => hy h.symm), if_neg hy]
 | cons x r ih =>
   unfold All
   by_cases h1 : a ≤ x.a
   · rw [if_pos h1, Ab4, Agx]
     by_cases hy : y = a
     · simp [hy]
     rw [if_neg (fun h => hy h.symm), if_neg hy, if_neg hy]
   rw [if_neg h1, Ab4, ih, Ab4]
   by_cases hy : y = a
   · subst hy; rw [if_neg (by omega)]; simp
   simp [hy]
theorem Arq (a v : Int) (L : List Wv) (y : Int) : Ads (Aon a v L) y = upd (Ads L) a v y := by
 unfold Aon upd
 by_cases h : v = 0
 · rw [if_pos h, Agx, h]
 rw [if_neg h, Ars]
def Ris (L : List Wv) : Prop := L.Pairwise fun x y => x.a < y.a
def Azz (x : Wv) : Prop := (0 ≤ x.a ∧ x.a < 18446744073709551616) ∧ 0 < x.v ∧ x.v < 18446744073709551616
theorem Ajk {L : List Wv} (h : Ris L) (p : Wv → Bool) : Ris (L.filter p) := List.Pairwise.filter p h
theorem Aox {a v : Int} {L : List Wv} {x : Wv} (h : x ∈ All a v L) : x = ⟨a, v⟩ ∨ x ∈ L := by
 induction L with
 | nil => unfold All at h; exact .inl (List.mem_singleton.1 h)
 | cons y r ih =>
   unfold All at h
   split at h
   · rcases List.mem_cons.1 h with h | h
     · exact .inl h
     exact .inr ((List.mem_filter.1 h).1)
   rcases List.mem_cons.1 h with h | h
   · exact .inr (by simp [h])
   exact (ih h).imp id fun h => by simp [h]
theorem Axj (a v : Int) {L : List Wv} (h : Ris L) : Ris (All a v L) := by
 induction L with
 | nil => unfold All; simp [Ris]
 | cons y r ih =>
   have h1 : ∀ z ∈ r, y.a < z.a := (List.pairwise_cons.1 h).1
   have h2 : Ris r := (List.pairwise_cons.1 h).2
   unfold All
   split
   · rename_i hle
     refine List.pairwise_cons.2 ⟨fun z hz => ?_, Ajk h _⟩
     rw [List.mem_filter] at hz
     obtain ⟨hz1, hz2⟩ := hz
     have hne : z.a ≠ a := by simpa using hz2
     rcases List.mem_cons.1 hz1 with rfl | hz1
     · show a < z.a; omega
     have := h1 z hz1; show a < z.a; omega
   refine List.pairwise_cons.2 ⟨fun z hz => ?_, ih h2⟩
   rcases Aox hz with rfl | hz
   · show y.a < a; omega
   exact h1 z hz
theorem Axi (a v : Int) {L : List Wv} (h : Ris L) : Ris (Aon a v L) := by
 unfold Aon
 split
 · exact Ajk h _
 exact Axj a v h
theorem Bag {a v : Int} {L : List Wv} (h : ∀ x ∈ L, Azz x) (a0 : 0 ≤ a) (a1 : a < 18446744073709551616) (v0 : 0 ≤ v) (v1 : v < 18446744073709551616) : ∀ x ∈ Aon a v L, Azz x := by
 intro x hx
 unfold Aon at hx
 split at hx
 · exact h x (List.mem_filter.1 hx).1
 rcases Aox hx with rfl | hx
 · exact ⟨⟨a0, a1⟩, by show 0 < v; omega, v1⟩
 exact h x hx
theorem Axy (a v : Int) (L : List Wv) : (All a v L).length ≤ L.length + 1 := by
 induction L with
 | nil => simp [All]
 | cons y r ih =>
   unfold All
   split
   · have := List.length_filter_le (fun d => decide (d.a ≠ a)) (y :: r)
     simp only [List.length_cons] at this ⊢; omega
   simp; omega
theorem Axx (a v : Int) (L : List Wv) : (Aon a v L).length ≤ L.length + 1 := by
 unfold Aon
 split
 · have := List.length_filter_le (fun d => decide (d.a ≠ a)) L; omega
 exact Axy a v L
theorem Ah2 {L : List Wv} (h : Ris L) {x : Wv} (hx : x ∈ L) : Ads L x.a = x.v := by
 induction L with
 | nil => cases hx
 | cons y r ih =>
   have h1 : ∀ z ∈ r, y.a < z.a := (List.pairwise_cons.1 h).1
   rw [Ab4]
   rcases List.mem_cons.1 hx with rfl | hx
   · simp
   have := h1 x hx
   rw [if_neg (by omega)]
   exact ih (List.pairwise_cons.1 h).2 hx
theorem Ap6 {L : List Wv} {y : Int} (h : ∀ x ∈ L, x.a ≠ y) : Ads L y = 0 := by
 unfold Ads
 rw [List.find?_eq_none.2 (fun d hd => by simpa using h d hd)]
 rfl
theorem Ajj {L : List Wv} {y : Int} (k : Nat) (h : ∀ j, (hj : j < L.length) → j < k → L[j].a ≠ y) : Ads L y = Ads (L.drop k) y := by
 induction k generalizing L with
 | zero => simp
 | succ k ih =>
   cases L with
   | nil => simp
   | cons x r =>
     rw [List.drop_succ_cons, Ab4, if_neg (show ¬ x.a = y from h 0 (by simp) (by omega))]
     exact ih fun j hj hk => h (j + 1) (by simp; omega) (by omega)
end
section
open Go.RowKit
def wvc (x : Wv) : List Value := [.int .u64 x.a, .int .u64 x.v]
theorem Ad6 (x : Wv) : (wvc x).length = 2 := rfl
theorem Bap : (Tryz.prog.info? 140).map (fun i => (i.zero, i.size, i.bytes)) = some (some (.agg #[.int .u64 0, .int .u64 0]), 2, 16) := by kernel_rfl
def Axn (v : Value) (n : Int) (la : La) : List Value := [v, .int .i64 n, .int .u8 la.k, .int .u64 la.a, .int .u64 la.s, .int .u64 la.i]
structure RC (w : World) (O : Om) (g c : Nat) (M : Int → Int) (n : Int) (la : La) (m : Nat) : Prop where
 ex : ∃ (v : Value) (L : List Wv), Ris L ∧ (∀ x ∈ L, Azz x) ∧ (∀ y, Ads L y = M y) ∧ L.length ≤ m ∧ Ob w O g c (Axn v n la) ∧ w.ownsRow 0 140 2 v L.length (Aa2 wvc L) ∧ (∀ k, v.ownBlock = some k → O k = g ∧ k ≠ c)
section
variable {S : Nat → Prop} {O O' : Om} {w w' : World} {g c m : Nat} {M : Int → Int} {n : Int} {la : La}
theorem RC.ext (h : RC w O g c M n la m) (e : Ext S O w O' w') (hs : ¬ S g := by omega) : RC w' O' g c M n la m := by
 obtain ⟨v, L, h1, h2, h3, h4, h5, h6, h7⟩ := h.ex
 exact ⟨v, L, h1, h2, h3, h4, h5.ext e hs, e.own h6 (fun k hk => by rw [(h7 k hk).1]; exact hs), fun k hk => ⟨(e.lo k (h6.lt k hk).2).trans (h7 k hk).1, (h7 k hk).2⟩⟩
theorem RC.below (h : RC w O g c M n la m) (hb : Below w.heap.size w w') : RC w' O g c M n la m := by
 obtain ⟨v, L, h1, h2, h3, h4, h5, h6, h7⟩ := h.ex
 exact ⟨v, L, h1, h2, h3, h4, h5.below hb, Abi h6 hb, h7⟩
theorem RC.bd (h : RC w O g c M n la m) : Bd M := by
 obtain ⟨v, L, h1, h2, h3, h4, h5, h6, h7⟩ := h.ex
 intro x
 rw [← h3]
 unfold Ads
 cases hf : L.find? (fun d => d.a == x) with
 | none => simp
 | some d => have := h2 d (List.mem_of_find?_eq_some hf); exact ⟨by have := this.2.1; show 0 ≤ d.v; omega, this.2.2⟩
theorem RC.lt (h : RC w O g c M n la m) : c < w.heap.size := by
 obtain ⟨v, L, h1, h2, h3, h4, h5, h6, h7⟩ := h.ex
 exact h5.lt
end
theorem Aj1 {w : World} {b o : Nat} {L : List Wv} (h : ∀ j u, (Aa2 wvc L)[j]? = some u → w.cell? ⟨b, o + j, none⟩ = some u) (i : Nat) (hi : i < L.length) :
 w.cell? ⟨b, o + i * 2, none⟩ = some (.int .u64 L[i].a) ∧ w.cell? ⟨b, o + i * 2 + 1, none⟩ = some (.int .u64 L[i].v) :=
 ⟨by have := h _ _ ((Abk Ad6 L i 0 hi (by omega)).trans (show (wvc L[i])[0]? = some (.int .u64 L[i].a) from rfl)); rwa [Nat.add_zero] at this,
  by have := h _ _ ((Abk Ad6 L i 1 hi (by omega)).trans (show (wvc L[i])[1]? = some (.int .u64 L[i].v) from rfl)); rwa [← Nat.add_assoc] at this⟩
theorem Aim (x : Int) {w : World} {O : Om} {g c m : Nat} {M : Int → Int} {n : Int} {la : La} (h : RC w O g c M n la m) (hm : m ≤ 1000000) :
 Calls Tryz.prog 106 #[.pointer (some ⟨c, 0, none⟩), .int .u64 x] w fun e w' => e = .returned (.int .u64 (M x)) ∧ w = w' := by
 obtain ⟨v, L, h1, h2, h3, h4, h5, h6, h7⟩ := h.ex
 have hA := Arr.of_own h6
 obtain ⟨ao, cp, rfl, hc, hcm⟩ := hA.shape
 have q0 := h5.c 0 _ rfl
 have hl : L.length ≤ 9223372036854775807 := by omega
 have HA := hQd hA
 have HV := hQd (h3 x)
 clear h h1 h2 h3 h4 h5 h6 h7 hA
 go_enter Tryz.func106, Tryz.ntmps106
 go_wp2_with fail
 go_loop [5] (fun i => ∃ k : Nat, k ≤ L.length ∧ i = .int .i64 k ∧ Hid (∀ j, (hj : j < L.length) → j < k → L[j].a ≠ x)) (fun i => L.length - (intOf i).toNat)
 case atStart => exact ⟨0, Nat.zero_le _, rfl, hQd fun j _ h => by omega⟩
 obtain ⟨k, hk, rfl, hno⟩ := hrel
 by_cases hk2 : k < L.length
 · obtain ⟨b, o, c', he, -, -, hlt, hx⟩ := HA.out.open (by omega) (by omega)
   cases he
   obtain ⟨y0, y1⟩ := Aj1 hx k hk2
   clear hx
   by_cases he : L[k].a = x
   · have hf : Hid (M x = L[k].v) := hQd (by
      rw [← HV.out, Ajj k hno.out, List.drop_eq_getElem_cons hk2, Ab4, if_pos he])
     have het : (L[k].a == x) = true := by simp [he]
     clear he
     go_wp2
     go_ret
     exact ⟨Aa6 hf.out.symm, rfl⟩
   have het : (L[k].a == x) = false := by simp [he]
   have hno2 : Hid (∀ j, (hj : j < L.length) → j < k + 1 → L[j].a ≠ x) := hQd fun j hj hjk => by
    by_cases e : j = k
    · subst e; exact he
    exact hno.out j hj (by omega)
   clear he
   go_wp2
   go_round
   case rel => exact ⟨k + 1, by omega, by go_num, hno2⟩
   case measure => simp [intOf]; omega
 obtain rfl : k = L.length := by omega
 have hf : Hid (M x = 0) := hQd (by rw [← HV.out, Ajj L.length hno.out, List.drop_length]; rfl)
 go_wp2
 go_ret
 exact ⟨Aa6 hf.out.symm, rfl⟩
theorem Axh {w w1 : World} {O : Om} {g : Nat} {e : TypeId} {size n : Nat} {v : Value} {xs : List Value} (hhi : Hh O w) (hg : g ≠ 0) (hb : Below w.heap.size w w1) (h : w1.ownsRow w.heap.size e size v n xs) :
 ∃ O', Ext (fun t => t = g) O w O' w1 ∧ (∀ k, v.ownBlock = some k → O' k = g) ∧ ∀ j, j < w.heap.size → O' j = O j := by
 classical
 refine ⟨fun j => if v.ownBlock = some j then g else O j, ⟨fun j hj => ?_, fun j hj => ?_, fun j hj hn => ?_, Aag.of_below hb⟩, fun k hk => if_pos hk, fun j hj => ?_⟩
 · exact if_neg fun e => by have := (h.lt j e).1; omega
 · by_cases e : v.ownBlock = some j
   · exact (h.lt j e).2
   have hj2 : (if v.ownBlock = some j then g else O j) ≠ 0 := hj
   rw [if_neg e] at hj2; exact Nat.lt_of_lt_of_le (hhi j hj2) hb.size
 · by_cases e : v.ownBlock = some j
   · exact if_pos e
   have hj2 : (if v.ownBlock = some j then g else O j) ≠ 0 := hn
   rw [if_neg e] at hj2; have := hhi j hj2; omega
 exact if_neg fun e => by have := (h.lt j e).1; omega
theorem Alt {w : World} {b1 b2 : Nat} {e : TypeId} {size n : Nat} {v : Value} {xs : List Value} (h : w.ownsRow b1 e size v n xs) (hb : b2 ≤ b1) : w.ownsRow b2 e size v n xs := by
 refine ⟨h.1, ?_⟩
 rcases h.2 with h1 | ⟨gg, cap, cur, hv, hbs, hg, rest⟩
 · exact .inl h1
 exact .inr ⟨gg, cap, cur, hv, Nat.le_trans hb hbs, hg, rest⟩
theorem Aws (x y : Int) {w : World} {O : Om} {g c m : Nat} {M : Int → Int} {n : Int} {la : La} (h : RC w O g c M n la m) (hm : m ≤ 1000000) (hg : g ≠ 0) (x0 : 0 ≤ x) (x1 : x < 18446744073709551616) (y0 : 0 ≤ y) (y1 : y < 18446744073709551616) (hhi : Hh O w) :
 Calls Tryz.prog 101 #[.pointer (some ⟨c, 0, none⟩), .int .u64 x, .int .u64 y] w (RP (fun t => t = g) w O (.tuple #[]) fun W G => RC W G g c (upd M x y) n la (m + 1)) := by
 obtain ⟨v, L, h1, h2, h3, h4, h5, h6, h7⟩ := h.ex
 obtain ⟨i0, hi, hz0, hz1, hz2⟩ := info_parts Bap
 have hA := Arr.of_own h6
 obtain ⟨ao, cp, rfl, hc, hcm⟩ := hA.shape
 have hl : L.length ≤ 9223372036854775807 := by omega
 have hcl := h5.lt
 have H1 := hQd h1
 have H2 := hQd h2
 have H3 := hQd h3
 have H4 := hQd h4
 have H5 := hQd h5
 have HH := hQd hhi
 have HA := hQd hA
 have hm2 : L.length ≤ 1000000 := by omega
 clear h h1 h2 h3 h4 h5 h6 h7 hA hhi
 go_enter Tryz.func101, Tryz.ntmps101
 go_wp2_with fail
 go_loopw [6, 7, 8] (fun o d i wr => ∃ (k : Nat) (out : List Wv) (dn : Bool), k ≤ L.length ∧ i = .int .i64 k ∧ d = .bool dn ∧ wr.ownsRow w.heap.size 140 2 o out.length (Aa2 wvc out) ∧ Below w.heap.size w wr ∧ out.length ≤ 2 * k ∧ rgo x y (y == 0) [] L = rgo x y dn out (L.drop k)) (fun _ _ i _ => L.length - (intOf i).toNat)
 case atStart => exact ⟨0, [], (y == 0), Nat.zero_le _, rfl, rfl, World.ownsRow_nil _ _ _ _, Below.refl _ _, by simp, by simp⟩
 obtain ⟨k, out, dn, hk, rfl, rfl, hown, hbel, hol, hgo⟩ := hrel
 have HO := hQd hown
 have HB := hQd hbel
 have HG := hQd hgo
 have q0 := (hbel.cell (p := ⟨c, 0, none⟩) hcl).trans (H5.out.c 0 _ rfl)
 have hbs := hbel.size
 clear hown hbel hgo
 by_cases hk2 : k < L.length
 · as_aux_lemma =>
   obtain ⟨b, o, c', he, -, -, hlt, hx⟩ := HA.out.open (by omega) (by omega)
   cases he
   obtain ⟨u0, u1⟩ := Aj1 hx k hk2
   have hG2 := HG.out
   rw [List.drop_eq_getElem_cons hk2] at hG2
   have HG2 := hQd hG2
   obtain ⟨q, hq⟩ := exq (L[k])
   rw [← hq] at HG2 u0 u1
   clear hx hG2 hq
   obtain ⟨qa, qv⟩ := q
   dsimp only at u0 u1
   have HU := hQd (aN u0 u1)
   have y0' := (HB.out.cell (p := ⟨b, o + k * 2, none⟩) hlt).trans u0
   have y1' := (HB.out.cell (p := ⟨b, o + k * 2 + 1, none⟩) hlt).trans u1
   clear u0 u1
   by_cases hd : dn = true ∨ qa < x
   · have hcase : (dn = true ∧ (dn = true → True)) ∨ (dn = false ∧ decide (x ≤ qa) = false) := by
      rcases hd with h | h
      · exact .inl ⟨h, fun _ => trivial⟩
      cases dn
      · exact .inr ⟨rfl, by simp; omega⟩
      exact .inl ⟨rfl, fun _ => trivial⟩
     have HG3 : Hid (rgo x y (y == 0) [] L = if qa = x then rgo x y dn out (L.drop (k + 1)) else rgo x y dn (out ++ [⟨qa, qv⟩]) (L.drop (k + 1))) := hQd (by
      rw [HG2.out]
      conv => lhs; unfold rgo
      rw [if_neg (by rcases hd with h | h <;> simp [h] <;> omega)])
     clear hd
     rcases hcase with ⟨rfl, -⟩ | ⟨rfl, hge⟩
     all_goals
      by_cases he : qa = x
      · have het : (qa != x) = false := by simp [he]
        have HG4 := HG3.out
        rw [if_pos he] at HG4
        have HG5 := hQd HG4
        clear he HG4
        go_wp2
        go_roundw
        case rel => exact ⟨k + 1, out, _, by omega, by go_num, rfl, HO.out, HB.out, by omega, HG5.out⟩
        case measure => simp [intOf]; omega
      have het : (qa != x) = true := by simp [he]
      have HG4 := HG3.out
      rw [if_neg he] at HG4
      have HG5 := hQd HG4
      clear he HG4
      go_wp2_with (at_builtin; refine Acf _ rfl _ _ 113 rfl w.heap.size 140 i0 _ 2 16 Tryz.underlying113 hi hz0 hz1 hz2 rfl (by decide) (by decide) _ _ _ rfl HO.out [.int .u64 qa, .int .u64 qv] _ rfl rfl (by simp [Value.oneCell']) (by omega) hbs ?_; intro gg cap w2 hown2 hgr2)
      have hb2 := Abq HB.out hbs HO.out hgr2
      go_roundw
      case rel => exact ⟨k + 1, out ++ [⟨qa, qv⟩], _, by omega, by go_num, rfl, by rw [Abw, List.length_append]; exact hown2, hb2, by rw [List.length_append]; simp; omega, HG5.out⟩
      case measure => simp [intOf]; omega
   have hdn : dn = false := by cases dn <;> simp_all
   subst hdn
   have hge : decide (x ≤ qa) = true := by simp at hd ⊢; omega
   have HG3 : Hid (rgo x y (y == 0) [] L = if qa = x then rgo x y true (out ++ [⟨x, y⟩]) (L.drop (k + 1)) else rgo x y true (out ++ [⟨x, y⟩] ++ [⟨qa, qv⟩]) (L.drop (k + 1))) := hQd (by
    rw [HG2.out]
    conv => lhs; unfold rgo
    rw [if_pos (by simp [hge])])
   clear hd
   by_cases he : qa = x
   · have het : (qa != x) = false := by simp [he]
     have HG4 := HG3.out
     rw [if_pos he] at HG4
     have HG5 := hQd HG4
     clear he HG4
     go_wp2_with (at_builtin; refine Acf _ rfl _ _ 113 rfl w.heap.size 140 i0 _ 2 16 Tryz.underlying113 hi hz0 hz1 hz2 rfl (by decide) (by decide) _ _ _ rfl HO.out [.int .u64 x, .int .u64 y] _ rfl rfl (by simp [Value.oneCell']) (by omega) hbs ?_; intro gg cap w2 hown2 hgr2
                  have HB2 := hQd (Abq HB.out hbs HO.out hgr2)
                  have hs2 := HB2.out.size
                  have q0 := (HB2.out.cell (p := ⟨c, 0, none⟩) hcl).trans (H5.out.c 0 _ rfl)
                  have z0 := (HB2.out.cell (p := ⟨b, o + k * 2, none⟩) hlt).trans HU.out.1
                  have z1 := (HB2.out.cell (p := ⟨b, o + k * 2 + 1, none⟩) hlt).trans HU.out.2
                  have HO2 := hQd hown2
                  clear hown2 hgr2)
     go_roundw
     case rel => exact ⟨k + 1, out ++ [⟨x, y⟩], true, by omega, by go_num, rfl, by rw [Abw, List.length_append]; exact HO2.out, HB2.out, by rw [List.length_append]; simp; omega, HG5.out⟩
     case measure => simp [intOf]; omega
   have het : (qa != x) = true := by simp [he]
   have HG4 := HG3.out
   rw [if_neg he] at HG4
   have HG5 := hQd HG4
   clear he HG4
   go_wp2_with (first
    | (at_builtin; refine Acf _ rfl _ _ 113 rfl w.heap.size 140 i0 _ 2 16 Tryz.underlying113 hi hz0 hz1 hz2 rfl (by decide) (by decide) _ _ _ rfl HO.out [.int .u64 x, .int .u64 y] _ rfl rfl (by simp [Value.oneCell']) (by omega) hbs ?_; intro gg cap w2 hown2 hgr2
       have HB2 := hQd (Abq HB.out hbs HO.out hgr2)
       have hs2 := HB2.out.size
       have q0 := (HB2.out.cell (p := ⟨c, 0, none⟩) hcl).trans (H5.out.c 0 _ rfl)
       have z0 := (HB2.out.cell (p := ⟨b, o + k * 2, none⟩) hlt).trans HU.out.1
       have z1 := (HB2.out.cell (p := ⟨b, o + k * 2 + 1, none⟩) hlt).trans HU.out.2
       have HO2 := hQd hown2
       clear hown2 hgr2)
    | (at_builtin; refine Acf _ rfl _ _ 113 rfl w.heap.size 140 i0 _ 2 16 Tryz.underlying113 hi hz0 hz1 hz2 rfl (by decide) (by decide) _ _ _ rfl HO2.out [.int .u64 qa, .int .u64 qv] _ rfl rfl (by simp [Value.oneCell']) (by omega) hs2 ?_; intro gg3 cap3 w3 hown3 hgr3
       have HB3 := hQd (Abq HB2.out hs2 HO2.out hgr3)
       have HO3 := hQd hown3
       clear hown3 hgr3))
   go_roundw
   case rel => exact ⟨k + 1, out ++ [⟨x, y⟩] ++ [⟨qa, qv⟩], true, by omega, by go_num, rfl, by rw [Abw, Abw, List.length_append, List.length_append]; exact HO3.out, HB3.out, by rw [List.length_append, List.length_append]; simp; omega, HG5.out⟩
   case measure => simp [intOf]; omega
 obtain rfl : k = L.length := by omega
 have HG2 := HG.out
 rw [List.drop_length, Axk] at HG2
 have hfin : ∀ (W : World) (o : Value) (out2 : List Wv), Aon x y L = out2 → W.ownsRow w.heap.size 140 2 o out2.length (Aa2 wvc out2) → Below w.heap.size w W → RP (fun t => t = g) w O (.tuple #[]) (fun W G => RC W G g c (upd M x y) n la (m + 1)) (.returned (.tuple #[])) (W.setCell ⟨c, 0, none⟩ o) := by
  intro W o out2 hput hown hbel
  subst hput
  obtain ⟨O', e1, e2, e3⟩ := Axh HH.out hg hbel hown
  have hX : Ob W O' g c _ := (H5.out.ext (S := fun _ => False) (Ext.of_below HH.out hbel) id) |> fun h => ⟨(e3 c hcl).trans h.o, h.lt, h.c, h.f⟩
  have e4 : Ext (fun t => t = g) O' W O' (W.setCell ⟨c, 0, none⟩ o) := Ext.of_set e1.hi hX.o hg rfl
  have hne : ∀ k, o.ownBlock = some k → k ≠ c := fun k hk e => by have := (hown.lt k hk).1; omega
  refine ⟨rfl, O', e1.trans e4, o, Aon x y L, Axi x y H1.out, Bag H2.out x0 x1 y0 y1, fun z => ?_, ?_, hX.set 0 o (by simp [Axn]), ?_, fun k hk => ⟨e2 k hk, hne k hk⟩⟩
  · rw [Arq]; unfold upd; split
    · rfl
    exact H3.out z
  · have := Axx x y L; have := H4.out; omega
  exact (Aag.setCell (S := fun j => j = c) (Aag.refl _ _) (p := ⟨c, 0, none⟩) (fun _ => rfl) o).own (Alt hown (Nat.zero_le _)) fun k hk e => hne k hk e
 have HF := hQd hfin
 have cf := (HB.out.frozen (p := ⟨c, 0, none⟩) hcl).trans (H5.out.f 0)
 cases dn with
 | true =>
   have HG3 := hQd (show Aon x y L = out by rw [HG2]; unfold rgo; simp)
   clear HG2 hfin
   obtain ⟨oo, oc, rfl, -, -⟩ := (Arr.of_own HO.out).shape
   go_wp2
   go_end0
   exact HF.out _ _ _ HG3.out HO.out HB.out
 | false =>
   have HG3 := hQd (show Aon x y L = out ++ [⟨x, y⟩] by rw [HG2]; unfold rgo; simp)
   clear HG2 hfin
   go_wp2_with (at_builtin; refine Acf _ rfl _ _ 113 rfl w.heap.size 140 i0 _ 2 16 Tryz.underlying113 hi hz0 hz1 hz2 rfl (by decide) (by decide) _ _ _ rfl HO.out [.int .u64 x, .int .u64 y] _ rfl rfl (by simp [Value.oneCell']) (by omega) hbs ?_; intro gg cap w2 hown2 hgr2
                have HB2 := hQd (Abq HB.out hbs HO.out hgr2)
                have hs2 := HB2.out.size
                have q0 := (HB2.out.cell (p := ⟨c, 0, none⟩) hcl).trans (H5.out.c 0 _ rfl)
                have cf2 := (HB2.out.frozen (p := ⟨c, 0, none⟩) hcl).trans (H5.out.f 0)
                have HO2 := hQd hown2
                clear hown2 hgr2)
   go_end0
   exact HF.out _ _ _ HG3.out (by rw [Abw, List.length_append]; exact HO2.out) HB2.out
theorem Aew (kd x y : Int) {w : World} {O : Om} {g c m : Nat} {M : Int → Int} {n : Int} {la : La} (h : RC w O g c M n la m) (hm : m ≤ 1000000) (hg : g ≠ 0) (x0 : 0 ≤ x) (x1 : x < 18446744073709551616) (y0 : 0 ≤ y) (y1 : y < 18446744073709551616) (hhi : Hh O w) (n0 : 0 ≤ n) (n1 : n ≤ 4611686018427387904) :
 Calls Tryz.prog 112 #[.pointer (some ⟨c, 0, none⟩), .int .u8 kd, .int .u64 x, .int .u64 y] w (RP (fun t => t = g) w O (.int .u64 (M x)) fun W G => RC W G g c (upd M x y) (n + 1) ⟨kd, x, M x, y⟩ (m + 1)) := by
 have HK := hQd (Aim x h hm)
 have HU := hQd (Aws x y h hm hg x0 x1 y0 y1 hhi)
 clear h hhi
 go_enter Tryz.func112, Tryz.ntmps112
 go_wp2_with fail
 refine (HK.out).mono ?_
 rintro e w' ⟨rfl, rfl⟩
 go_wp2_with fail
 refine (HU.out).mono ?_
 rintro e w1 ⟨rfl, O1, e1, h1⟩
 obtain ⟨v, L, k1, k2, k3, k4, k5, k6, k7⟩ := h1.ex
 obtain ⟨-, q1, q2, q3, q4, q5⟩ := k5.c6
 have qf := k5.f
 have K5 := hQd k5
 have K6 := hQd k6
 have E1 := hQd e1
 have KK := hQd (aN k1 (aN k2 (aN k3 (aN k4 k7))))
 clear h1 k1 k2 k3 k4 k5 k6 k7 e1 HK HU
 go_wp2
 go_ret
 obtain ⟨k1, k2, k3, k4, k7⟩ := KK.out
 have s1 := K5.out.set 1 (.int .i64 (n + 1)) (by simp [Axn])
 have s2 := s1.set 2 (.int .u8 kd) (by simp [Axn])
 have s3 := s2.set 3 (.int .u64 x) (by simp [Axn])
 have s4 := s3.set 4 (.int .u64 (M x)) (by simp [Axn])
 have s5 := s4.set 5 (.int .u64 y) (by simp [Axn])
 have hw : ∀ (W : World) (j : Nat) (u : Value), W.ownsRow 0 140 2 v L.length (Aa2 wvc L) → (W.setCell ⟨c, j, none⟩ u).ownsRow 0 140 2 v L.length (Aa2 wvc L) := fun W j u hW => (Aag.setCell (S := fun j => j = c) (Aag.refl _ _) (p := ⟨c, j, none⟩) (fun _ => rfl) u).own hW fun k hk e => (k7 k hk).2 e
 have he : ∀ (W : World) (j : Nat) (u : Value), Ext (fun t => t = g) O w O1 W → Ext (fun t => t = g) O w O1 (W.setCell ⟨c, j, none⟩ u) := fun W j u hW => hW.trans (Ext.of_set hW.hi K5.out.o hg rfl)
 exact ⟨rfl, O1, he _ _ _ (he _ _ _ (he _ _ _ (he _ _ _ (he _ _ _ E1.out)))), v, L, k1, k2, k3, k4, s5, hw _ _ _ (hw _ _ _ (hw _ _ _ (hw _ _ _ (hw _ _ _ K6.out)))), k7⟩
section
variable {w : World} {O : Om} {g c m : Nat} {M : Int → Int} {n : Int} {la : La}
theorem Ayj (x : Int) (h : RC w O g c M n la m) (hm : m ≤ 1000000) (hg : g ≠ 0) (x0 : 0 ≤ x) (x1 : x < 18446744073709551616) (hhi : Hh O w) (n0 : 0 ≤ n) (n1 : n ≤ 4611686018427387904) :
 Calls Tryz.prog 75 #[.pointer (some ⟨c, 0, none⟩), .int .u64 x] w (RP (fun t => t = g) w O (.int .u64 (M x)) fun W G => RC W G g c M (n + 1) ⟨1, x, M x, M x⟩ (m + 1)) := by
 have hb := h.bd x
 have HK := hQd (Aim x h hm)
 have HU := hQd (Aew 1 x (M x) h hm hg x0 x1 hb.1 hb.2 hhi n0 n1)
 rw [Awi] at HU
 clear h hhi
 go_enter Tryz.func75, Tryz.ntmps75
 go_wp2_with fail
 refine (HK.out).mono ?_
 rintro e w' ⟨rfl, rfl⟩
 go_wp2_with fail
 refine (HU.out).mono ?_
 rintro e w1 ⟨rfl, O1, e1, h1⟩
 have HE := hQd (aN e1 h1)
 clear e1 h1 HK HU
 go_wp2
 go_ret
 exact ⟨rfl, O1, HE.out⟩
theorem Avp (x y : Int) (h : RC w O g c M n la m) (hm : m ≤ 1000000) (hg : g ≠ 0) (x0 : 0 ≤ x) (x1 : x < 18446744073709551616) (y0 : 0 ≤ y) (y1 : y < 18446744073709551616) (hhi : Hh O w) (n0 : 0 ≤ n) (n1 : n ≤ 4611686018427387904) :
 Calls Tryz.prog 74 #[.pointer (some ⟨c, 0, none⟩), .int .u64 x, .int .u64 y] w (RP (fun t => t = g) w O (.int .u64 (M x)) fun W G => RC W G g c (upd M x y) (n + 1) ⟨2, x, M x, y⟩ (m + 1)) := by
 have HU := hQd (Aew 2 x y h hm hg x0 x1 y0 y1 hhi n0 n1)
 clear h hhi
 go_enter Tryz.func74, Tryz.ntmps74
 go_wp2_with fail
 refine (HU.out).mono ?_
 rintro e w1 ⟨rfl, O1, e1, h1⟩
 have HE := hQd (aN e1 h1)
 clear e1 h1 HU
 go_wp2
 go_ret
 exact ⟨rfl, O1, HE.out⟩
theorem Ba2 (x y : Int) (h : RC w O g c M n la m) (hm : m ≤ 1000000) (hg : g ≠ 0) (x0 : 0 ≤ x) (x1 : x < 18446744073709551616) (y0 : 0 ≤ y) (y1 : y < 18446744073709551616) (hhi : Hh O w) (n0 : 0 ≤ n) (n1 : n ≤ 4611686018427387904) :
 Calls Tryz.prog 122 #[.pointer (some ⟨c, 0, none⟩), .int .u64 x, .int .u64 y] w (RP (fun t => t = g) w O (.int .u64 (M x)) fun W G => RC W G g c (upd M x ((M x + y) % 18446744073709551616)) (n + 1) ⟨4, x, M x, (M x + y) % 18446744073709551616⟩ (m + 1)) := by
 have hb := h.bd x
 have HK := hQd (Aim x h hm)
 obtain ⟨z, hz⟩ := exq ((M x + y) % 18446744073709551616)
 have hw : IntKind.u64.wrap (M x + y) = z := by rw [hz, IntKind.wrap_u64]
 have z0 : 0 ≤ z ∧ z < 18446744073709551616 := by omega
 rw [← hz]
 have HU := hQd (Aew 4 x z h hm hg x0 x1 z0.1 z0.2 hhi n0 n1)
 have HW := hQd hw
 clear h hhi hz hw
 go_enter Tryz.func122, Tryz.ntmps122
 go_wp2_with fail
 refine (HK.out).mono ?_
 rintro e w' ⟨rfl, rfl⟩
 have hw := HW.out
 go_wp2_with fail
 refine (HU.out).mono ?_
 rintro e w1 ⟨rfl, O1, e1, h1⟩
 have HE := hQd (aN e1 h1)
 clear e1 h1 HK HU
 go_wp2
 go_ret
 exact ⟨rfl, O1, HE.out⟩
theorem Ba1 (x o y : Int) (h : RC w O g c M n la m) (hm : m ≤ 1000000) (hg : g ≠ 0) (x0 : 0 ≤ x) (x1 : x < 18446744073709551616) (y0 : 0 ≤ y) (y1 : y < 18446744073709551616) (hhi : Hh O w) (n0 : 0 ≤ n) (n1 : n ≤ 4611686018427387904) :
 Calls Tryz.prog 139 #[.pointer (some ⟨c, 0, none⟩), .int .u64 x, .int .u64 o, .int .u64 y] w (RP (fun t => t = g) w O (.tuple #[.int .u64 (M x), .bool (M x == o)]) fun W G => RC W G g c (upd M x (if M x = o then y else M x)) (n + 1) ⟨3, x, M x, if M x = o then y else M x⟩ (m + 1)) := by
 have hb := h.bd x
 have HK := hQd (Aim x h hm)
 by_cases ho : M x = o
 · rw [if_pos ho]
   have HU := hQd (Aew 3 x y h hm hg x0 x1 y0 y1 hhi n0 n1)
   have e1 : (M x != o) = false := by simp [ho]
   have e2 : (M x == o) = true := by simp [ho]
   rw [e2]
   clear h hhi ho
   go_enter Tryz.func139, Tryz.ntmps139
   go_wp2_with fail
   refine (HK.out).mono ?_
   rintro e w' ⟨rfl, rfl⟩
   go_wp2_with fail
   refine (HU.out).mono ?_
   rintro e w1 ⟨rfl, O1, e1', h1⟩
   have HE := hQd (aN e1' h1)
   clear e1' h1 HK HU
   go_wp2
   go_ret2
   exact ⟨rfl, O1, HE.out⟩
 rw [if_neg ho]
 have HU := hQd (Aew 3 x (M x) h hm hg x0 x1 hb.1 hb.2 hhi n0 n1)
 have e1 : (M x != o) = true := by simp [ho]
 have e2 : (M x == o) = false := by simp [ho]
 rw [e2]
 clear h hhi ho
 go_enter Tryz.func139, Tryz.ntmps139
 go_wp2_with fail
 refine (HK.out).mono ?_
 rintro e w' ⟨rfl, rfl⟩
 go_wp2_with fail
 refine (HU.out).mono ?_
 rintro e w1 ⟨rfl, O1, e1', h1⟩
 have HE := hQd (aN e1' h1)
 clear e1' h1 HK HU
 go_wp2
 go_ret2
 exact ⟨rfl, O1, HE.out⟩
end
end
section
open Go.RowKit
theorem Baz (x : Int) (w : World) (x0 : 0 ≤ x) (x1 : x ≤ 18446744073709551615) :
 Calls Tryz.prog 140 #[.int .u64 x] w fun e w' => e = .returned (.int .i64 (Afg x)) ∧ w = w' := by
 unfold Afg
 go_enter Tryz.func140, Tryz.ntmps140
 go_wp2
 go_ret
 exact ⟨rfl, rfl⟩
theorem Bcl (x : Int) (w : World) (x0 : 0 ≤ x) (x1 : x ≤ 18446744073709551615) :
 Calls Tryz.prog 141 #[.int .u64 x] w fun e w' => e = .returned (.int .i64 (Ag4 x)) ∧ w = w' := by
 unfold Ag4
 go_enter Tryz.func141, Tryz.ntmps141
 go_wp2
 go_ret
 exact ⟨rfl, rfl⟩
theorem Ba0 (x : Int) (w : World) (x0 : 0 ≤ x) (x1 : x ≤ 18446744073709551615) :
 Calls Tryz.prog 142 #[.int .u64 x] w fun e w' => e = .returned (.int .i64 (Adf x)) ∧ w = w' := by
 have h : x / 281474976710656 = x / 16777216 / 16777216 := by omega
 unfold Adf
 rw [h]
 go_enter Tryz.func142, Tryz.ntmps142
 go_wp2
 go_ret
 exact ⟨rfl, rfl⟩
theorem Baw (n a g : Int) (w : World) (n0 : -9223372036854775808 ≤ n) (n1 : n ≤ 9223372036854775807) (a0 : -9223372036854775808 ≤ a) (a1 : a ≤ 9223372036854775807) (g0 : -9223372036854775808 ≤ g) (g1 : g ≤ 9223372036854775807) :
 Calls Tryz.prog 143 #[.int .i64 n, .int .i64 a, .int .i64 g] w fun e w' => e = .returned (.int .u64 (Aff n a g)) ∧ w = w' := by
 go_enter Tryz.func143, Tryz.ntmps143
 go_wp2
 go_ret
 exact ⟨Aa6 (by
  unfold Aff
  simp only [IntKind.wrap_u64]
  rw [Int.tmod_eq_emod_of_nonneg (by omega), Int.tmod_eq_emod_of_nonneg (by omega), Int.tmod_eq_emod_of_nonneg (by omega)]
  omega), rfl⟩
theorem Ayb (x : Int) (w : World) (x0 : 0 ≤ x) (x1 : x ≤ 18446744073709551615) :
 Calls Tryz.prog 111 #[.int .u64 x] w fun e w' => e = .returned (.int .u64 (Acq x)) ∧ w = w' := by
 have hn := Ao8 x
 have ha := Asi x
 have hg := Ao9 x0 x1
 have ht : (Afg x < 16777215 ∧ Aa3 x = Afg x + 1) ∨ (¬ Afg x < 16777215 ∧ Aa3 x = Afg x) := by unfold Aa3; split <;> omega
 have hc : (0 < Ag4 x ∧ Ag4 x ≤ Aa3 x ∧ Adf x < 65535 ∧ Acq x = Aff (Aa3 x) 0 (Adf x + 1)) ∨ (0 < Ag4 x ∧ Ag4 x ≤ Aa3 x ∧ ¬ Adf x < 65535 ∧ Acq x = Aff (Aa3 x) 0 (Adf x)) ∨ (0 < Ag4 x ∧ ¬ Ag4 x ≤ Aa3 x ∧ Acq x = Aff (Aa3 x) (Ag4 x) (Adf x)) ∨ (Ag4 x = 0 ∧ Acq x = Aff (Aa3 x) 0 (Adf x)) := by
  unfold Acq Al5
  by_cases c1 : 0 < Ag4 x
  · by_cases c2 : Ag4 x ≤ Aa3 x
    · rw [if_pos (by rw [decide_eq_true_eq]; exact ⟨c1, c2⟩)]
      by_cases c3 : Adf x < 65535
      · left; exact ⟨c1, c2, c3, by rw [if_pos c3]⟩
      right; left; exact ⟨c1, c2, c3, by rw [if_neg c3, show Adf x = 65535 by omega]⟩
    right; right; left
    rw [if_neg (by rw [decide_eq_true_eq]; omega)]
    exact ⟨c1, c2, rfl⟩
  right; right; right
  rw [if_neg (by rw [decide_eq_true_eq]; omega)]
  exact ⟨by omega, by rw [show Ag4 x = 0 by omega]⟩
 rcases ht with ⟨t1, t2⟩ | ⟨t1, t2⟩
 all_goals rw [t2] at hc; clear t2
 all_goals rcases hc with ⟨c1, c2, c3, e⟩ | ⟨c1, c2, c3, e⟩ | ⟨c1, c2, e⟩ | ⟨c1, e⟩
 all_goals
  rw [e]
  clear e
  go_enter Tryz.func111, Tryz.ntmps111
  go_wp2_with (first | (go_at_call 140; refine (Baz _ _ x0 x1).mono ?_; rintro e w' ⟨rfl, rfl⟩) | (go_at_call 141; refine (Bcl _ _ x0 x1).mono ?_; rintro e w' ⟨rfl, rfl⟩) | (go_at_call 142; refine (Ba0 _ _ x0 x1).mono ?_; rintro e w' ⟨rfl, rfl⟩) | (go_at_call 143; refine (Baw _ _ _ _ (by omega) (by omega) (by omega) (by omega) (by omega) (by omega)).mono ?_; rintro e w' ⟨rfl, rfl⟩))
  all_goals (go_ret; exact ⟨rfl, rfl⟩)
end
section
open Go.RowKit
structure LH {α : Type} (w : World) (O : Om) (t : Nat) (E : TypeId) (size : Nat) (f : α → List Value) (h : Nat) (l : List α) : Prop where
 ex : ∃ v, Ob w O t h [v] ∧ w.ownsRow 0 E size v l.length (Aa2 f l) ∧ ∀ k, v.ownBlock = some k → O k = t ∧ k ≠ h
theorem LH.ext {α : Type} {S : Nat → Prop} {O O' : Om} {w w' : World} {t h size : Nat} {E : TypeId} {f : α → List Value} {l : List α} (n : LH w O t E size f h l) (e : Ext S O w O' w') (hs : ¬ S t := by omega) : LH w' O' t E size f h l := by
 obtain ⟨v, h1, h2, h3⟩ := n.ex
 exact ⟨v, h1.ext e hs, e.own h2 (fun k hk => by rw [(h3 k hk).1]; exact hs), fun k hk => ⟨(e.lo k (h2.lt k hk).2).trans (h3 k hk).1, (h3 k hk).2⟩⟩
structure RW (w : World) (O : Om) (B : Wb) (f : Cf) (s : AW) (m : Nat) : Prop where
 o : O B.p = 5
 wo : Wo w B.p B.c B.ip B.np f s.tk s.ho
 ce : RC w O 6 B.c s.M s.n s.la m
 ar : LH w O 7 58 6 itc B.ip s.it
 no : LH w O 8 123 8 ntr B.np s.nt
def SR (t : Nat) : Prop := 5 ≤ t ∧ t ≤ 8
section
variable {S : Nat → Prop} {O O' : Om} {w w' : World} {B : Wb} {f : Cf} {s : AW} {m : Nat}
theorem RW.ext (h : RW w O B f s m) (e : Ext S O w O' w') (h1 : ¬ S 5 := by omega) (h2 : ¬ S 6 := by omega) (h3 : ¬ S 7 := by omega) (h4 : ¬ S 8 := by omega) : RW w' O' B f s m :=
 ⟨(e.lo _ h.wo.lt).trans h.o, h.wo.wrote e.wr fun k => h1 (by have := k.1; rwa [h.o] at this), h.ce.ext e h2, h.ar.ext e h3, h.no.ext e h4⟩
theorem RW.below (h : RW w O B f s m) (hhi : Hh O w) (hb : Below w.heap.size w w') : RW w' O B f s m := h.ext (S := fun _ => False) (Ext.of_below hhi hb) id id id id
theorem RW.cells {M : Int → Int} {n : Int} {la : La} {m1 : Nat} (h : RW w O B f s m) (e : Ext (fun t => t = 6) O w O' w') (hc : RC w' O' 6 B.c M n la m1) : RW w' O' B f ⟨M, n, la, s.tk, s.ho, s.it, s.nt⟩ m1 :=
 ⟨(e.lo _ h.wo.lt).trans h.o, h.wo.wrote e.wr (fun k => absurd (show (5 : Nat) = 6 from by have := k.1; rwa [h.o] at this) (by decide)), hc, h.ar.ext e (by decide), h.no.ext e (by decide)⟩
theorem RW.rp {M : Int → Int} {n : Int} {la : La} {m1 : Nat} {v : Value} {e : Ending} (h : RW w O B f s m) (hp : RP (fun t => t = 6) w O v (fun W G => RC W G 6 B.c M n la m1) e w') : RP SR w O v (fun W G => RW W G B f ⟨M, n, la, s.tk, s.ho, s.it, s.nt⟩ m1) e w' := by
 obtain ⟨rfl, O', h1, h2⟩ := hp
 exact ⟨rfl, O', h1.mono fun t _ ht => by subst ht; exact ⟨by decide, by decide⟩, h.cells h1 h2⟩
theorem RW.bd (h : RW w O B f s m) : Bd s.M := h.ce.bd
theorem Ak0 (x : Int) (h : RW w O B f s m) (hm : m ≤ 1000000) :
 Calls Tryz.prog 67 #[.pointer (some ⟨B.p, 0, none⟩), .int .u64 x] w fun e w' => e = .returned (.int .u64 (s.M x)) ∧ w = w' := by
 have p0 := h.wo.c0
 have HK := hQd (Aim x h.ce hm)
 clear h
 go_enter Tryz.func67, Tryz.ntmps67
 go_wp2_with fail
 refine (HK.out).mono ?_
 rintro e w' ⟨rfl, rfl⟩
 go_wp2
 go_ret
 exact ⟨rfl, rfl⟩
theorem Ac1 (x : Int) (h : RW w O B f s m) (hm : m ≤ 1000000) (x0 : 0 ≤ x) (x1 : x < 18446744073709551616) (hhi : Hh O w) (n0 : 0 ≤ s.n) (n1 : s.n ≤ 4611686018427387904) :
 Calls Tryz.prog 28 #[.pointer (some ⟨B.p, 0, none⟩), .int .u64 x] w (RP SR w O (.int .u64 (s.M x)) fun W G => RW W G B f (Aan x s) (m + 1)) := by
 have p0 := h.wo.c0
 have HK := hQd (Ayj x h.ce hm (by decide) x0 x1 hhi n0 n1)
 have H := hQd h
 clear h hhi
 go_enter Tryz.func28, Tryz.ntmps28
 go_wp2_with fail
 refine (HK.out).mono ?_
 intro e w1 hp
 obtain ⟨rfl, O1, e1, h1⟩ := H.out.rp hp
 have HE := hQd (aN e1 h1)
 clear hp e1 h1
 go_wp2
 go_ret
 exact ⟨rfl, O1, HE.out⟩
theorem Adg (x y : Int) (h : RW w O B f s m) (hm : m ≤ 1000000) (x0 : 0 ≤ x) (x1 : x < 18446744073709551616) (y0 : 0 ≤ y) (y1 : y < 18446744073709551616) (hhi : Hh O w) (n0 : 0 ≤ s.n) (n1 : s.n ≤ 4611686018427387904) :
 Calls Tryz.prog 27 #[.pointer (some ⟨B.p, 0, none⟩), .int .u64 x, .int .u64 y] w (RP SR w O (.int .u64 (s.M x)) fun W G => RW W G B f (Aax x y s) (m + 1)) := by
 have p0 := h.wo.c0
 have HK := hQd (Avp x y h.ce hm (by decide) x0 x1 y0 y1 hhi n0 n1)
 have H := hQd h
 clear h hhi
 go_enter Tryz.func27, Tryz.ntmps27
 go_wp2_with fail
 refine (HK.out).mono ?_
 intro e w1 hp
 obtain ⟨rfl, O1, e1, h1⟩ := H.out.rp hp
 have HE := hQd (aN e1 h1)
 clear hp e1 h1
 go_wp2
 go_ret
 exact ⟨rfl, O1, HE.out⟩
theorem Aya (x o y : Int) (h : RW w O B f s m) (hm : m ≤ 1000000) (x0 : 0 ≤ x) (x1 : x < 18446744073709551616) (y0 : 0 ≤ y) (y1 : y < 18446744073709551616) (hhi : Hh O w) (n0 : 0 ≤ s.n) (n1 : s.n ≤ 4611686018427387904) :
 Calls Tryz.prog 110 #[.pointer (some ⟨B.p, 0, none⟩), .int .u64 x, .int .u64 o, .int .u64 y] w (RP SR w O (.tuple #[.int .u64 (s.M x), .bool (s.M x == o)]) fun W G => RW W G B f ⟨upd s.M x (if s.M x = o then y else s.M x), s.n + 1, ⟨3, x, s.M x, if s.M x = o then y else s.M x⟩, s.tk, s.ho, s.it, s.nt⟩ (m + 1)) := by
 have p0 := h.wo.c0
 have HK := hQd (Ba1 x o y h.ce hm (by decide) x0 x1 y0 y1 hhi n0 n1)
 have H := hQd h
 obtain ⟨b, hb⟩ := exq (s.M x == o)
 obtain ⟨z, hz⟩ := exq (if s.M x = o then y else s.M x)
 rw [← hb, ← hz] at HK ⊢
 clear h hhi hb hz
 go_enter Tryz.func110, Tryz.ntmps110
 go_wp2_with fail
 refine (HK.out).mono ?_
 intro e w1 hp
 obtain ⟨rfl, O1, e1, h1⟩ := H.out.rp hp
 have HE := hQd (aN e1 h1)
 clear hp e1 h1
 go_wp2
 go_ret2
 exact ⟨rfl, O1, HE.out⟩
theorem Asq (x y : Int) (h : RW w O B f s m) (hm : m ≤ 1000000) (x0 : 0 ≤ x) (x1 : x < 18446744073709551616) (y0 : 0 ≤ y) (y1 : y < 18446744073709551616) (hhi : Hh O w) (n0 : 0 ≤ s.n) (n1 : s.n ≤ 4611686018427387904) :
 Calls Tryz.prog 86 #[.pointer (some ⟨B.p, 0, none⟩), .int .u64 x, .int .u64 y] w (RP SR w O (.int .u64 (s.M x)) fun W G => RW W G B f ⟨upd s.M x ((s.M x + y) % 18446744073709551616), s.n + 1, ⟨4, x, s.M x, (s.M x + y) % 18446744073709551616⟩, s.tk, s.ho, s.it, s.nt⟩ (m + 1)) := by
 have p0 := h.wo.c0
 have HK := hQd (Ba2 x y h.ce hm (by decide) x0 x1 y0 y1 hhi n0 n1)
 have H := hQd h
 clear h hhi
 go_enter Tryz.func86, Tryz.ntmps86
 go_wp2_with fail
 refine (HK.out).mono ?_
 intro e w1 hp
 obtain ⟨rfl, O1, e1, h1⟩ := H.out.rp hp
 have HE := hQd (aN e1 h1)
 clear hp e1 h1
 go_wp2
 go_ret
 exact ⟨rfl, O1, HE.out⟩
theorem Amb (h : RW w O B f s m) : C1 45 B.p w fun e w' => e = .returned (.int .i64 s.n) ∧ w = w' := by
 have p0 := h.wo.c0
 obtain ⟨v, L, k1, k2, k3, k4, k5, k6, k7⟩ := h.ce.ex
 have q1 := k5.c 1 _ rfl
 clear h k1 k2 k3 k4 k5 k6 k7
 go_enter Tryz.func45, Tryz.ntmps45
 go_wp2
 go_ret
 exact ⟨rfl, rfl⟩
theorem Avn (h : RW w O B f s m) (hm : m ≤ 1000000) (hhi : Hh O w) (n0 : 0 ≤ s.n) (n1 : s.n ≤ 4611686018427387904) :
 C1 73 B.p w (RP SR w O (.tuple #[]) fun W G => RW W G B f (At5 s) (m + 1)) := by
 have hb := h.bd 8
 have htb := Al4 (s.M 8)
 have HK := hQd (Ak0 8 h hm)
 have HC := hQd (Aya 8 (s.M 8) (Acq (s.M 8)) h hm (by decide) (by decide) htb.1 (by omega) hhi n0 n1)
 rw [if_pos rfl] at HC
 clear h hhi
 go_enter Tryz.func73, Tryz.ntmps73
 go_wp2_with fail
 refine (HK.out).mono ?_
 rintro e w' ⟨rfl, rfl⟩
 go_wp2_with fail
 refine (Ayb (s.M 8) _ hb.1 (by omega)).mono ?_
 rintro e w' ⟨rfl, rfl⟩
 go_wp2_with fail
 refine (HC.out).mono ?_
 rintro e w1 ⟨rfl, O1, e1, h1⟩
 have HE := hQd (aN e1 h1)
 clear e1 h1 HC HK
 go_wp2
 go_end0
 exact ⟨rfl, O1, HE.out⟩
end
end
section
open Go.RowKit
def SD (a b t : Nat) : Prop := SR t ∨ (a ≤ t ∧ t ≤ b)
theorem SD.not {a b t : Nat} (h : 9 ≤ t) (h2 : t < a ∨ b < t) : ¬ SD a b t := fun k => by unfold SD SR at k; omega
theorem SD.mono {a b c d t : Nat} (h1 : c ≤ a) (h2 : b ≤ d) (h : SD a b t) : SD c d t := by unfold SD SR at h ⊢; omega
structure Md (a b : Nat) (w0 : World) (O0 : Om) (w : World) (O : Om) (B : Wb) (f : Cf) (s : AW) (m k T : Nat) (cs : List Value) : Prop where
 e : Ext (SD a b) O0 w0 O w
 p : RW w O B f s m
 t : Ob w O k T cs
section
variable {a b k T m m1 : Nat} {cs : List Value} {O O0 O1 : Om} {w w1 w0 : World} {B : Wb} {f : Cf} {s s1 : AW}
theorem Md.start (hhi : Hh O w) (hp : RW w O B f s m) (ht : Ob w O k T cs) : Md a b w O w O B f s m k T cs := ⟨Ext.refl hhi, hp, ht⟩
theorem Md.set (h : Md a b w0 O0 w O B f s m k T cs) (hk : 10 ≤ k) (ha : a ≤ k) (hb : k ≤ b) (j : Nat) (v : Value) (hj : j < cs.length) : Md a b w0 O0 (w.setCell ⟨T, j, none⟩ v) O B f s m k T (cs.set j v) := by
 have e : Ext (fun t => t = k) O w O (w.setCell ⟨T, j, none⟩ v) := Ext.of_set h.e.hi h.t.o (by omega) rfl
 exact ⟨h.e.trans (e.mono fun t _ ht => .inr (by omega)), h.p.ext e, h.t.set j v hj⟩
theorem Md.drew (h : Md a b w0 O0 w O B f s m k T cs) : Md a b w0 O0 w.drew O B f s m k T cs := ⟨h.e.drew, h.p.below h.e.hi (Aaa w), h.t.below (Aaa w)⟩
theorem Md.below (h : Md a b w0 O0 w O B f s m k T cs) (hb : Below w.heap.size w w1) : Md a b w0 O0 w1 O B f s m k T cs := ⟨h.e.below hb, h.p.below h.e.hi hb, h.t.below hb⟩
theorem Md.world (h : Md a b w0 O0 w O B f s m k T cs) (hk : 10 ≤ k) (e : Ext SR O w O1 w1) (hp : RW w1 O1 B f s1 m1) : Md a b w0 O0 w1 O1 B f s1 m1 k T cs := ⟨h.e.trans (e.mono fun t _ ht => .inl ht), hp, h.t.ext e fun h => by have := h.2; omega⟩
theorem Md.call {c d : Nat} (h : Md a b w0 O0 w O B f s m k T cs) (hk : 10 ≤ k) (hkc : k < c ∨ d < k) (ha : a ≤ c) (hb : d ≤ b) (e : Ext (SD c d) O w O1 w1) (hp : RW w1 O1 B f s1 m1) : Md a b w0 O0 w1 O1 B f s1 m1 k T cs :=
 ⟨h.e.trans (e.mono fun t _ ht => SD.mono ha hb ht), hp, h.t.ext e (SD.not (by omega) hkc)⟩
theorem Md.rp {v : Value} (h : Md a b w0 O0 w O B f s m k T cs) : RP (SD a b) w0 O0 v (fun W G => RW W G B f s m ∧ Ob W G k T cs) (.returned v) w := ⟨rfl, O, h.e, h.p, h.t⟩
end
end
section
open Go.RowKit
def Auw (bl : List Nat) : List Value := bl.map fun b => .pointer (some ⟨b, 0, none⟩)
theorem Ap7 {w : World} {bb o : Nat} {bl : List Nat} (h : ∀ j u, (Auw bl)[j]? = some u → w.cell? ⟨bb, o + j, none⟩ = some u) (i : Nat) (hi : i < bl.length) : w.cell? ⟨bb, o + i, none⟩ = some (.pointer (some ⟨bl[i], 0, none⟩)) :=
 h i _ (by unfold Auw; rw [List.getElem?_map, List.getElem?_eq_getElem hi]; rfl)
theorem Anw (ip n : Nat) (v : Value) (bl : List Nat) (w : World) (h0 : w.cell? ⟨ip, 0, none⟩ = some v) (hv : Arr w v bl.length 1 (Auw bl)) (hn : n < 64 * bl.length) (hb : bl.length ≤ 100000) :
 Calls Tryz.prog 96 #[.pointer (some ⟨ip, 0, none⟩), .int .i64 n] w fun e w' => e = .returned (.pointer (some ⟨bl[n / 64]'(by omega), n % 64 * 6, none⟩)) ∧ w = w' := by
 obtain ⟨b, o, c, rfl, hc, hm, hlt, hx⟩ := hv.open (by omega) (by omega)
 have y0 := Ap7 hx (n / 64) (by omega)
 obtain ⟨q, hq⟩ := exq (bl[n / 64]'(by omega))
 rw [← hq] at y0 ⊢
 have d1 : (n : Int) / 64 = ((n / 64 : Nat) : Int) := by omega
 have d2 : (n : Int) % 64 = ((n % 64 : Nat) : Int) := by omega
 have d3 : n / 64 < bl.length := by omega
 have d4 : n % 64 < 64 := by omega
 have hl : bl.length ≤ 9223372036854775807 := by omega
 obtain ⟨qa, hqa⟩ := exq (n / 64)
 obtain ⟨qb, hqb⟩ := exq (n % 64)
 rw [← hqa] at y0 d1 d3
 rw [← hqb] at d2 d4 ⊢
 have hn9 : n < 64 * bl.length := hn
 clear hx hq hqa hqb hv
 go_enter Tryz.func96, Tryz.ntmps96
 go_wp2
 go_ret
 exact ⟨rfl, rfl⟩
def Am1 (w : World) (b o : Nat) (v0 v1 v2 v3 v4 v5 : Value) : World := (((((w.setCell ⟨b, o, none⟩ v0).setCell ⟨b, o + 1, none⟩ v1).setCell ⟨b, o + 2, none⟩ v2).setCell ⟨b, o + 3, none⟩ v3).setCell ⟨b, o + 4, none⟩ v4).setCell ⟨b, o + 5, none⟩ v5
theorem Aa9 {w : World} {b o b2 o2 : Nat} {v : Value} (h : b2 ≠ b ∨ o2 ≠ o) : (w.setCell ⟨b, o, none⟩ v).cell? ⟨b2, o2, none⟩ = w.cell? ⟨b2, o2, none⟩ := World.cell?_setCell_other _ _ _ _ (by simp; intro h1 h2; rcases h with h | h <;> omega)
theorem Aa0 {w : World} {p q : Addr} {v : Value} (h : ∃ u, w.cell? q = some u) : ∃ u, (w.setCell p v).cell? q = some u := by
 obtain ⟨u, h⟩ := h
 by_cases e : p = q
 · subst e; exact ⟨_, World.cell?_setCell_same _ _ _ h⟩
 exact ⟨u, (World.cell?_setCell_other _ _ _ _ e).trans h⟩
theorem Auq (w : World) (b o : Nat) (v0 v1 v2 v3 v4 v5 : Value) (b2 o2 : Nat) (h : b2 ≠ b ∨ o2 < o ∨ o + 6 ≤ o2) : (Am1 w b o v0 v1 v2 v3 v4 v5).cell? ⟨b2, o2, none⟩ = w.cell? ⟨b2, o2, none⟩ := by
 unfold Am1
 rw [Aa9 (by omega), Aa9 (by omega), Aa9 (by omega), Aa9 (by omega), Aa9 (by omega), Aa9 (by omega)]
theorem Anf (w : World) (b o : Nat) (v0 v1 v2 v3 v4 v5 : Value) (b2 o2 : Nat) : (Am1 w b o v0 v1 v2 v3 v4 v5).frozen? ⟨b2, o2, none⟩ = w.frozen? ⟨b2, o2, none⟩ := by
 unfold Am1
 simp only [World.frozen?_setCell]
theorem Ahx (w : World) (b o : Nat) (v0 v1 v2 v3 v4 v5 : Value) : (Am1 w b o v0 v1 v2 v3 v4 v5).heap.size = w.heap.size := by
 unfold Am1
 simp
theorem Agh (w : World) (b o : Nat) (v0 v1 v2 v3 v4 v5 : Value) : Aag (fun k => k = b) w (Am1 w b o v0 v1 v2 v3 v4 v5) := by
 have k : ∀ (W : World) (j : Nat) (v : Value), Aag (fun k => k = b) w W → Aag (fun k => k = b) w (W.setCell ⟨b, j, none⟩ v) := fun W j v h => Aag.setCell (S := fun k => k = b) h (p := ⟨b, j, none⟩) (fun _ => rfl) v
 exact k _ _ _ (k _ _ _ (k _ _ _ (k _ _ _ (k _ _ _ (k _ _ _ (Aag.refl _ _))))))
theorem Axg (w : World) (b o : Nat) (v0 v1 v2 v3 v4 v5 : Value) (h : ∀ j, j < 6 → ∃ u, w.cell? ⟨b, o + j, none⟩ = some u) (j : Nat) (u : Value) (hj : [v0, v1, v2, v3, v4, v5][j]? = some u) : (Am1 w b o v0 v1 v2 v3 v4 v5).cell? ⟨b, o + j, none⟩ = some u := by
 have hs : ∀ {W : World} {k : Nat} {x : Value}, (∃ y, W.cell? ⟨b, k, none⟩ = some y) → (W.setCell ⟨b, k, none⟩ x).cell? ⟨b, k, none⟩ = some x := fun ⟨y, hy⟩ => World.cell?_setCell_same _ _ _ hy
 unfold Am1
 have h0 := h 0 (by omega)
 have h1 := h 1 (by omega)
 have h2 := h 2 (by omega)
 have h3 := h 3 (by omega)
 have h4 := h 4 (by omega)
 have h5 := h 5 (by omega)
 rw [Nat.add_zero] at h0
 match j, hj with
 | 0, hj => cases hj; rw [Nat.add_zero, Aa9 (by omega), Aa9 (by omega), Aa9 (by omega), Aa9 (by omega), Aa9 (by omega)]; exact hs h0
 | 1, hj => cases hj; rw [Aa9 (by omega), Aa9 (by omega), Aa9 (by omega), Aa9 (by omega)]; exact hs (Aa0 h1)
 | 2, hj => cases hj; rw [Aa9 (by omega), Aa9 (by omega), Aa9 (by omega)]; exact hs (Aa0 (Aa0 h2))
 | 3, hj => cases hj; rw [Aa9 (by omega), Aa9 (by omega)]; exact hs (Aa0 (Aa0 (Aa0 h3)))
 | 4, hj => cases hj; rw [Aa9 (by omega)]; exact hs (Aa0 (Aa0 (Aa0 (Aa0 h4))))
 | 5, hj => cases hj; exact hs (Aa0 (Aa0 (Aa0 (Aa0 (Aa0 h5)))))
 | j + 6, hj => simp at hj
structure ArC (w : World) (O : Om) (t ip : Nat) (l : List It) (v : Value) (bl : List Nat) : Prop where
 o : O ip = t
 lt : ip < w.heap.size
 fr : ∀ j, w.frozen? ⟨ip, j, none⟩ = false
 c1 : w.cell? ⟨ip, 1, none⟩ = some (.int .i64 l.length)
 c0 : w.cell? ⟨ip, 0, none⟩ = some v
 row : w.ownsRow 0 214 1 v bl.length (Auw bl)
 vo : ∀ k, v.ownBlock = some k → O k = t ∧ k ≠ ip ∧ k ∉ bl
 nd : bl.Nodup
 ni : ip ∉ bl
 bk : ∀ b ∈ bl, O b = t ∧ b < w.heap.size ∧ (∀ j, w.frozen? ⟨b, j, none⟩ = false) ∧ ∀ j, j < 384 → ∃ u, w.cell? ⟨b, j, none⟩ = some u
 it : ∀ (i : Nat) (x : It) (b : Nat), l[i]? = some x → bl[i / 64]? = some b → ∀ j u, (itc x)[j]? = some u → w.cell? ⟨b, 6 * (i % 64) + j, none⟩ = some u
theorem Ar.core {w : World} {O : Om} {t ip : Nat} {l : List It} (h : Ar w O t ip l) : ∃ v bl, ArC w O t ip l v bl ∧ l.length ≤ 64 * bl.length ∧ 64 * bl.length < l.length + 64 := by
 obtain ⟨v, bl, h0, h1, h2, h3, h4, h5, h6, h7, h8⟩ := h.ex
 exact ⟨v, bl, ⟨h.o, h.lt, h.fr, h.c1, h0, h1, h2, h3, h4, h7, h8⟩, h5, h6⟩
theorem Ar7 {l : List Nat} (h : l.Nodup) {i j : Nat} (hi : i < l.length) (hj : j < l.length) (e : l[i] = l[j]) : i = j := by
 have hp := List.pairwise_iff_getElem.1 h
 rcases Nat.lt_trichotomy i j with h1 | h1 | h1
 · exact absurd e (hp i j hi hj h1)
 · exact h1
 exact absurd e.symm (hp j i hj hi h1)
theorem ArC.snoc {w : World} {O : Om} {t ip b : Nat} {l : List It} {v : Value} {bl : List Nat} (h : ArC w O t ip l v bl) (h1 : l.length < 64 * bl.length) (h2 : 64 * bl.length < l.length + 65) (hb : bl[l.length / 64]? = some b) (x : It) :
 Ar ((Am1 w b (l.length % 64 * 6) (.string x.key) (.string x.val) (.int .u32 x.fl) (.int .u64 x.id) (.int .i64 x.dies) (.int .i64 x.gen)).setCell ⟨ip, 1, none⟩ (.int .i64 (l.length + 1 : Nat))) O t ip (l ++ [x]) := by
 have hbm : b ∈ bl := List.mem_of_getElem? hb
 have hbi : b ≠ ip := fun e => h.ni (e ▸ hbm)
 obtain ⟨b1, b2, b3, b4⟩ := h.bk b hbm
 obtain ⟨W, hW⟩ := exq (Am1 w b (l.length % 64 * 6) (.string x.key) (.string x.val) (.int .u32 x.fl) (.int .u64 x.id) (.int .i64 x.dies) (.int .i64 x.gen))
 have hfar : ∀ k j, (k ≠ b ∨ j < l.length % 64 * 6 ∨ l.length % 64 * 6 + 6 ≤ j) → W.cell? ⟨k, j, none⟩ = w.cell? ⟨k, j, none⟩ := fun k j hk => by rw [hW]; exact Auq _ _ _ _ _ _ _ _ _ _ _ hk
 have hat : ∀ j u, (itc x)[j]? = some u → W.cell? ⟨b, l.length % 64 * 6 + j, none⟩ = some u := fun j u hu => by rw [hW]; exact Axg _ _ _ _ _ _ _ _ _ (fun j hj => b4 _ (by omega)) j u hu
 have hfz : ∀ k j, W.frozen? ⟨k, j, none⟩ = w.frozen? ⟨k, j, none⟩ := fun k j => by rw [hW]; exact Anf _ _ _ _ _ _ _ _ _ _ _
 have hsz : W.heap.size = w.heap.size := by rw [hW]; exact Ahx _ _ _ _ _ _ _ _ _
 have hwr : Aag (fun k => k = b) w W := by rw [hW]; exact Agh _ _ _ _ _ _ _ _ _
 have hth : ∀ k j, (∃ u, w.cell? ⟨k, j, none⟩ = some u) → ∃ u, W.cell? ⟨k, j, none⟩ = some u := fun k j hu => by
  rw [hW]; unfold Am1; exact Aa0 (Aa0 (Aa0 (Aa0 (Aa0 (Aa0 hu)))))
 rw [← hW]
 clear hW
 have hsi : ∀ k j, k ≠ ip → (W.setCell ⟨ip, 1, none⟩ (.int .i64 (l.length + 1 : Nat))).cell? ⟨k, j, none⟩ = W.cell? ⟨k, j, none⟩ := fun k j hk => Aa9 (.inl hk)
 refine ⟨h.o, by simp; rw [hsz]; exact h.lt, fun j => (World.frozen?_setCell _ _ _ _).trans ((hfz _ _).trans (h.fr j)), ?_, v, bl, ?_, ?_, h.vo, h.nd, h.ni, by simp; omega, by simp; omega, fun k hk => ?_, fun i y k hi hk j u hu => ?_⟩
 · rw [List.length_append]
   exact World.cell?_setCell_same _ _ _ ((hfar ip 1 (.inl (Ne.symm hbi))).trans h.c1)
 · rw [Aa9 (.inr (by omega)), hfar ip 0 (.inl (Ne.symm hbi))]; exact h.c0
 · exact ((Aag.setCell (S := fun k => k = b ∨ k = ip) (hwr.mono fun _ _ e => .inl e) (p := ⟨ip, 1, none⟩) (fun _ => .inr rfl) _).own h.row fun k hk e => by
    obtain ⟨e1, e2, e3⟩ := h.vo k hk
    rcases e with e | e
    · exact e3 (e ▸ hbm)
    exact e2 e)
 · obtain ⟨e1, e2, e3, e4⟩ := h.bk k hk
   exact ⟨e1, by simp; rw [hsz]; exact e2, fun j => (World.frozen?_setCell _ _ _ _).trans ((hfz _ _).trans (e3 j)), fun j hj => Aa0 (hth k j (e4 j hj))⟩
 have hkm : k ∈ bl := List.mem_of_getElem? hk
 have hki : k ≠ ip := fun e => h.ni (e ▸ hkm)
 have hj6 : j < 6 := by have := (List.getElem?_eq_some_iff.1 hu).1; rwa [Agk] at this
 rw [hsi k _ hki]
 by_cases hil : i < l.length
 · rw [List.getElem?_append_left hil] at hi
   rw [hfar]
   · exact h.it i y k hi hk j u hu
   by_cases hkb : k = b
   · right
     subst hkb
     have hlt : i / 64 < bl.length := (List.getElem?_eq_some_iff.1 hk).1
     have hlt2 : l.length / 64 < bl.length := (List.getElem?_eq_some_iff.1 hb).1
     have : i / 64 = l.length / 64 := by
      have e1 := (List.getElem?_eq_some_iff.1 hk).2
      have e2 := (List.getElem?_eq_some_iff.1 hb).2
      exact Ar7 h.nd hlt hlt2 (e1.trans e2.symm)
     omega
   exact .inl hkb
 rw [List.getElem?_append_right (by omega)] at hi
 obtain rfl : i = l.length := by
  have := (List.getElem?_eq_some_iff.1 hi).1
  simp at this; omega
 rw [Nat.sub_self] at hi
 cases hi
 rw [hb] at hk
 cases hk
 rw [Nat.mul_comm]
 exact hat j u hu
theorem Ag6 {B : Nat} {a w : World} (h : Below B a w) (n : Nat) : Below B a (w.drewN n) := ⟨h.os, h.tape, h.output, h.size, h.block⟩
theorem ArC.below {w w' : World} {O : Om} {t ip : Nat} {l : List It} {v : Value} {bl : List Nat} (h : ArC w O t ip l v bl) (hb : Below w.heap.size w w') : ArC w' O t ip l v bl := by
 have hc : ∀ k j, k < w.heap.size → w'.cell? ⟨k, j, none⟩ = w.cell? ⟨k, j, none⟩ := fun k j hk => hb.cell (p := ⟨k, j, none⟩) hk
 have hf : ∀ k j, k < w.heap.size → w'.frozen? ⟨k, j, none⟩ = w.frozen? ⟨k, j, none⟩ := fun k j hk => hb.frozen (p := ⟨k, j, none⟩) hk
 refine ⟨h.o, Nat.lt_of_lt_of_le h.lt hb.size, fun j => (hf _ _ h.lt).trans (h.fr j), (hc _ _ h.lt).trans h.c1, (hc _ _ h.lt).trans h.c0, Abi h.row hb, h.vo, h.nd, h.ni, fun b hb2 => ?_, fun i x b hi hb2 j u hu => ?_⟩
 · obtain ⟨k1, k2, k3, k4⟩ := h.bk b hb2
   exact ⟨k1, Nat.lt_of_lt_of_le k2 hb.size, fun j => (hf _ _ k2).trans (k3 j), fun j hj => (k4 j hj).imp fun u hu => (hc _ _ k2).trans hu⟩
 exact (hc _ _ (h.bk b (List.mem_of_getElem? hb2)).2.1).trans (h.it i x b hi hb2 j u hu)
theorem Bau : (Tryz.prog.info? 214).map (fun i => (i.zero, i.size, i.bytes)) = some (some (.pointer none), 1, 8) := by kernel_rfl
theorem Az2 : Tryz.zeroCells216.size = 384 := by kernel_rfl
theorem ArC.grow {W w2 : World} {O : Om} {t ip g cap : Nat} {l : List It} {v : Value} {bl : List Nat} {zs : Array Value} {T : TypeId} {o : Obj} (h : ArC W O t ip l v bl) (ht : t ≠ 0) (hhi : Hh O W) (hz : zs.size = 384) (hfit : l.length ≤ 64 * bl.length)
 (hg : ((W.alloc (.cells zs T)).alloc o).grownBy w2 v.ownBlock) (own : w2.ownsRow 0 214 1 (.slice (some ⟨g, 0, none⟩) (bl.length + 1) cap) (bl.length + 1) (Auw bl ++ [.pointer (some ⟨W.heap.size, 0, none⟩)])) (hat : v.ownBlock = some g ∨ g = W.heap.size + 1 + 1) (hgl : g < w2.heap.size) :
 ∃ O', Ext (fun j => j = t) O W O' (w2.setCell ⟨ip, 0, none⟩ (.slice (some ⟨g, 0, none⟩) (bl.length + 1) cap)) ∧ ArC (w2.setCell ⟨ip, 0, none⟩ (.slice (some ⟨g, 0, none⟩) (bl.length + 1) cap)) O' t ip l (.slice (some ⟨g, 0, none⟩) (bl.length + 1) cap) (bl ++ [W.heap.size]) := by
 obtain ⟨W1, hW1⟩ := exq (W.alloc (.cells zs T))
 have z1 : W1.heap.size = W.heap.size + 1 := by rw [hW1]; simp
 have hbl : ∀ b ∈ bl, b < W.heap.size := fun b hb => (h.bk b hb).2.1
 have b0 : ∀ j, j < 384 → ∃ u, W1.cell? ⟨W.heap.size, j, none⟩ = some u := fun j hj => ⟨zs[j]'(by omega), by rw [hW1]; exact Aak W zs T _ rfl j _ (by simp)⟩
 have f0 : ∀ j, W1.frozen? ⟨W.heap.size, j, none⟩ = false := fun j => by rw [hW1]; exact Acy W zs T _ rfl j
 have hb1 : Below W.heap.size W W1 := by rw [hW1]; exact bal _ _
 rw [← hW1] at hg
 have hw2 : Aag (fun k => v.ownBlock = some k) W1 w2 := ((Aag.refl _ _).alloc o).grown hg fun k hk _ => hk
 have hs2 : W1.heap.size + 1 ≤ w2.heap.size := by have := hg.size; simpa using this
 have hvo : ∀ k, v.ownBlock = some k → k < W.heap.size := fun k hk => (h.row.lt k hk).2
 have hwr : Aag (fun k => v.ownBlock = some k) W w2 := (Aag.of_below hb1).trans hw2 fun _ _ hk => hk
 have hgn : g ≠ ip := by
  rcases hat with e | e
  · exact (h.vo g e).2.1
  have := h.lt; omega
 have hgb : g ∉ bl ++ [W.heap.size] := by
  intro hm
  rcases List.mem_append.1 hm with hm | hm
  · rcases hat with e | e
    · exact (h.vo g e).2.2 hm
    have := hbl g hm; omega
  rw [List.mem_singleton] at hm
  rcases hat with e | e
  · have := hvo g e; omega
  omega
 obtain ⟨G, hG⟩ : ∃ G : Om, ∀ j, G j = if j = W.heap.size ∨ j = g then t else O j := ⟨_, fun _ => rfl⟩
 have gold : ∀ j, j < W.heap.size → G j = O j := fun j hj => by
  rw [hG]
  by_cases e : j = W.heap.size ∨ j = g
  · rw [if_pos e]
    rcases e with e | e
    · omega
    rcases hat with e2 | e2
    · subst e; exact ((h.vo j e2).1).symm
    omega
  rw [if_neg e]
 have gt : ∀ j, j < W.heap.size → O j = t → G j = t := fun j hj ho => (gold j hj).trans ho
 obtain ⟨W3, hW3⟩ := exq (w2.setCell ⟨ip, 0, none⟩ (.slice (some ⟨g, 0, none⟩) (bl.length + 1) cap))
 have z3 : W3.heap.size = w2.heap.size := by rw [hW3]; simp
 have h3 : Aag (fun k => k = ip) w2 W3 := by rw [hW3]; exact Aag.setCell (S := fun k => k = ip) (Aag.refl _ _) (p := ⟨ip, 0, none⟩) (fun _ => rfl) _
 have hc : ∀ k j, k < W.heap.size → k ≠ ip → v.ownBlock ≠ some k → W3.cell? ⟨k, j, none⟩ = W.cell? ⟨k, j, none⟩ := fun k j hk h1 h2 => (h3.cell (p := ⟨k, j, none⟩) (by show k < w2.heap.size; omega) h1).trans (hwr.cell (p := ⟨k, j, none⟩) hk h2)
 have hf : ∀ k j, k < W.heap.size → v.ownBlock ≠ some k → W3.frozen? ⟨k, j, none⟩ = W.frozen? ⟨k, j, none⟩ := fun k j hk h2 => by
  rw [hW3, World.frozen?_setCell]
  exact hwr.frozen (p := ⟨k, j, none⟩) hk h2
 have hip2 : v.ownBlock ≠ some ip := fun e => (h.vo ip e).2.1 rfl
 have hbk2 : ∀ b ∈ bl, v.ownBlock ≠ some b := fun b hb e => (h.vo b e).2.2 hb
 rw [← hW3]
 refine ⟨G, ⟨gold, fun j hj => ?_, fun j hj hn => ?_, ?_⟩, ⟨gt _ h.lt h.o, by have := h.lt; omega, fun j => (hf ip j h.lt hip2).trans (h.fr j), ?_, ?_, ?_, fun k hk => ?_, ?_, ?_, fun b hb => ?_, fun i x b hi hb j u hu => ?_⟩⟩
 · rw [hG] at hj
   by_cases e : j = W.heap.size ∨ j = g
   · omega
   rw [if_neg e] at hj; have := hhi j hj; omega
 · rw [hG] at hn ⊢
   by_cases e : j = W.heap.size ∨ j = g
   · rw [if_pos e]
   rw [if_neg e] at hn; have := hhi j hn; omega
 · refine (hwr.mono (T := fun k => O k = t ∧ O k ≠ 0) fun k _ hk => ⟨(h.vo k hk).1, by rw [(h.vo k hk).1]; exact ht⟩).trans h3 fun n _ e => ?_
   subst e; exact ⟨h.o, by rw [h.o]; exact ht⟩
 · have : W3.cell? ⟨ip, 1, none⟩ = w2.cell? ⟨ip, 1, none⟩ := by rw [hW3]; exact Aa9 (.inr (by omega))
   rw [this, hwr.cell (p := ⟨ip, 1, none⟩) h.lt hip2]; exact h.c1
 · rw [hW3]
   exact World.cell?_setCell_same _ _ _ ((hwr.cell (p := ⟨ip, 0, none⟩) h.lt hip2).trans h.c0)
 · have : Auw (bl ++ [W.heap.size]) = Auw bl ++ [.pointer (some ⟨W.heap.size, 0, none⟩)] := by simp [Auw]
   rw [this, List.length_append]
   exact h3.own own fun k hk e => by cases hk; exact hgn e
 · cases hk
   exact ⟨by rw [hG, if_pos (.inr rfl)], hgn, hgb⟩
 · rw [List.nodup_append]
   exact ⟨h.nd, by simp, fun a ha b hb => by rw [List.mem_singleton] at hb; have := hbl a ha; omega⟩
 · intro hm
   rcases List.mem_append.1 hm with hm | hm
   · exact h.ni hm
   rw [List.mem_singleton] at hm; have := h.lt; omega
 · rcases List.mem_append.1 hb with hb | hb
   · obtain ⟨k1, k2, k3, k4⟩ := h.bk b hb
     have hne : b ≠ ip := fun e => h.ni (e ▸ hb)
     exact ⟨gt _ k2 k1, by omega, fun j => (hf b j k2 (hbk2 b hb)).trans (k3 j), fun j hj => (k4 j hj).imp fun u hu => (hc b j k2 hne (hbk2 b hb)).trans hu⟩
   rw [List.mem_singleton] at hb
   subst hb
   have hv2 : v.ownBlock ≠ some W.heap.size := fun e => by have := hvo _ e; omega
   have hne : W.heap.size ≠ ip := by have := h.lt; omega
   refine ⟨by rw [hG, if_pos (.inl rfl)], by omega, fun j => ?_, fun j hj => ?_⟩
   · rw [hW3, World.frozen?_setCell]
     exact (hw2.frozen (p := ⟨W.heap.size, j, none⟩) (by show W.heap.size < W1.heap.size; omega) hv2).trans (f0 j)
   obtain ⟨u, hu⟩ := b0 j hj
   exact ⟨u, (h3.cell (p := ⟨W.heap.size, j, none⟩) (by show W.heap.size < w2.heap.size; omega) hne).trans ((hw2.cell (p := ⟨W.heap.size, j, none⟩) (by show W.heap.size < W1.heap.size; omega) hv2).trans hu)⟩
 have hil := (List.getElem?_eq_some_iff.1 hi).1
 rw [List.getElem?_append_left (by omega)] at hb
 have hbm := List.mem_of_getElem? hb
 have hne : b ≠ ip := fun e => h.ni (e ▸ hbm)
 exact (hc b _ (hbl b hbm) hne (hbk2 b hbm)).trans (h.it i x b hi hb j u hu)
theorem An8 (x : It) {w : World} {O : Om} {t ip : Nat} {l : List It} (h : Ar w O t ip l) (ht : t ≠ 0) (hl : l.length ≤ 1000000) (hhi : Hh O w) (hroom : ∀ v bl, ArC w O t ip l v bl → l.length ≤ 64 * bl.length → 64 * bl.length < l.length + 64 → ¬ l.length = 64 * bl.length) :
 Calls Tryz.prog 62 #[.pointer (some ⟨ip, 0, none⟩), .agg #[.string x.key, .string x.val, .int .u32 x.fl, .int .u64 x.id, .int .i64 x.dies, .int .i64 x.gen]] w (RP (fun j => j = t) w O (.tuple #[.int .i64 (l.length + 1 : Nat), .int .i64 0]) fun W G => Ar W G t ip (l ++ [x])) := by
 obtain ⟨v, bl, hC, h1, h2⟩ := h.core
 have hne := hroom v bl hC h1 h2
 have hA := Arr.of_own hC.row
 obtain ⟨ao, cp, rfl, hcp, hcm⟩ := hA.shape
 have q0 := hC.c0
 have q1 := hC.c1
 have hil := hC.lt
 have hl9 : l.length ≤ 9223372036854775807 := by omega
 have hb9 : bl.length ≤ 100000 := by omega
 have hfull : ((l.length : Int) == 1048576) = false := by simp; omega
 have htest : ((l.length : Int) == 64 * (bl.length : Int)) = false := by simp; omega
 have hmul : IntKind.i64.wrap (64 * (bl.length : Int)) = 64 * (bl.length : Int) := by rw [IntKind.wrap_i64]; omega
 have HC := hQd hC
 have HA := hQd hA
 have HH := hQd hhi
 have HX := hQd (aN h1 (aN h2 hne))
 have hne2 : ¬ ip = w.heap.size := by omega
 clear h hC hA hhi hroom hne h1 h2
 go_enter Tryz.func62, Tryz.ntmps62
 go_wp2_with fail
 go_quiet (fail)
 go_wp2_with fail
 obtain ⟨W, hW⟩ := exq ((w.alloc (.cells #[.string x.key, .string x.val, .int .u32 x.fl, .int .u64 x.id, .int .i64 x.dies, .int .i64 x.gen] 58)).drewN nq)
 have hB : Below w.heap.size w W := by rw [hW]; exact Ag6 (bal _ _) nq
 have hs : w.heap.size < W.heap.size := by rw [hW]; simp
 have hx : ∀ j u, (itc x)[j]? = some u → W.cell? ⟨w.heap.size, j, none⟩ = some u := fun j u hu => by rw [hW]; exact Aak w #[.string x.key, .string x.val, .int .u32 x.fl, .int .u64 x.id, .int .i64 x.dies, .int .i64 x.gen] _ _ rfl j u (by simpa [itc] using hu)
 have x0 := hx 0 _ rfl
 have x1 := hx 1 _ rfl
 have x2 := hx 2 _ rfl
 have x3 := hx 3 _ rfl
 have x4 := hx 4 _ rfl
 have x5 := hx 5 _ rfl
 have CW := hQd (HC.out.below hB)
 have HB := hQd hB
 have HEW : Hid (Ext (fun j => j = t) O w O W) := hQd (Ext.of_below HH.out hB)
 have HZ : Hid (O w.heap.size = 0) := hQd (by by_cases hz : O w.heap.size = 0; exact hz; exact absurd (HH.out _ hz) (by omega))
 rw [← hW]
 clear hB hx hW q0 q1
 have q1 := CW.out.c1
 have q0 := CW.out.c0
 have qfr := CW.out.fr
 obtain ⟨b, hb⟩ : ∃ b, bl[l.length / 64]? = some b := ⟨_, List.getElem?_eq_getElem (by have := HX.out; omega)⟩
 have hbe : bl[l.length / 64]'(by have := HX.out; omega) = b := (List.getElem?_eq_some_iff.1 hb).2
 obtain ⟨k1, k2, k3, k4⟩ := CW.out.bk b (List.mem_of_getElem? hb)
 have kf := k3
 obtain ⟨z0, hz0⟩ := k4 (l.length % 64 * 6) (by omega)
 obtain ⟨z1, hz1⟩ := k4 (l.length % 64 * 6 + 1) (by omega)
 obtain ⟨z2, hz2⟩ := k4 (l.length % 64 * 6 + 2) (by omega)
 obtain ⟨z3, hz3⟩ := k4 (l.length % 64 * 6 + 3) (by omega)
 obtain ⟨z4, hz4⟩ := k4 (l.length % 64 * 6 + 4) (by omega)
 obtain ⟨z5, hz5⟩ := k4 (l.length % 64 * 6 + 5) (by omega)
 have HPL : Hid (∀ W', Below W.heap.size W W' → Calls Tryz.prog 96 #[.pointer (some ⟨ip, 0, none⟩), .int .i64 l.length] W' fun e w' => e = .returned (.pointer (some ⟨b, l.length % 64 * 6, none⟩)) ∧ W' = w') := hQd fun W' hW' => by
  have := Anw ip l.length _ bl W' ((hW'.cell (p := ⟨ip, 0, none⟩) CW.out.lt).trans CW.out.c0) (Arr.below (Arr.of_own CW.out.row) hW') (by have := HX.out; omega) hb9
  rw [hbe] at this
  exact this
 have HBB := hQd hb
 have hbi : ¬ b = ip := fun e => CW.out.ni (e ▸ List.mem_of_getElem? hb)
 have hbw : ¬ b = w.heap.size := fun e => by have h1 := (CW.out.bk b (List.mem_of_getElem? hb)).1; rw [e, HZ.out] at h1; exact ht h1.symm
 clear hbe k1 k2 k3 k4 hb
 go_region_held3 (fun w' => w'.cell? ⟨ip, 1, none⟩ = some (.int .i64 l.length) ∧ w'.cell? ⟨w.heap.size, 0, none⟩ = some (.string x.key) ∧ w'.cell? ⟨w.heap.size, 1, none⟩ = some (.string x.val) ∧ w'.cell? ⟨w.heap.size, 2, none⟩ = some (.int .u32 x.fl) ∧ w'.cell? ⟨w.heap.size, 3, none⟩ = some (.int .u64 x.id) ∧ w'.cell? ⟨w.heap.size, 4, none⟩ = some (.int .i64 x.dies) ∧ w'.cell? ⟨w.heap.size, 5, none⟩ = some (.int .i64 x.gen)) (go_keep)
  ((go_at_call 96; refine (HPL.out _ (by first | exact Below.refl _ _ | exact (Below.refl _ _).drew)).mono ?_; rintro e w1 ⟨rfl, rfl⟩))
 all_goals
  go_wp2
  go_ret2
  have hA := CW.out.snoc (by have := HX.out; omega) (by have := HX.out; omega) HBB.out x
  have hbt := (CW.out.bk b (List.mem_of_getElem? HBB.out)).1
  have e1 := HEW.out
  have e2 : Ext (fun j => j = t) O w O (Am1 W b (l.length % 64 * 6) (.string x.key) (.string x.val) (.int .u32 x.fl) (.int .u64 x.id) (.int .i64 x.dies) (.int .i64 x.gen)) := e1.trans ⟨fun _ _ => rfl, fun j hj => by rw [Ahx]; exact e1.hi j hj, fun j hj hn => by have := e1.hi j hn; omega, (Agh _ _ _ _ _ _ _ _ _).mono fun k _ hk => by subst hk; exact ⟨hbt, by rw [hbt]; exact ht⟩⟩
  have e3 := e2.trans (Ext.of_set (g := t) (j := 1) (b := ip) (v := .int .i64 (l.length + 1 : Nat)) e2.hi CW.out.o ht rfl)
  exact ⟨rfl, O, e3.drew, hA.ext (S := fun _ => False) (Ext.of_below e3.hi (Aaa _)) id⟩
theorem An9 (x : It) {w : World} {O : Om} {t ip : Nat} {l : List It} (h : Ar w O t ip l) (ht : t ≠ 0) (hl : l.length ≤ 1000000) (hhi : Hh O w) (hroom : ∀ v bl, ArC w O t ip l v bl → l.length ≤ 64 * bl.length → 64 * bl.length < l.length + 64 → l.length = 64 * bl.length) :
 Calls Tryz.prog 62 #[.pointer (some ⟨ip, 0, none⟩), .agg #[.string x.key, .string x.val, .int .u32 x.fl, .int .u64 x.id, .int .i64 x.dies, .int .i64 x.gen]] w (RP (fun j => j = t) w O (.tuple #[.int .i64 (l.length + 1 : Nat), .int .i64 0]) fun W G => Ar W G t ip (l ++ [x])) := by
 obtain ⟨v, bl, hC, h1, h2⟩ := h.core
 have hne := hroom v bl hC h1 h2
 have hA := Arr.of_own hC.row
 obtain ⟨ao, cp, rfl, hcp, hcm⟩ := hA.shape
 have q0 := hC.c0
 have q1 := hC.c1
 have hil := hC.lt
 have hl9 : l.length ≤ 9223372036854775807 := by omega
 have hb9 : bl.length ≤ 90000 := by omega
 have hfull : ((l.length : Int) == 1048576) = false := by simp; omega
 have htest : ((l.length : Int) == 64 * (bl.length : Int)) = true := by simp; omega
 have hmul : IntKind.i64.wrap (64 * (bl.length : Int)) = 64 * (bl.length : Int) := by rw [IntKind.wrap_i64]; omega
 have HC := hQd hC
 have HA := hQd hA
 have HH := hQd hhi
 have HX := hQd (aN h1 (aN h2 hne))
 have hne2 : ¬ ip = w.heap.size := by omega
 clear h hC hA hhi hroom hne h1 h2
 go_enter Tryz.func62, Tryz.ntmps62
 go_wp2_with fail
 go_quiet (fail)
 obtain ⟨V, hV⟩ := exq ((w.alloc (.cells #[.string x.key, .string x.val, .int .u32 x.fl, .int .u64 x.id, .int .i64 x.dies, .int .i64 x.gen] 58)).drewN nq)
 have hB : Below w.heap.size w V := by rw [hV]; exact Ag6 (bal _ _) nq
 have hs : w.heap.size < V.heap.size := by rw [hV]; simp
 have hx : ∀ j u, (itc x)[j]? = some u → V.cell? ⟨w.heap.size, j, none⟩ = some u := fun j u hu => by rw [hV]; exact Aak w #[.string x.key, .string x.val, .int .u32 x.fl, .int .u64 x.id, .int .i64 x.dies, .int .i64 x.gen] _ _ rfl j u (by simpa [itc] using hu)
 have HXC := hQd hx
 have CV := hQd (HC.out.below hB)
 have HB := hQd hB
 rw [← hV]
 have HVS := hQd hs
 clear hB hx hV q0 q1
 obtain ⟨i0, hi, hz0, hz1, hz2⟩ := info_parts Bau
 have q0 := CV.out.c0
 have qf0 := CV.out.fr 0
 have hvl := CV.out.lt
 have hne3 : ¬ ip = V.heap.size := by omega
 have hne4 : ¬ ip = V.heap.size + 1 := by omega
 go_wp2_with (at_builtin; refine wpList_append_lies _ rfl _ _ 191 rfl 0 214 i0 _ 1 8 Tryz.underlying191 hi hz0 hz1 hz2 rfl (by decide) _ bl.length (Auw bl) rfl ((CV.out.row.alloc _).alloc _) ⟨V.heap.size + 1, 0, none⟩ 1 1 [.pointer (some ⟨V.heap.size, 0, none⟩)] rfl rfl (Afn _ [.pointer (some ⟨V.heap.size, 0, none⟩)] _ _ (by simp)) (by simp [Value.oneCell']) (by decide) (by unfold maxLen; omega) (by omega) (Nat.zero_le _) (V.heap.size + 1 + 1) (by simp) ?_; intro g cap w2 hown2 hgr2 hat2 hgl2
              have hgr : ((V.alloc (.cells Tryz.zeroCells216 216)).alloc (.cells #[.pointer (some ⟨V.heap.size, 0, none⟩)] 214)).grownBy w2 (Value.slice ao bl.length cp).ownBlock := hgr2
              have hw2 : Aag (fun k => (Value.slice ao bl.length cp).ownBlock = some k) V w2 := (((Aag.refl _ _).alloc _).alloc _).grown hgr fun k hk _ => hk
              have q2 := (hw2.cell (p := ⟨ip, 0, none⟩) hvl (fun e => (CV.out.vo ip e).2.1 rfl)).trans CV.out.c0
              have qf2 := (hw2.frozen (p := ⟨ip, 0, none⟩) hvl (fun e => (CV.out.vo ip e).2.1 rfl)).trans (CV.out.fr 0)
              have HG := hQd (CV.out.grow ht (fun j hj => Nat.lt_of_lt_of_le (HH.out j hj) (Nat.le_of_lt HVS.out)) Az2 HX.out.1 hgr hown2 hat2 hgl2)
              clear hown2 hgr2 hat2 hgl2 hgr hw2)
 obtain ⟨W, hW⟩ := exq (w2.setCell ⟨ip, 0, none⟩ (.slice (some ⟨g, 0, none⟩) (bl.length + 1) cap))
 rw [← hW] at HG
 first | rw [← hW] | skip
 obtain ⟨OO, eg, cg⟩ := HG.out
 have CW := hQd cg
 have e0 : Ext (fun j => j = t) O w O V := Ext.of_below HH.out HB.out
 have HEW := hQd (e0.trans eg)
 have hz0 : O w.heap.size = 0 := by by_cases hz : O w.heap.size = 0; exact hz; exact absurd (HH.out _ hz) (by omega)
 have HZ : Hid (OO w.heap.size = 0) := hQd ((eg.lo _ HVS.out).trans hz0)
 have hxW : ∀ j u, (itc x)[j]? = some u → W.cell? ⟨w.heap.size, j, none⟩ = some u := fun j u hu => (eg.cell (p := ⟨w.heap.size, j, none⟩) HVS.out (by show ¬ O w.heap.size = t; rw [hz0]; exact Ne.symm ht)).trans (HXC.out j u hu)
 have x0 := hxW 0 _ rfl
 have x1 := hxW 1 _ rfl
 have x2 := hxW 2 _ rfl
 have x3 := hxW 3 _ rfl
 have x4 := hxW 4 _ rfl
 have x5 := hxW 5 _ rfl
 have HXX := HX
 clear HX
 have HX : Hid (l.length < 64 * (bl ++ [V.heap.size]).length ∧ 64 * (bl ++ [V.heap.size]).length < l.length + 65 ∧ True) := hQd (by have := HXX.out; simp; omega)
 have hlen : (bl ++ [V.heap.size]).length = bl.length + 1 := by simp
 obtain ⟨bm, hbm⟩ := exq (bl ++ [V.heap.size])
 rw [← hbm] at CW HX hlen
 have hb8 : bm.length ≤ 100000 := by omega
 have HLEN := hQd hlen
 clear hb9
 have hb9 := hb8
 clear hW HG eg cg e0 hz0 hxW hbm hlen hb8 q0 q2 qf0 qf2
 have q1 := CW.out.c1
 have q0 := CW.out.c0
 have qfr := CW.out.fr
 obtain ⟨b, hb⟩ : ∃ b, bm[l.length / 64]? = some b := ⟨_, List.getElem?_eq_getElem (by have := HX.out; omega)⟩
 have hbe : bm[l.length / 64]'(by have := HX.out; omega) = b := (List.getElem?_eq_some_iff.1 hb).2
 obtain ⟨k1, k2, k3, k4⟩ := CW.out.bk b (List.mem_of_getElem? hb)
 have kf := k3
 obtain ⟨z0, hz0⟩ := k4 (l.length % 64 * 6) (by omega)
 obtain ⟨z1, hz1⟩ := k4 (l.length % 64 * 6 + 1) (by omega)
 obtain ⟨z2, hz2⟩ := k4 (l.length % 64 * 6 + 2) (by omega)
 obtain ⟨z3, hz3⟩ := k4 (l.length % 64 * 6 + 3) (by omega)
 obtain ⟨z4, hz4⟩ := k4 (l.length % 64 * 6 + 4) (by omega)
 obtain ⟨z5, hz5⟩ := k4 (l.length % 64 * 6 + 5) (by omega)
 have HPL : Hid (∀ W', Below W.heap.size W W' → Calls Tryz.prog 96 #[.pointer (some ⟨ip, 0, none⟩), .int .i64 l.length] W' fun e w' => e = .returned (.pointer (some ⟨b, l.length % 64 * 6, none⟩)) ∧ W' = w') := hQd fun W' hW' => by
  have := Anw ip l.length _ bm W' ((hW'.cell (p := ⟨ip, 0, none⟩) CW.out.lt).trans CW.out.c0) (Arr.below (by rw [HLEN.out]; have := Arr.of_own CW.out.row; rw [HLEN.out] at this; exact this) hW') (by have := HX.out; omega) hb9
  rw [hbe] at this
  exact this
 have HBB := hQd hb
 have hbi : ¬ b = ip := fun e => CW.out.ni (e ▸ List.mem_of_getElem? hb)
 have hbw : ¬ b = w.heap.size := fun e => by have h1 := (CW.out.bk b (List.mem_of_getElem? hb)).1; rw [e, HZ.out] at h1; exact ht h1.symm
 clear hbe k1 k2 k3 k4 hb
 go_region_held3 (fun w' => w'.cell? ⟨ip, 1, none⟩ = some (.int .i64 l.length) ∧ w'.cell? ⟨w.heap.size, 0, none⟩ = some (.string x.key) ∧ w'.cell? ⟨w.heap.size, 1, none⟩ = some (.string x.val) ∧ w'.cell? ⟨w.heap.size, 2, none⟩ = some (.int .u32 x.fl) ∧ w'.cell? ⟨w.heap.size, 3, none⟩ = some (.int .u64 x.id) ∧ w'.cell? ⟨w.heap.size, 4, none⟩ = some (.int .i64 x.dies) ∧ w'.cell? ⟨w.heap.size, 5, none⟩ = some (.int .i64 x.gen)) (go_keep)
  ((go_at_call 96; refine (HPL.out _ (by first | exact Below.refl _ _ | exact (Below.refl _ _).drew)).mono ?_; rintro e w1 ⟨rfl, rfl⟩))
 all_goals
  go_wp2
  go_ret2
  have hA := CW.out.snoc (by have := HX.out; omega) (by have := HX.out; omega) HBB.out x
  have hbt := (CW.out.bk b (List.mem_of_getElem? HBB.out)).1
  have e1 := HEW.out
  have e2 : Ext (fun j => j = t) O w OO (Am1 W b (l.length % 64 * 6) (.string x.key) (.string x.val) (.int .u32 x.fl) (.int .u64 x.id) (.int .i64 x.dies) (.int .i64 x.gen)) := e1.trans ⟨fun _ _ => rfl, fun j hj => by rw [Ahx]; exact e1.hi j hj, fun j hj hn => by have := e1.hi j hn; omega, (Agh _ _ _ _ _ _ _ _ _).mono fun k _ hk => by subst hk; exact ⟨hbt, by rw [hbt]; exact ht⟩⟩
  have e3 := e2.trans (Ext.of_set (g := t) (j := 1) (b := ip) (v := .int .i64 (l.length + 1 : Nat)) e2.hi CW.out.o ht rfl)
  exact ⟨rfl, OO, e3.drew, hA.ext (S := fun _ => False) (Ext.of_below e3.hi (Aaa _)) id⟩
theorem Bbt (x : It) {w : World} {O : Om} {t ip : Nat} {l : List It} (h : Ar w O t ip l) (ht : t ≠ 0) (hl : l.length ≤ 1000000) (hhi : Hh O w) :
 Calls Tryz.prog 62 #[.pointer (some ⟨ip, 0, none⟩), .agg #[.string x.key, .string x.val, .int .u32 x.fl, .int .u64 x.id, .int .i64 x.dies, .int .i64 x.gen]] w (RP (fun j => j = t) w O (.tuple #[.int .i64 (l.length + 1 : Nat), .int .i64 0]) fun W G => Ar W G t ip (l ++ [x])) := by
 obtain ⟨v, bl, hC, h1, h2⟩ := h.core
 by_cases he : l.length % 64 = 0
 · exact An9 x h ht hl hhi fun v' bl' hC' h1' h2' => by omega
 exact An8 x h ht hl hhi fun v' bl' hC' h1' h2' => by omega
theorem Awd {w : World} {O : Om} {t ip : Nat} {l : List It} (h : Ar w O t ip l) :
 C1 48 ip w fun e w' => e = .returned (.int .i64 l.length) ∧ w = w' := by
 have q1 := h.c1
 clear h
 go_enter Tryz.func48, Tryz.ntmps48
 go_wp2
 go_ret
 exact ⟨rfl, rfl⟩
def it0 : It := ⟨⟨#[]⟩, ⟨#[]⟩, 0, 0, 0, 0⟩
end
end Go.Proofs.YthbodknlhkapdaaGreat
