/- The document's cells: contracts of Peek, put, access, Load, Store, CAS, Add. -/
import Derived.Test.YtijifjiehldcaaaGreatOw
import Derived.Test.YtijifjiehldcaaaGreatRcP
import Derived.Deep.DeepCutAuto
namespace Go.Proofs.YtijifjiehldcaaaGreat
set_option linter.unusedSimpArgs false
open Go.RowKit
set_option linter.unusedVariables false

def wvc (x : Wv) : List Value := [.int .u64 x.a, .int .u64 x.v]
theorem wvc_len (x : Wv) : (wvc x).length = 2 := rfl
theorem infoWv : (Tryz.prog.info? 171).map (fun i => (i.zero, i.size, i.bytes)) = some (some (.agg #[.int .u64 0, .int .u64 0]), 2, 16) := by kernel_rfl
def rcCs (v : Value) (n : Int) (la : La) : List Value := [v, .int .i64 n, .int .u8 la.k, .int .u64 la.a, .int .u64 la.s, .int .u64 la.i]
/-- The document's cells in block c; what belongs to them is g's; at most m words are not 0. -/
structure RC (w : World) (O : Om) (g c : Nat) (M : Int → Int) (n : Int) (la : La) (m : Nat) : Prop where
  ex : ∃ (v : Value) (L : List Wv), Ris L ∧ (∀ x ∈ L, WvOk x) ∧ (∀ y, rlook L y = M y) ∧ L.length ≤ m ∧ Ob w O g c (rcCs v n la) ∧ w.ownsRow 0 171 2 v L.length (rowOf wvc L) ∧ (∀ k, v.ownBlock = some k → O k = g ∧ k ≠ c)
section
variable {S : Nat → Prop} {O O' : Om} {w w' : World} {g c m : Nat} {M : Int → Int} {n : Int} {la : La}
theorem RC.ext (h : RC w O g c M n la m) (e : Ext S O w O' w') (hs : ¬ S g) : RC w' O' g c M n la m := by
  obtain ⟨v, L, h1, h2, h3, h4, h5, h6, h7⟩ := h.ex
  exact ⟨v, L, h1, h2, h3, h4, h5.ext e hs, e.own h6 (fun k hk => by rw [(h7 k hk).1]; exact hs), fun k hk => ⟨(e.lo k (h6.lt k hk).2).trans (h7 k hk).1, (h7 k hk).2⟩⟩
theorem RC.below (h : RC w O g c M n la m) (hb : Below w.heap.size w w') : RC w' O g c M n la m := by
  obtain ⟨v, L, h1, h2, h3, h4, h5, h6, h7⟩ := h.ex
  exact ⟨v, L, h1, h2, h3, h4, h5.below hb, ownsRow_below h6 hb, h7⟩
theorem RC.bd (h : RC w O g c M n la m) : Bd M := by
  obtain ⟨v, L, h1, h2, h3, h4, h5, h6, h7⟩ := h.ex
  intro x
  rw [← h3]
  unfold rlook
  cases hf : L.find? (fun d => d.a == x) with
  | none => simp
  | some d => have := h2 d (List.mem_of_find?_eq_some hf); exact ⟨by have := this.2.1; show 0 ≤ d.v; omega, this.2.2⟩
theorem RC.lt (h : RC w O g c M n la m) : c < w.heap.size := by
  obtain ⟨v, L, h1, h2, h3, h4, h5, h6, h7⟩ := h.ex
  exact h5.lt
end
theorem wv_cells {w : World} {b o : Nat} {L : List Wv} (h : ∀ j u, (rowOf wvc L)[j]? = some u → w.cell? ⟨b, o + j, none⟩ = some u) (i : Nat) (hi : i < L.length) :
    w.cell? ⟨b, o + i * 2, none⟩ = some (.int .u64 L[i].a) ∧ w.cell? ⟨b, o + i * 2 + 1, none⟩ = some (.int .u64 L[i].v) :=
  ⟨by have := h _ _ ((rowOf_get wvc_len L i 0 hi (by omega)).trans (show (wvc L[i])[0]? = some (.int .u64 L[i].a) from rfl)); rwa [Nat.add_zero] at this,
   by have := h _ _ ((rowOf_get wvc_len L i 1 hi (by omega)).trans (show (wvc L[i])[1]? = some (.int .u64 L[i].v) from rfl)); rwa [← Nat.add_assoc] at this⟩
set_option maxHeartbeats 1000000 in
set_option maxRecDepth 100000 in
theorem c_rPeek (x : Int) {w : World} {O : Om} {g c m : Nat} {M : Int → Int} {n : Int} {la : La} (h : RC w O g c M n la m) (hm : m ≤ 1000000) :
    Calls Tryz.prog 45 #[.pointer (some ⟨c, 0, none⟩), .int .u64 x] w fun e w' => e = .returned (.int .u64 (M x)) ∧ w = w' := by
  obtain ⟨v, L, h1, h2, h3, h4, h5, h6, h7⟩ := h.ex
  have hA := Arr.of_own h6
  obtain ⟨ao, cp, rfl, hc, hcm⟩ := hA.shape
  have q0 := h5.c 0 _ rfl
  have hl : L.length ≤ 9223372036854775807 := by omega
  have HA := Lib.hid hA
  have HV := Lib.hid (h3 x)
  clear h h1 h2 h3 h4 h5 h6 h7 hA
  go_enter Tryz.func45, Tryz.ntmps45
  go_wp2_with fail
  go_loop [5] (fun i => ∃ k : Nat, k ≤ L.length ∧ i = .int .i64 k ∧ Hid (∀ j, (hj : j < L.length) → j < k → L[j].a ≠ x)) (fun i => L.length - (intOf i).toNat)
  case atStart => exact ⟨0, Nat.zero_le _, rfl, Lib.hid fun j _ h => by omega⟩
  case round =>
    obtain ⟨k, hk, rfl, hno⟩ := hrel
    by_cases hk2 : k < L.length
    · obtain ⟨b, o, c', he, -, -, hlt, hx⟩ := HA.out.open (by omega) (by omega)
      cases he
      obtain ⟨y0, y1⟩ := wv_cells hx k hk2
      clear hx
      by_cases he : L[k].a = x
      · have hf : Hid (M x = L[k].v) := Lib.hid (by
          rw [← HV.out, rlook_drop k hno.out, List.drop_eq_getElem_cons hk2, rlook_cons, if_pos he])
        have het : (L[k].a == x) = true := by simp [he]
        clear he
        go_wp2
        go_ret
        exact ⟨ret_int hf.out.symm, rfl⟩
      · have het : (L[k].a == x) = false := by simp [he]
        have hno2 : Hid (∀ j, (hj : j < L.length) → j < k + 1 → L[j].a ≠ x) := Lib.hid fun j hj hjk => by
          by_cases e : j = k
          · subst e; exact he
          · exact hno.out j hj (by omega)
        clear he
        go_wp2
        go_round
        case rel => exact ⟨k + 1, by omega, by go_num, hno2⟩
        case measure => simp [intOf]; omega
    · obtain rfl : k = L.length := by omega
      have hf : Hid (M x = 0) := Lib.hid (by rw [← HV.out, rlook_drop L.length hno.out, List.drop_length]; rfl)
      go_wp2
      go_ret
      exact ⟨ret_int hf.out.symm, rfl⟩
/-- A row whose blocks are new becomes g's. -/
theorem row_own {w w1 : World} {O : Om} {g : Nat} {e : TypeId} {size n : Nat} {v : Value} {xs : List Value} (hhi : ∀ j, O j ≠ 0 → j < w.heap.size) (hg : g ≠ 0) (hb : Below w.heap.size w w1) (h : w1.ownsRow w.heap.size e size v n xs) :
    ∃ O', Ext (fun t => t = g) O w O' w1 ∧ (∀ k, v.ownBlock = some k → O' k = g) ∧ ∀ j, j < w.heap.size → O' j = O j := by
  classical
  refine ⟨fun j => if v.ownBlock = some j then g else O j, ⟨fun j hj => ?_, fun j hj => ?_, fun j hj hn => ?_, Wrote.of_below hb⟩, fun k hk => if_pos hk, fun j hj => ?_⟩
  · exact if_neg fun e => by have := (h.lt j e).1; omega
  · by_cases e : v.ownBlock = some j
    · exact (h.lt j e).2
    · have hj2 : (if v.ownBlock = some j then g else O j) ≠ 0 := hj
      rw [if_neg e] at hj2; exact Nat.lt_of_lt_of_le (hhi j hj2) hb.size
  · by_cases e : v.ownBlock = some j
    · exact if_pos e
    · have hj2 : (if v.ownBlock = some j then g else O j) ≠ 0 := hn
      rw [if_neg e] at hj2; have := hhi j hj2; omega
  · exact if_neg fun e => by have := (h.lt j e).1; omega
theorem ownsRow_base {w : World} {b1 b2 : Nat} {e : TypeId} {size n : Nat} {v : Value} {xs : List Value} (h : w.ownsRow b1 e size v n xs) (hb : b2 ≤ b1) : w.ownsRow b2 e size v n xs := by
  refine ⟨h.1, ?_⟩
  rcases h.2 with h1 | ⟨gg, cap, cur, hv, hbs, hg, rest⟩
  · exact .inl h1
  · exact .inr ⟨gg, cap, cur, hv, Nat.le_trans hb hbs, hg, rest⟩
set_option maxHeartbeats 2000000 in
set_option maxRecDepth 100000 in
theorem c_rput (x y : Int) {w : World} {O : Om} {g c m : Nat} {M : Int → Int} {n : Int} {la : La} (h : RC w O g c M n la m) (hm : m ≤ 1000000) (hg : g ≠ 0) (x0 : 0 ≤ x) (x1 : x < 18446744073709551616) (y0 : 0 ≤ y) (y1 : y < 18446744073709551616) (hhi : ∀ j, O j ≠ 0 → j < w.heap.size) :
    Calls Tryz.prog 129 #[.pointer (some ⟨c, 0, none⟩), .int .u64 x, .int .u64 y] w (RP (fun t => t = g) w O (.tuple #[]) fun W G => RC W G g c (upd M x y) n la (m + 1)) := by
  obtain ⟨v, L, h1, h2, h3, h4, h5, h6, h7⟩ := h.ex
  obtain ⟨i0, hi, hz0, hz1, hz2⟩ := info_parts infoWv
  have hA := Arr.of_own h6
  obtain ⟨ao, cp, rfl, hc, hcm⟩ := hA.shape
  have hl : L.length ≤ 9223372036854775807 := by omega
  have hcl := h5.lt
  have H1 := Lib.hid h1
  have H2 := Lib.hid h2
  have H3 := Lib.hid h3
  have H4 := Lib.hid h4
  have H5 := Lib.hid h5
  have HH := Lib.hid hhi
  have HA := Lib.hid hA
  have hm2 : L.length ≤ 1000000 := by omega
  clear h h1 h2 h3 h4 h5 h6 h7 hA hhi
  go_enter Tryz.func129, Tryz.ntmps129
  go_wp2_with fail
  go_loopw [6, 7, 8] (fun o d i wr => ∃ (k : Nat) (out : List Wv) (dn : Bool), k ≤ L.length ∧ i = .int .i64 k ∧ d = .bool dn ∧ wr.ownsRow w.heap.size 171 2 o out.length (rowOf wvc out) ∧ Below w.heap.size w wr ∧ out.length ≤ 2 * k ∧ rgo x y (y == 0) [] L = rgo x y dn out (L.drop k)) (fun _ _ i _ => L.length - (intOf i).toNat)
  case atStart => exact ⟨0, [], (y == 0), Nat.zero_le _, rfl, rfl, World.ownsRow_nil _ _ _ _, Below.refl _ _, by simp, by simp⟩
  case round =>
    obtain ⟨k, out, dn, hk, rfl, rfl, hown, hbel, hol, hgo⟩ := hrel
    have HO := Lib.hid hown
    have HB := Lib.hid hbel
    have HG := Lib.hid hgo
    have q0 := (hbel.cell (p := ⟨c, 0, none⟩) hcl).trans (H5.out.c 0 _ rfl)
    have hbs := hbel.size
    clear hown hbel hgo
    by_cases hk2 : k < L.length
    · as_aux_lemma =>
      obtain ⟨b, o, c', he, -, -, hlt, hx⟩ := HA.out.open (by omega) (by omega)
      cases he
      obtain ⟨u0, u1⟩ := wv_cells hx k hk2
      have hG2 := HG.out
      rw [List.drop_eq_getElem_cons hk2] at hG2
      have HG2 := Lib.hid hG2
      obtain ⟨q, hq⟩ : ∃ q, q = L[k] := ⟨_, rfl⟩
      rw [← hq] at HG2 u0 u1
      clear hx hG2 hq
      obtain ⟨qa, qv⟩ := q
      dsimp only at u0 u1
      have HU := Lib.hid (And.intro u0 u1)
      have y0' := (HB.out.cell (p := ⟨b, o + k * 2, none⟩) hlt).trans u0
      have y1' := (HB.out.cell (p := ⟨b, o + k * 2 + 1, none⟩) hlt).trans u1
      clear u0 u1
      by_cases hd : dn = true ∨ qa < x
      · have hcase : (dn = true ∧ (dn = true → True)) ∨ (dn = false ∧ decide (x ≤ qa) = false) := by
          rcases hd with h | h
          · exact .inl ⟨h, fun _ => trivial⟩
          · cases dn
            · exact .inr ⟨rfl, by simp; omega⟩
            · exact .inl ⟨rfl, fun _ => trivial⟩
        have HG3 : Hid (rgo x y (y == 0) [] L = if qa = x then rgo x y dn out (L.drop (k + 1)) else rgo x y dn (out ++ [⟨qa, qv⟩]) (L.drop (k + 1))) := Lib.hid (by
          rw [HG2.out]
          conv => lhs; unfold rgo
          rw [if_neg (by rcases hd with h | h <;> simp [h] <;> omega)])
        clear hd
        rcases hcase with ⟨rfl, -⟩ | ⟨rfl, hge⟩
        all_goals
          by_cases he : qa = x
          · have het : (qa != x) = false := by simp [he]
            have HG4 := HG3.out
            rw [if_pos he] at HG4
            have HG5 := Lib.hid HG4
            clear he HG4
            go_wp2
            go_roundw
            case rel => exact ⟨k + 1, out, _, by omega, by go_num, rfl, HO.out, HB.out, by omega, HG5.out⟩
            case measure => simp [intOf]; omega
          · have het : (qa != x) = true := by simp [he]
            have HG4 := HG3.out
            rw [if_neg he] at HG4
            have HG5 := Lib.hid HG4
            clear he HG4
            go_wp2_with (at_builtin; refine append_one _ rfl _ _ 126 rfl w.heap.size 171 i0 _ 2 16 Tryz.underlying126 hi hz0 hz1 hz2 rfl (by decide) (by decide) _ _ _ rfl HO.out [.int .u64 qa, .int .u64 qv] _ rfl rfl (by simp [Value.oneCell']) (by omega) hbs ?_; intro gg cap w2 hown2 hgr2)
            have hb2 := below_grown HB.out hbs HO.out hgr2
            go_roundw
            case rel => exact ⟨k + 1, out ++ [⟨qa, qv⟩], _, by omega, by go_num, rfl, by rw [rowOf_snoc, List.length_append]; exact hown2, hb2, by rw [List.length_append]; simp; omega, HG5.out⟩
            case measure => simp [intOf]; omega
      · have hdn : dn = false := by cases dn <;> simp_all
        subst hdn
        have hge : decide (x ≤ qa) = true := by simp at hd ⊢; omega
        have HG3 : Hid (rgo x y (y == 0) [] L = if qa = x then rgo x y true (out ++ [⟨x, y⟩]) (L.drop (k + 1)) else rgo x y true (out ++ [⟨x, y⟩] ++ [⟨qa, qv⟩]) (L.drop (k + 1))) := Lib.hid (by
          rw [HG2.out]
          conv => lhs; unfold rgo
          rw [if_pos (by simp [hge])])
        clear hd
        by_cases he : qa = x
        · have het : (qa != x) = false := by simp [he]
          have HG4 := HG3.out
          rw [if_pos he] at HG4
          have HG5 := Lib.hid HG4
          clear he HG4
          go_wp2_with (at_builtin; refine append_one _ rfl _ _ 126 rfl w.heap.size 171 i0 _ 2 16 Tryz.underlying126 hi hz0 hz1 hz2 rfl (by decide) (by decide) _ _ _ rfl HO.out [.int .u64 x, .int .u64 y] _ rfl rfl (by simp [Value.oneCell']) (by omega) hbs ?_; intro gg cap w2 hown2 hgr2
                       have HB2 := Lib.hid (below_grown HB.out hbs HO.out hgr2)
                       have hs2 := HB2.out.size
                       have q0 := (HB2.out.cell (p := ⟨c, 0, none⟩) hcl).trans (H5.out.c 0 _ rfl)
                       have z0 := (HB2.out.cell (p := ⟨b, o + k * 2, none⟩) hlt).trans HU.out.1
                       have z1 := (HB2.out.cell (p := ⟨b, o + k * 2 + 1, none⟩) hlt).trans HU.out.2
                       have HO2 := Lib.hid hown2
                       clear hown2 hgr2)
          go_roundw
          case rel => exact ⟨k + 1, out ++ [⟨x, y⟩], true, by omega, by go_num, rfl, by rw [rowOf_snoc, List.length_append]; exact HO2.out, HB2.out, by rw [List.length_append]; simp; omega, HG5.out⟩
          case measure => simp [intOf]; omega
        · have het : (qa != x) = true := by simp [he]
          have HG4 := HG3.out
          rw [if_neg he] at HG4
          have HG5 := Lib.hid HG4
          clear he HG4
          go_wp2_with (first
            | (at_builtin; refine append_one _ rfl _ _ 126 rfl w.heap.size 171 i0 _ 2 16 Tryz.underlying126 hi hz0 hz1 hz2 rfl (by decide) (by decide) _ _ _ rfl HO.out [.int .u64 x, .int .u64 y] _ rfl rfl (by simp [Value.oneCell']) (by omega) hbs ?_; intro gg cap w2 hown2 hgr2
               have HB2 := Lib.hid (below_grown HB.out hbs HO.out hgr2)
               have hs2 := HB2.out.size
               have q0 := (HB2.out.cell (p := ⟨c, 0, none⟩) hcl).trans (H5.out.c 0 _ rfl)
               have z0 := (HB2.out.cell (p := ⟨b, o + k * 2, none⟩) hlt).trans HU.out.1
               have z1 := (HB2.out.cell (p := ⟨b, o + k * 2 + 1, none⟩) hlt).trans HU.out.2
               have HO2 := Lib.hid hown2
               clear hown2 hgr2)
            | (at_builtin; refine append_one _ rfl _ _ 126 rfl w.heap.size 171 i0 _ 2 16 Tryz.underlying126 hi hz0 hz1 hz2 rfl (by decide) (by decide) _ _ _ rfl HO2.out [.int .u64 qa, .int .u64 qv] _ rfl rfl (by simp [Value.oneCell']) (by omega) hs2 ?_; intro gg3 cap3 w3 hown3 hgr3
               have HB3 := Lib.hid (below_grown HB2.out hs2 HO2.out hgr3)
               have HO3 := Lib.hid hown3
               clear hown3 hgr3))
          go_roundw
          case rel => exact ⟨k + 1, out ++ [⟨x, y⟩] ++ [⟨qa, qv⟩], true, by omega, by go_num, rfl, by rw [rowOf_snoc, rowOf_snoc, List.length_append, List.length_append]; exact HO3.out, HB3.out, by rw [List.length_append, List.length_append]; simp; omega, HG5.out⟩
          case measure => simp [intOf]; omega
    · obtain rfl : k = L.length := by omega
      have HG2 := HG.out
      rw [List.drop_length, rgo_put] at HG2
      have hfin : ∀ (W : World) (o : Value) (out2 : List Wv), rput x y L = out2 → W.ownsRow w.heap.size 171 2 o out2.length (rowOf wvc out2) → Below w.heap.size w W → RP (fun t => t = g) w O (.tuple #[]) (fun W G => RC W G g c (upd M x y) n la (m + 1)) (.returned (.tuple #[])) (W.setCell ⟨c, 0, none⟩ o) := by
        intro W o out2 hput hown hbel
        subst hput
        obtain ⟨O', e1, e2, e3⟩ := row_own HH.out hg hbel hown
        have hX : Ob W O' g c _ := (H5.out.ext (S := fun _ => False) (Ext.of_below HH.out hbel) id) |> fun h => ⟨(e3 c hcl).trans h.o, h.lt, h.c, h.f⟩
        have e4 : Ext (fun t => t = g) O' W O' (W.setCell ⟨c, 0, none⟩ o) := Ext.of_set e1.hi hX.o hg rfl
        have hne : ∀ k, o.ownBlock = some k → k ≠ c := fun k hk e => by have := (hown.lt k hk).1; omega
        refine ⟨rfl, O', e1.trans e4, o, rput x y L, ris_put x y H1.out, ok_put H2.out x0 x1 y0 y1, fun z => ?_, ?_, hX.set 0 o (by simp [rcCs]), ?_, fun k hk => ⟨e2 k hk, hne k hk⟩⟩
        · rw [rlook_put]; unfold upd; split
          · rfl
          · exact H3.out z
        · have := len_put x y L; have := H4.out; omega
        · exact (Wrote.setCell (S := fun j => j = c) (Wrote.refl _ _) (p := ⟨c, 0, none⟩) (fun _ => rfl) o).own (ownsRow_base hown (Nat.zero_le _)) fun k hk e => hne k hk e
      have HF := Lib.hid hfin
      have cf := (HB.out.frozen (p := ⟨c, 0, none⟩) hcl).trans (H5.out.f 0)
      cases dn with
      | true =>
        have HG3 := Lib.hid (show rput x y L = out by rw [HG2]; unfold rgo; simp)
        clear HG2 hfin
        obtain ⟨oo, oc, rfl, -, -⟩ := (Arr.of_own HO.out).shape
        go_wp2
        go_end0
        exact HF.out _ _ _ HG3.out HO.out HB.out
      | false =>
        have HG3 := Lib.hid (show rput x y L = out ++ [⟨x, y⟩] by rw [HG2]; unfold rgo; simp)
        clear HG2 hfin
        go_wp2_with (at_builtin; refine append_one _ rfl _ _ 126 rfl w.heap.size 171 i0 _ 2 16 Tryz.underlying126 hi hz0 hz1 hz2 rfl (by decide) (by decide) _ _ _ rfl HO.out [.int .u64 x, .int .u64 y] _ rfl rfl (by simp [Value.oneCell']) (by omega) hbs ?_; intro gg cap w2 hown2 hgr2
                     have HB2 := Lib.hid (below_grown HB.out hbs HO.out hgr2)
                     have hs2 := HB2.out.size
                     have q0 := (HB2.out.cell (p := ⟨c, 0, none⟩) hcl).trans (H5.out.c 0 _ rfl)
                     have cf2 := (HB2.out.frozen (p := ⟨c, 0, none⟩) hcl).trans (H5.out.f 0)
                     have HO2 := Lib.hid hown2
                     clear hown2 hgr2)
        go_end0
        exact HF.out _ _ _ HG3.out (by rw [rowOf_snoc, List.length_append]; exact HO2.out) HB2.out
set_option maxHeartbeats 1000000 in
set_option maxRecDepth 100000 in
theorem c_raccess (kd x y : Int) {w : World} {O : Om} {g c m : Nat} {M : Int → Int} {n : Int} {la : La} (h : RC w O g c M n la m) (hm : m ≤ 1000000) (hg : g ≠ 0) (x0 : 0 ≤ x) (x1 : x < 18446744073709551616) (y0 : 0 ≤ y) (y1 : y < 18446744073709551616) (hhi : ∀ j, O j ≠ 0 → j < w.heap.size) (n0 : 0 ≤ n) (n1 : n ≤ 4611686018427387904) :
    Calls Tryz.prog 138 #[.pointer (some ⟨c, 0, none⟩), .int .u8 kd, .int .u64 x, .int .u64 y] w (RP (fun t => t = g) w O (.int .u64 (M x)) fun W G => RC W G g c (upd M x y) (n + 1) ⟨kd, x, M x, y⟩ (m + 1)) := by
  have HK := Lib.hid (c_rPeek x h hm)
  have HU := Lib.hid (c_rput x y h hm hg x0 x1 y0 y1 hhi)
  clear h hhi
  go_enter Tryz.func138, Tryz.ntmps138
  go_wp2_with fail
  refine (HK.out).mono ?_
  rintro e w' ⟨rfl, rfl⟩
  go_wp2_with fail
  refine (HU.out).mono ?_
  rintro e w1 ⟨rfl, O1, e1, h1⟩
  obtain ⟨v, L, k1, k2, k3, k4, k5, k6, k7⟩ := h1.ex
  have q1 := k5.c 1 _ rfl
  have q2 := k5.c 2 _ rfl
  have q3 := k5.c 3 _ rfl
  have q4 := k5.c 4 _ rfl
  have q5 := k5.c 5 _ rfl
  have qf := k5.f
  have K5 := Lib.hid k5
  have K6 := Lib.hid k6
  have E1 := Lib.hid e1
  have KK := Lib.hid (And.intro k1 (And.intro k2 (And.intro k3 (And.intro k4 k7))))
  clear h1 k1 k2 k3 k4 k5 k6 k7 e1 HK HU
  go_wp2
  go_ret
  obtain ⟨k1, k2, k3, k4, k7⟩ := KK.out
  have s1 := K5.out.set 1 (.int .i64 (n + 1)) (by simp [rcCs])
  have s2 := s1.set 2 (.int .u8 kd) (by simp [rcCs])
  have s3 := s2.set 3 (.int .u64 x) (by simp [rcCs])
  have s4 := s3.set 4 (.int .u64 (M x)) (by simp [rcCs])
  have s5 := s4.set 5 (.int .u64 y) (by simp [rcCs])
  have hw : ∀ (W : World) (j : Nat) (u : Value), W.ownsRow 0 171 2 v L.length (rowOf wvc L) → (W.setCell ⟨c, j, none⟩ u).ownsRow 0 171 2 v L.length (rowOf wvc L) := fun W j u hW => (Wrote.setCell (S := fun j => j = c) (Wrote.refl _ _) (p := ⟨c, j, none⟩) (fun _ => rfl) u).own hW fun k hk e => (k7 k hk).2 e
  have he : ∀ (W : World) (j : Nat) (u : Value), Ext (fun t => t = g) O w O1 W → Ext (fun t => t = g) O w O1 (W.setCell ⟨c, j, none⟩ u) := fun W j u hW => hW.trans (Ext.of_set hW.hi K5.out.o hg rfl)
  exact ⟨rfl, O1, he _ _ _ (he _ _ _ (he _ _ _ (he _ _ _ (he _ _ _ E1.out)))), v, L, k1, k2, k3, k4, s5, hw _ _ _ (hw _ _ _ (hw _ _ _ (hw _ _ _ (hw _ _ _ K6.out)))), k7⟩
section
variable {w : World} {O : Om} {g c m : Nat} {M : Int → Int} {n : Int} {la : La}
theorem c_rLoad (x : Int) (h : RC w O g c M n la m) (hm : m ≤ 1000000) (hg : g ≠ 0) (x0 : 0 ≤ x) (x1 : x < 18446744073709551616) (hhi : ∀ j, O j ≠ 0 → j < w.heap.size) (n0 : 0 ≤ n) (n1 : n ≤ 4611686018427387904) :
    Calls Tryz.prog 100 #[.pointer (some ⟨c, 0, none⟩), .int .u64 x] w (RP (fun t => t = g) w O (.int .u64 (M x)) fun W G => RC W G g c M (n + 1) ⟨1, x, M x, M x⟩ (m + 1)) := by
  have hb := h.bd x
  have HK := Lib.hid (c_rPeek x h hm)
  have HU := Lib.hid (c_raccess 1 x (M x) h hm hg x0 x1 hb.1 hb.2 hhi n0 n1)
  rw [upd_id] at HU
  clear h hhi
  go_enter Tryz.func100, Tryz.ntmps100
  go_wp2_with fail
  refine (HK.out).mono ?_
  rintro e w' ⟨rfl, rfl⟩
  go_wp2_with fail
  refine (HU.out).mono ?_
  rintro e w1 ⟨rfl, O1, e1, h1⟩
  have HE := Lib.hid (And.intro e1 h1)
  clear e1 h1 HK HU
  go_wp2
  go_ret
  exact ⟨rfl, O1, HE.out⟩
theorem c_rStore (x y : Int) (h : RC w O g c M n la m) (hm : m ≤ 1000000) (hg : g ≠ 0) (x0 : 0 ≤ x) (x1 : x < 18446744073709551616) (y0 : 0 ≤ y) (y1 : y < 18446744073709551616) (hhi : ∀ j, O j ≠ 0 → j < w.heap.size) (n0 : 0 ≤ n) (n1 : n ≤ 4611686018427387904) :
    Calls Tryz.prog 99 #[.pointer (some ⟨c, 0, none⟩), .int .u64 x, .int .u64 y] w (RP (fun t => t = g) w O (.int .u64 (M x)) fun W G => RC W G g c (upd M x y) (n + 1) ⟨2, x, M x, y⟩ (m + 1)) := by
  have HU := Lib.hid (c_raccess 2 x y h hm hg x0 x1 y0 y1 hhi n0 n1)
  clear h hhi
  go_enter Tryz.func99, Tryz.ntmps99
  go_wp2_with fail
  refine (HU.out).mono ?_
  rintro e w1 ⟨rfl, O1, e1, h1⟩
  have HE := Lib.hid (And.intro e1 h1)
  clear e1 h1 HU
  go_wp2
  go_ret
  exact ⟨rfl, O1, HE.out⟩
theorem c_rAdd (x y : Int) (h : RC w O g c M n la m) (hm : m ≤ 1000000) (hg : g ≠ 0) (x0 : 0 ≤ x) (x1 : x < 18446744073709551616) (y0 : 0 ≤ y) (y1 : y < 18446744073709551616) (hhi : ∀ j, O j ≠ 0 → j < w.heap.size) (n0 : 0 ≤ n) (n1 : n ≤ 4611686018427387904) :
    Calls Tryz.prog 152 #[.pointer (some ⟨c, 0, none⟩), .int .u64 x, .int .u64 y] w (RP (fun t => t = g) w O (.int .u64 (M x)) fun W G => RC W G g c (upd M x ((M x + y) % 18446744073709551616)) (n + 1) ⟨4, x, M x, (M x + y) % 18446744073709551616⟩ (m + 1)) := by
  have hb := h.bd x
  have HK := Lib.hid (c_rPeek x h hm)
  obtain ⟨z, hz⟩ : ∃ z, z = (M x + y) % 18446744073709551616 := ⟨_, rfl⟩
  have hw : IntKind.u64.wrap (M x + y) = z := by rw [hz, IntKind.wrap_u64]
  have z0 : 0 ≤ z ∧ z < 18446744073709551616 := by omega
  rw [← hz]
  have HU := Lib.hid (c_raccess 4 x z h hm hg x0 x1 z0.1 z0.2 hhi n0 n1)
  have HW := Lib.hid hw
  clear h hhi hz hw
  go_enter Tryz.func152, Tryz.ntmps152
  go_wp2_with fail
  refine (HK.out).mono ?_
  rintro e w' ⟨rfl, rfl⟩
  have hw := HW.out
  go_wp2_with fail
  refine (HU.out).mono ?_
  rintro e w1 ⟨rfl, O1, e1, h1⟩
  have HE := Lib.hid (And.intro e1 h1)
  clear e1 h1 HK HU
  go_wp2
  go_ret
  exact ⟨rfl, O1, HE.out⟩
theorem c_rCAS (x o y : Int) (h : RC w O g c M n la m) (hm : m ≤ 1000000) (hg : g ≠ 0) (x0 : 0 ≤ x) (x1 : x < 18446744073709551616) (y0 : 0 ≤ y) (y1 : y < 18446744073709551616) (hhi : ∀ j, O j ≠ 0 → j < w.heap.size) (n0 : 0 ≤ n) (n1 : n ≤ 4611686018427387904) :
    Calls Tryz.prog 101 #[.pointer (some ⟨c, 0, none⟩), .int .u64 x, .int .u64 o, .int .u64 y] w (RP (fun t => t = g) w O (.tuple #[.int .u64 (M x), .bool (M x == o)]) fun W G => RC W G g c (upd M x (if M x = o then y else M x)) (n + 1) ⟨3, x, M x, if M x = o then y else M x⟩ (m + 1)) := by
  have hb := h.bd x
  have HK := Lib.hid (c_rPeek x h hm)
  by_cases ho : M x = o
  · rw [if_pos ho]
    have HU := Lib.hid (c_raccess 3 x y h hm hg x0 x1 y0 y1 hhi n0 n1)
    have e1 : (M x != o) = false := by simp [ho]
    have e2 : (M x == o) = true := by simp [ho]
    rw [e2]
    clear h hhi ho
    go_enter Tryz.func101, Tryz.ntmps101
    go_wp2_with fail
    refine (HK.out).mono ?_
    rintro e w' ⟨rfl, rfl⟩
    go_wp2_with fail
    refine (HU.out).mono ?_
    rintro e w1 ⟨rfl, O1, e1', h1⟩
    have HE := Lib.hid (And.intro e1' h1)
    clear e1' h1 HK HU
    go_wp2
    go_ret2
    exact ⟨rfl, O1, HE.out⟩
  · rw [if_neg ho]
    have HU := Lib.hid (c_raccess 3 x (M x) h hm hg x0 x1 hb.1 hb.2 hhi n0 n1)
    have e1 : (M x != o) = true := by simp [ho]
    have e2 : (M x == o) = false := by simp [ho]
    rw [e2]
    clear h hhi ho
    go_enter Tryz.func101, Tryz.ntmps101
    go_wp2_with fail
    refine (HK.out).mono ?_
    rintro e w' ⟨rfl, rfl⟩
    go_wp2_with fail
    refine (HU.out).mono ?_
    rintro e w1 ⟨rfl, O1, e1', h1⟩
    have HE := Lib.hid (And.intro e1' h1)
    clear e1' h1 HK HU
    go_wp2
    go_ret2
    exact ⟨rfl, O1, HE.out⟩
end
end Go.Proofs.YtijifjiehldcaaaGreat
