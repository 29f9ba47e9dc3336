import Derived.Test.YthpedifjclofoaaGreatLkA
import Derived.Test.YthpedifjclofoaaGreatSq
import Derived.Test.YthpedifjclofoaaGreatGtP
import Derived.Test.YthpedifjclofoaaGreatGt3
import Derived.Test.YthpedifjclofoaaGreatSB
import Derived.Test.YthpedifjclofoaaGreatSz
import Derived.Test.YthpedifjclofoaaGreatSE
import Derived.Test.YthpedifjclofoaaGreatGt5
import Derived.Test.YthpedifjclofoaaGreatFil
/- Layer 28, plain: a Look while a version is odd: it uses up its tries, and fails. -/
namespace Go.Proofs.YthpedifjclofoaaGreat
set_option linter.unusedSimpArgs false
set_option linter.unusedVariables false
def NtLe (l : List Nt) (n : Int) : Prop := ∀ m, l.getLast? = some m → m.step ≤ n
theorem NtLe.le {l : List Nt} {n k : Int} (h : NtLe l n) (hk : n ≤ k) : NtLe l k := fun m hm => Int.le_trans (h m hm) hk
theorem NtLe.add {l : List Nt} {x : Nt} {n : Int} (hx : x.step ≤ n) : NtLe (l ++ [x]) n := fun m hm => by
  rw [List.getLast?_append] at hm
  simp at hm
  rw [← hm]
  exact hx
theorem nt_add {l : List Nt} {x : Nt} (h : NtLe l x.step) (hl : l.length < 1048576) (k0 : 1 ≤ x.kind) (k1 : x.kind ≤ 9) : ntAdd l x = l ++ [x] := by
  refine ntAdd_ok (ntErr_ok ?_ (by omega))
  unfold ntBad ntLow
  rw [decide_eq_false (by omega), Bool.false_or]
  cases e : l.getLast? with
  | none => rfl
  | some m =>
    have := h m e
    exact decide_eq_false (by omega)
/-- Loads, and L notes of a kind. -/
structure LkF (s s' : AW) (c L : Nat) : Prop where
  M : s'.M = s.M
  tk : s'.tk = s.tk
  ho : s'.ho = s.ho
  it : s'.it = s.it
  n : s'.n = s.n + c
  nt : ∃ ns : List Nt, s'.nt = s.nt ++ ns ∧ ns.length = L ∧ ∀ x ∈ ns, x.kind = 6
  le : NtLe s'.nt s'.n
theorem lkStep_2 (key : ByteArray) (s : AW) (z : Lkm) (h : z.ln = 2) : lkStep key (s, z) = (if s.M (lkV z).1 % 2 = 1 then lkAgain (awLoad (lkV z).1 s) { z with vs := z.vs.set z.pos ((lkV z).1, s.M (lkV z).1) } else (awLoad (lkV z).1 s, { z with vs := z.vs.set z.pos ((lkV z).1, s.M (lkV z).1), pos := z.pos + 1, ln := if z.pos + 1 = z.vs.length then 3 else 2 })) := by
  obtain ⟨ln, left, tab, all, vs, pos, sl, ref, ep, pt, fl⟩ := z
  cases h
  rfl
theorem set_fst {l : List (Int × Int)} {i : Nat} {a v : Int} (h : (l[i]?).map Prod.fst = some a) : (l.set i (a, v)).map Prod.fst = l.map Prod.fst := by
  refine List.ext_getElem? fun j => ?_
  rw [List.getElem?_map, List.getElem?_map, List.getElem?_set]
  by_cases e : i = j
  · subst e
    rw [if_pos rfl]
    cases h2 : l[i]? with
    | none => rw [h2] at h; cases h
    | some x =>
      rw [h2] at h
      obtain ⟨hl, -⟩ := List.getElem?_eq_some_iff.1 h2
      rw [if_pos hl]
      exact h.symm
  · rw [if_neg e]
/-- The versions from a place on: the first odd one ends the try. -/
theorem lk_odd (key : ByteArray) : ∀ (d : Nat) (s : AW) (z : Lkm) (V : List Int), z.ln = 2 → z.vs.map Prod.fst = V → (hi : z.pos + d < V.length) → s.M V[z.pos + d] % 2 = 1 → (∀ j, (hj : j < V.length) → z.pos ≤ j → j < z.pos + d → s.M V[j] % 2 ≠ 1) →
    ∃ s' z1, Gos lkOver (lkStep key) (d + 1) (s, z) (lkAgain s' z1) ∧ Qt s s' (d + 1) ∧ z1.left = z.left ∧ z1.fl = z.fl := by
  intro d
  induction d with
  | zero =>
    intro s z V hl hV hi ho he
    have ha : (z.vs[z.pos]?).map Prod.fst = some V[z.pos + 0] := by
      rw [← List.getElem?_map, hV, List.getElem?_eq_getElem (by omega)]
      rfl
    have hv : (lkV z).1 = V[z.pos + 0] := by
      unfold lkV
      cases h2 : z.vs[z.pos]? with
      | none => rw [h2] at ha; cases ha
      | some x => rw [h2] at ha; exact Option.some.inj ha
    have hov : lkOver z = false := by unfold lkOver; rw [hl]; rfl
    refine ⟨awLoad (lkV z).1 s, { z with vs := z.vs.set z.pos ((lkV z).1, s.M (lkV z).1) }, Gos.one hov ?_, Qt.load _ s, rfl, rfl⟩
    rw [lkStep_2 key s z hl, if_pos (by rw [hv]; exact ho)]
  | succ d ih =>
    intro s z V hl hV hi ho he
    have hp : z.pos < V.length := by omega
    have ha : (z.vs[z.pos]?).map Prod.fst = some V[z.pos] := by
      rw [← List.getElem?_map, hV, List.getElem?_eq_getElem hp]
    have hv : (lkV z).1 = V[z.pos] := by
      unfold lkV
      cases h2 : z.vs[z.pos]? with
      | none => rw [h2] at ha; cases ha
      | some x => rw [h2] at ha; exact Option.some.inj ha
    have hov : lkOver z = false := by unfold lkOver; rw [hl]; rfl
    have hne : s.M (lkV z).1 % 2 ≠ 1 := by rw [hv]; exact he z.pos hp (Nat.le_refl _) (by omega)
    have hlen : z.vs.length = V.length := by rw [← hV, List.length_map]
    have hst := lkStep_2 key s z hl
    rw [if_neg hne, if_neg (by omega)] at hst
    obtain ⟨s', z1, g, q, q1, q2⟩ := ih (awLoad (lkV z).1 s) { z with vs := z.vs.set z.pos ((lkV z).1, s.M (lkV z).1), pos := z.pos + 1, ln := 2 } V rfl
      (by
        show (z.vs.set z.pos ((lkV z).1, s.M (lkV z).1)).map Prod.fst = V
        rw [set_fst (by rw [ha, hv]), hV]) (by show z.pos + 1 + d < V.length; omega)
      (by
        show s.M V[z.pos + 1 + d] % 2 = 1
        have e : z.pos + 1 + d = z.pos + (d + 1) := by omega
        simp only [e]
        exact ho)
      (fun j hj h1 h2 => he j hj (by have h1 : z.pos + 1 ≤ j := h1; omega) (by have h2 : j < z.pos + 1 + d := h2; omega))
    refine ⟨s', z1, ?_, ?_, q1, q2⟩
    · have := Gos.trans (Gos.one hov hst) g
      rw [Nat.add_comm] at this
      exact this
    · have := (Qt.load (lkV z).1 s).trans q
      rw [Nat.add_comm] at this
      exact this
/-- The first odd one. -/
theorem first_odd {p : Nat → Prop} [DecidablePred p] : ∀ (n : Nat), (∃ i, i < n ∧ p i) → ∃ i, i < n ∧ p i ∧ ∀ j, j < i → ¬ p j := by
  intro n
  induction n with
  | zero => rintro ⟨i, h, -⟩; omega
  | succ n ih =>
    rintro ⟨i, h, hp⟩
    by_cases e : ∃ i, i < n ∧ p i
    · obtain ⟨i, h1, h2, h3⟩ := ih e
      exact ⟨i, by omega, h2, h3⟩
    · have hin : i = n := by
        by_cases c : i < n
        · exact absurd ⟨i, c, hp⟩ e
        · omega
      subst hin
      exact ⟨i, by omega, hp, fun j hj hq => e ⟨j, hj, hq⟩⟩
def lkVs (key : ByteArray) (s : AW) : List Int := ofL (plPlaces (kyH key) (s.M 2))
theorem lk_try (key : ByteArray) (s : AW) (z : Lkm) (hl : z.ln = 1) (ho : ∃ i, ∃ h : i < (lkVs key s).length, s.M (lkVs key s)[i] % 2 = 1) :
    ∃ c s' z1, c ≤ 1 + (lkVs key s).length ∧ Gos lkOver (lkStep key) c (s, z) (lkAgain s' z1) ∧ Qt s s' c ∧ z1.left = z.left ∧ z1.fl = z.fl := by
  obtain ⟨V, hV⟩ : ∃ V, V = lkVs key s := ⟨_, rfl⟩
  rw [← hV] at ho ⊢
  obtain ⟨i, hi, hp0, hn⟩ := first_odd (p := fun i => ∃ h : i < V.length, s.M V[i] % 2 = 1) V.length (by obtain ⟨i, h1, h2⟩ := ho; exact ⟨i, h1, h1, h2⟩)
  obtain ⟨hi2, hp⟩ := hp0
  have hov : lkOver z = false := by unfold lkOver; rw [hl]; rfl
  have hst : lkStep key (s, z) = (awLoad 2 s, { z with tab := s.M 2, all := plPlaces (kyH key) (s.M 2), vs := V.map fun a => (a, 0), pos := 0, ref := 0, ln := 2 }) := by
    obtain ⟨ln, left, tab, all, vs, pos, sl, ref, ep, pt, fl⟩ := z
    cases hl
    rw [hV]
    rfl
  obtain ⟨s', z1, g, q, q1, q2⟩ := lk_odd key i (awLoad 2 s) { z with tab := s.M 2, all := plPlaces (kyH key) (s.M 2), vs := V.map fun a => (a, 0), pos := 0, ref := 0, ln := 2 } V rfl
    (by show (V.map fun a => (a, (0 : Int))).map Prod.fst = V; rw [List.map_map]; exact List.map_id V) (by show 0 + i < V.length; omega)
    (by show s.M V[0 + i] % 2 = 1; simp only [Nat.zero_add]; exact hp)
    (fun j hj _ h2 => by
      have h2 : j < 0 + i := h2
      intro e
      exact hn j (by omega) ⟨hj, e⟩)
  refine ⟨1 + (i + 1), s', z1, by omega, Gos.trans (Gos.one hov hst) g, (Qt.load 2 s).trans q, q1, q2⟩
/-- All tries. -/
theorem lk_fails (key : ByteArray) : ∀ (L : Nat) (s : AW) (z : Lkm), z.ln = 1 → z.left = L → (∃ i, ∃ h : i < (lkVs key s).length, s.M (lkVs key s)[i] % 2 = 1) → NtLe s.nt s.n → s.nt.length + L < 1048576 →
    ∃ c s' z', c ≤ (L + 1) * (1 + (lkVs key s).length) ∧ Gos lkOver (lkStep key) c (s, z) (s', z') ∧ z'.ln = 0 ∧ z'.fl = true ∧ LkF s s' c L := by
  intro L
  induction L with
  | zero =>
    intro s z hl hz ho hn hlen
    obtain ⟨c, s', z1, h1, h2, h3, h4, h5⟩ := lk_try key s z hl ho
    have e : lkAgain s' z1 = (s', { z1 with ln := 0, fl := true }) := by unfold lkAgain; rw [if_pos (by rw [h4, hz]; rfl)]
    rw [e] at h2
    exact ⟨c, s', _, by omega, h2, rfl, rfl, h3.M, h3.tk, h3.ho, h3.it, h3.n, ⟨[], by rw [h3.nt, List.append_nil], rfl, fun x hx => by cases hx⟩, by rw [h3.nt]; exact hn.le (by rw [h3.n]; omega)⟩
  | succ L ih =>
    intro s z hl hz ho hn hlen
    obtain ⟨c, s', z1, h1, h2, h3, h4, h5⟩ := lk_try key s z hl ho
    have e : lkAgain s' z1 = (awNote 6 0 0 0 0 (z1.left - 1) s', { z1 with left := z1.left - 1, ln := 1 }) := by unfold lkAgain; rw [if_neg (by rw [h4, hz]; omega)]
    rw [e] at h2
    have hnt : (awNote 6 0 0 0 0 (z1.left - 1) s').nt = s.nt ++ [⟨s'.n, s'.ho, 6, 0, 0, 0, 0, z1.left - 1⟩] := by
      show ntAdd s'.nt _ = _
      rw [h3.nt]
      exact nt_add (hn.le (by show s.n ≤ s'.n; rw [h3.n]; omega)) (by omega) (by show (1 : Int) ≤ 6; decide) (by show (6 : Int) ≤ 9; decide)
    have hvs : lkVs key (awNote 6 0 0 0 0 (z1.left - 1) s') = lkVs key s := by
      unfold lkVs
      show ofL (plPlaces (kyH key) (s'.M 2)) = _
      rw [h3.M]
    obtain ⟨c2, s2, z2, g1, g2, g3, g4, g5⟩ := ih (awNote 6 0 0 0 0 (z1.left - 1) s') { z1 with left := z1.left - 1, ln := 1 } rfl (by show z1.left - 1 = L; rw [h4, hz]; omega)
      (by
        obtain ⟨i, hi, hp⟩ := ho
        refine ⟨i, by rw [hvs]; exact hi, ?_⟩
        show s'.M _ % 2 = 1
        rw [h3.M]
        simp only [hvs]
        exact hp) (by rw [hnt]; exact NtLe.add (Int.le_refl _)) (by rw [hnt, List.length_append, List.length_singleton]; omega)
    rw [hvs] at g1
    obtain ⟨ns, n1, n2, n3⟩ := g5.nt
    refine ⟨c + c2, s2, z2, ?_, h2.trans g2, g3, g4, g5.M.trans h3.M, g5.tk.trans h3.tk, g5.ho.trans h3.ho, g5.it.trans h3.it, ?_, ⟨⟨s'.n, s'.ho, 6, 0, 0, 0, 0, z1.left - 1⟩ :: ns, ?_, by rw [List.length_cons, n2], fun x hx => ?_⟩, g5.le⟩
    · have : (L + 1 + 1) * (1 + (lkVs key s).length) = (L + 1) * (1 + (lkVs key s).length) + (1 + (lkVs key s).length) := Nat.succ_mul _ _
      omega
    · rw [g5.n]
      show s'.n + c2 = _
      rw [h3.n]
      push_cast
      omega
    · rw [n1, hnt, List.append_assoc]
      rfl
    · rcases List.mem_cons.1 hx with rfl | hx
      · rfl
      · exact n3 x hx
end Go.Proofs.YthpedifjclofoaaGreat
/- Layer 28, plain: what a Get's steps want stays so, while a version of its key's is odd. -/
namespace Go.Proofs.YthpedifjclofoaaGreat
set_option linter.unusedVariables false
/-- A Look that has an odd version ahead of it. -/
structure LkJ (key : ByteArray) (s : AW) (l : Lkm) : Prop where
  l0 : 0 ≤ l.left
  l1 : l.left ≤ 1000000
  ln : l.ln = 1 ∨ (l.ln = 2 ∧ l.vs.map Prod.fst = lkVs key s)
  od : ∃ i, ∃ h : i < (lkVs key s).length, s.M (lkVs key s)[i] % 2 = 1 ∧ (l.ln = 2 → l.pos ≤ i)
theorem ofAdd_mem {out : List Int} {p : Int × Int} {a : Int} (h : a ∈ ofAdd out p) : a ∈ out ∨ a = plVersion p.1 p.2 := by
  unfold ofAdd at h
  split at h
  · exact .inl h
  · rcases List.mem_append.1 h with h | h
    · exact .inl h
    · exact .inr (List.mem_singleton.1 h)
theorem ofL_mem : ∀ {l : List (Int × Int)} {out : List Int} {a : Int}, a ∈ l.foldl ofAdd out → a ∈ out ∨ ∃ p ∈ l, a = plVersion p.1 p.2
  | [], out, a, h => .inl h
  | p :: l, out, a, h => by
    rcases ofL_mem (l := l) h with h | ⟨q, hq, e⟩
    · rcases ofAdd_mem h with h | h
      · exact .inl h
      · exact .inr ⟨p, List.mem_cons_self .., h⟩
    · exact .inr ⟨q, List.mem_cons_of_mem _ hq, e⟩
theorem lkVs_bd {key : ByteArray} {s : AW} {a : Int} (h : a ∈ lkVs key s) : 0 ≤ a ∧ a < 256 := by
  rcases ofL_mem h with h | ⟨p, -, rfl⟩
  · cases h
  · unfold plVersion
    split <;> omega
theorem lkVs_len (key : ByteArray) (s : AW) : (lkVs key s).length ≤ 4 := Nat.le_trans (ofL_len _) (plPlaces_le _ _)
theorem lkVs_M {key : ByteArray} {s s' : AW} (h : s'.M = s.M) : lkVs key s' = lkVs key s := by unfold lkVs; rw [h]
theorem LkJ.b {key : ByteArray} {s : AW} {l : Lkm} (h : LkJ key s l) : lkB s l = true := by
  obtain ⟨ln, left, tab, all, vs, pos, sl, ref, ep, pt, fl⟩ := l
  obtain ⟨l0, l1, hl, i, hi, ho, hp⟩ := h
  dsimp only at l0 l1 hl hp
  unfold lkB
  rw [decide_eq_true ⟨l0, l1⟩, Bool.true_and]
  rcases hl with rfl | ⟨rfl, hv⟩
  · rfl
  · have hp := hp rfl
    have hlen : vs.length = (lkVs key s).length := by rw [← hv, List.length_map]
    have h4 := lkVs_len key s
    have hm : (lkV ⟨2, left, tab, all, vs, pos, sl, ref, ep, pt, fl⟩).1 ∈ lkVs key s := by
      rw [← hv]
      unfold lkV
      dsimp only
      rw [List.getElem?_eq_getElem (by omega : pos < vs.length)]
      exact List.mem_map_of_mem (List.getElem_mem _)
    have hb := lkVs_bd hm
    exact decide_eq_true ⟨by dsimp only; omega, by dsimp only; omega, hb.1, hb.2⟩
theorem LkJ.step {key : ByteArray} {s : AW} {l : Lkm} (h : LkJ key s l) :
    ((lkStep key (s, l)).2.ln ≠ 0 → LkJ key (lkStep key (s, l)).1 (lkStep key (s, l)).2) ∧ ((lkStep key (s, l)).2.ln = 0 → (lkStep key (s, l)).2.fl = true) ∧ (lkStep key (s, l)).2.ln ≤ 7 ∧ (lkStep key (s, l)).1.M = s.M ∧ (lkStep key (s, l)).1.it = s.it := by
  obtain ⟨ln, left, tab, all, vs, pos, sl, ref, ep, pt, fl⟩ := l
  obtain ⟨l0, l1, hl, i, hi, ho, hp⟩ := h
  dsimp only at l0 l1 hl hp
  rcases hl with rfl | ⟨rfl, hv⟩
  · have e : lkStep key (s, ⟨1, left, tab, all, vs, pos, sl, ref, ep, pt, fl⟩) = (awLoad 2 s, ⟨2, left, s.M 2, plPlaces (kyH key) (s.M 2), (lkVs key s).map fun a => (a, 0), 0, sl, 0, ep, pt, fl⟩) := rfl
    rw [e]
    refine ⟨fun _ => ⟨l0, l1, .inr ⟨rfl, ?_⟩, i, hi, ho, fun _ => Nat.zero_le _⟩, fun h => absurd (show (2 : Nat) = 0 from h) (by decide), Nat.le_of_ble_eq_true rfl, rfl, rfl⟩
    show ((lkVs key s).map fun a => (a, (0 : Int))).map Prod.fst = lkVs key s
    rw [List.map_map]
    exact List.map_id _
  · have hp := hp rfl
    have hlen : vs.length = (lkVs key s).length := by rw [← hv, List.length_map]
    have hpl : pos < (lkVs key s).length := by omega
    have ha : (vs[pos]?).map Prod.fst = some (lkVs key s)[pos] := by rw [← List.getElem?_map, hv, List.getElem?_eq_getElem hpl]
    have hvv : (lkV ⟨2, left, tab, all, vs, pos, sl, ref, ep, pt, fl⟩).1 = (lkVs key s)[pos] := by
      unfold lkV
      dsimp only
      cases h2 : vs[pos]? with
      | none => rw [h2] at ha; cases ha
      | some x => rw [h2] at ha; exact Option.some.inj ha
    rw [lkStep_2 key s _ rfl, hvv]
    dsimp only
    by_cases hc : s.M (lkVs key s)[pos] % 2 = 1
    · rw [if_pos hc]
      unfold lkAgain
      dsimp only
      by_cases h0 : left = 0
      · rw [if_pos h0]
        exact ⟨fun h => absurd rfl h, fun _ => rfl, Nat.zero_le _, rfl, rfl⟩
      · rw [if_neg h0]
        exact ⟨fun _ => ⟨by show 0 ≤ left - 1; omega, by show left - 1 ≤ 1000000; omega, .inl rfl, i, hi, ho, fun h => absurd (show (1 : Nat) = 2 from h) (by decide)⟩, fun h => absurd (show (1 : Nat) = 0 from h) (by decide), Nat.le_of_ble_eq_true rfl, rfl, rfl⟩
    · rw [if_neg hc]
      have hne : pos ≠ i := fun e => by subst e; exact hc ho
      rw [if_neg (by omega)]
      refine ⟨fun _ => ⟨l0, l1, .inr ⟨rfl, ?_⟩, i, hi, ho, fun _ => by show pos + 1 ≤ i; omega⟩, fun h => absurd (show (2 : Nat) = 0 from h) (by decide), Nat.le_of_ble_eq_true rfl, rfl, rfl⟩
      show (vs.set pos ((lkVs key s)[pos], s.M (lkVs key s)[pos])).map Prod.fst = _
      rw [set_fst ha, hv]
      exact (lkVs_M rfl).symm
/-- What a Get holds at its line. -/
def GtJL (key : ByteArray) (tries : Int) (s : AW) (z : Gtm) : Nat → Prop
  | 1 => LkJ key s (lkNew tries)
  | 2 => LkJ key s z.lk
  | 3 => z.tk.ln = 1 ∨ z.tk.ln = 2
  | 4 => FdI z.fd ∧ z.fd.left ≠ []
  | 5 => -9223372036854775808 ≤ z.ref ∧ z.ref ≤ 9223372036854775807
  | 6 => (-9223372036854775808 ≤ z.ref ∧ z.ref ≤ 9223372036854775807) ∧ 0 ≤ z.ep ∧ z.ep ≤ 18446744073709551615
  | 7 => z.tc.ok
  | _ => True
structure GtJ (key : ByteArray) (tries : Int) (s : AW) (z : Gtm) : Prop where
  bd : Bd s.M
  il : s.it.length ≤ 1000000
  l : GtJL key tries s z z.ln
theorem GtJ.b {key : ByteArray} {tries : Int} {s : AW} {z : Gtm} (h : GtJ key tries s z) : gtB key s z = true := by
  obtain ⟨bd, il, l⟩ := h
  obtain ⟨ln, lk, tk, fd, tc, ref, ep, pt, an, im⟩ := z
  dsimp only at l
  unfold gtB
  rw [decide_eq_true il, Bool.true_and]
  match ln, l with
  | 0, l => rfl
  | 1, l => rfl
  | 2, l =>
    obtain ⟨h1, h2, h3, h4, h5⟩ := LkJ.step (l := lk) l
    show (lkB s lk && (decide _ && decide _)) = true
    rw [show lkB s lk = true from LkJ.b l, decide_eq_true ⟨h3, by rw [h5]; exact il⟩, decide_eq_true (fun e0 e1 => by rw [h2 e0] at e1; cases e1)]
    rfl
  | 3, l => exact decide_eq_true l
  | 4, l =>
    have hne : fd.left.isEmpty = false := by
      cases e : fd.left with
      | nil => exact absurd e l.2
      | cons => rfl
    show (fdB fd && !fd.left.isEmpty) = true
    rw [show fdB fd = true from FdI.b l.1, hne]
    rfl
  | 5, l => rfl
  | 6, l => exact decide_eq_true l
  | 7, l => exact decide_eq_true ⟨⟨l.a0, l.a1⟩, ⟨l.w0, l.w1⟩, l.nx⟩
  | n + 8, l => rfl
theorem gtTells_J {key : ByteArray} {tries : Int} {s : AW} {z : Gtm} (bd : Bd s.M) (il : s.it.length ≤ 1000000) (hr : z.ref ≤ 9223372036854775807) : GtJ key tries s (gtTells s.it z) := by
  unfold gtTells
  split
  · rename_i h
    rw [Bool.and_eq_true] at h
    have hi := of_decide_eq_true h.1
    have hp : plRef z.ref = 4294967296 + z.ref := by unfold plRef; rw [if_neg (by omega)]
    refine ⟨bd, il, ?_⟩
    dsimp only
    rw [if_neg (by rw [hp]; omega)]
    exact ⟨by rw [hp]; show 0 ≤ 4294967296 + z.ref; omega, by show plRef z.ref < _; rw [hp]; omega, by show (0 : Int) ≤ 0; decide, by show (0 : Int) < 18446744073709551616; decide, fun _ => .inl rfl⟩
  · exact ⟨bd, il, trivial⟩
theorem GtJ.step {key : ByteArray} {tries : Int} {s : AW} {z : Gtm} (h : GtJ key tries s z) (t : Nat) : GtJ key tries (gtStep t key tries (s, z)).1 (gtStep t key tries (s, z)).2 := by
  have h0 := h
  obtain ⟨bd, il, l⟩ := h
  obtain ⟨ln, lk, tk, fd, tc, ref, ep, pt, an, im⟩ := z
  dsimp only at l
  have mm : ∀ x : Int, 0 ≤ x % 18446744073709551616 ∧ x % 18446744073709551616 < 18446744073709551616 := fun x => ⟨Int.emod_nonneg _ (by decide), Int.emod_lt_of_pos _ (by decide)⟩
  have look : ∀ (l : Lkm) (z : Gtm), LkJ key s l → GtJ key tries (lkStep key (s, l)).1 (gtLook (lkStep key (s, l)).1.it (lkStep key (s, l)).2 z) := fun l z hl => by
    obtain ⟨h1, h2, h3, h4, h5⟩ := hl.step
    unfold gtLook
    by_cases e : (lkStep key (s, l)).2.ln = 0
    · rw [if_pos e, if_pos (h2 e)]
      exact ⟨by rw [h4]; exact bd, by rw [h5]; exact il, .inl rfl⟩
    · rw [if_neg e]
      exact ⟨by rw [h4]; exact bd, by rw [h5]; exact il, h1 e⟩
  match ln, l, h0 with
  | 0, l, h0 => exact h0
  | 1, l, h0 => exact look (lkNew tries) _ l
  | 2, l, h0 => exact look lk _ l
  | 3, l, h0 =>
    have e : gtStep t key tries (s, ⟨3, lk, tk, fd, tc, ref, ep, pt, an, im⟩) = if (tkStep t s tk).2.ln = 0 then (awNote 7 0 0 0 0 0 (tkStep t s tk).1, ⟨4, lk, (tkStep t s tk).2, fdNew, tc, ref, ep, pt, an, im⟩) else ((tkStep t s tk).1, ⟨3, lk, (tkStep t s tk).2, fd, tc, ref, ep, pt, an, im⟩) := rfl
    rw [e]
    have hk : Bd (tkStep t s tk).1.M ∧ (tkStep t s tk).1.it = s.it ∧ ((tkStep t s tk).2.ln = 0 ∨ (tkStep t s tk).2.ln = 2) := by
      have l : tk.ln = 1 ∨ tk.ln = 2 := l
      unfold tkStep
      rcases l with l | l
      · rw [if_pos l]
        exact ⟨bd.upd 0 (mm _).1 (mm _).2, rfl, .inr rfl⟩
      · rw [if_neg (by rw [l]; decide), if_pos l]
        split
        · exact ⟨bd, rfl, .inl rfl⟩
        · exact ⟨bd, rfl, .inr l⟩
    by_cases e0 : (tkStep t s tk).2.ln = 0
    · rw [if_pos e0]
      exact ⟨hk.1, by show (tkStep t s tk).1.it.length ≤ _; rw [hk.2.1]; exact il, fdI_new, List.cons_ne_nil _ _⟩
    · rw [if_neg e0]
      exact ⟨hk.1, by show (tkStep t s tk).1.it.length ≤ _; rw [hk.2.1]; exact il, .inr (hk.2.2.resolve_left e0)⟩
  | 4, l, h0 =>
    obtain ⟨f1, f2, f3, f4⟩ := FdI.step (z := fd) l.1 key s l.2
    have e : gtStep t key tries (s, ⟨4, lk, tk, fd, tc, ref, ep, pt, an, im⟩) = ((fdStep key (s, fd)).1, if (fdStep key (s, fd)).2.left = [] then ⟨5, lk, tk, (fdStep key (s, fd)).2, tc, (fdStep key (s, fd)).2.ref, ep, pt, an, im⟩ else ⟨4, lk, tk, (fdStep key (s, fd)).2, tc, ref, ep, pt, an, im⟩) := by
      unfold gtStep
      dsimp only
      cases h : (fdStep key (s, fd)).2.left with
      | nil => rw [if_pos rfl]; rfl
      | cons a l => rw [if_neg (List.cons_ne_nil a l)]; rfl
    rw [e]
    by_cases e0 : (fdStep key (s, fd)).2.left = []
    · rw [if_pos e0]
      refine ⟨by rw [f3]; exact bd, by show (fdStep key (s, fd)).1.it.length ≤ _; rw [f4]; exact il, ?_⟩
      show -9223372036854775808 ≤ (fdStep key (s, fd)).2.ref ∧ (fdStep key (s, fd)).2.ref ≤ 9223372036854775807
      rcases f2 with h | ⟨-, h, h'⟩
      · rw [h]; decide
      · omega
    · rw [if_neg e0]
      exact ⟨by rw [f3]; exact bd, by show (fdStep key (s, fd)).1.it.length ≤ _; rw [f4]; exact il, f1 e0, e0⟩
  | 5, l, h0 =>
    have hb := bd 8
    exact ⟨bd, il, l, hb.1, by show s.M 8 ≤ _; omega⟩
  | 6, l, h0 =>
    have hbd : Bd (awGive s).M := bd.upd 1 (mm _).1 (mm _).2
    exact gtTells_J (s := awGive s) hbd il l.1.2
  | 7, l, h0 =>
    have hb : Bd (tcStep ⟨s.M, s.n, s.la, tc⟩).M := by
      unfold tcStep
      dsimp only
      split
      · exact bd
      · split
        · exact bd
        · split
          · exact bd
          · split
            · have hw0 := l.w0
              have hw1 := l.w1
              dsimp only at hw0 hw1
              unfold rfMark
              exact bd.upd _ (by omega) (by omega)
            · exact bd
    refine ⟨hb, il, ?_⟩
    show GtJL key tries _ _ (if (tcStep ⟨s.M, s.n, s.la, tc⟩).t.at_ = 0 then 0 else 7)
    split
    · trivial
    · exact tcStep_ok (z := ⟨s.M, s.n, s.la, tc⟩) l bd
  | n + 8, l, h0 => exact h0
theorem GtJ.goodR {key : ByteArray} {tries : Int} {t : Nat} : ∀ {M : Nat} {s : AW} {z : Gtm} {m : Nat} {s' : AW} {z' : Gtm}, GtJ key tries s z → runN gtOver (gtStep t key tries) M (s, z) = (m, s', z') → gtOver z' = true → goodN gtOver (gtStep t key tries) (fun y => gtB key y.1 y.2) M (s, z) = true
  | 0, s, z, m, s', z', h, hr, ho => by
    have e : (0, (s, z)) = (m, s', z') := hr
    have e2 : z = z' := congrArg (fun x : Nat × (AW × Gtm) => x.2.2) e
    unfold goodN
    rw [e2]
    exact ho
  | M + 1, s, z, m, s', z', h, hr, ho => by
    unfold goodN
    cases hov : gtOver z with
    | true => rfl
    | false =>
      rw [runN_on M (s, z) hov] at hr
      have e2 : (runN gtOver (gtStep t key tries) M (gtStep t key tries (s, z))).2 = (s', z') := congrArg (fun x : Nat × (AW × Gtm) => x.2) hr
      have hg := GtJ.goodR (h.step t) (show runN gtOver (gtStep t key tries) M ((gtStep t key tries (s, z)).1, (gtStep t key tries (s, z)).2) = ((runN gtOver (gtStep t key tries) M (gtStep t key tries (s, z))).1, s', z') from by
        show runN gtOver (gtStep t key tries) M (gtStep t key tries (s, z)) = _
        rw [← e2]) ho
      rw [show gtB key (s, z).1 (s, z).2 = true from h.b]
      have hg : goodN gtOver (gtStep t key tries) (fun y => gtB key y.1 y.2) M (gtStep t key tries (s, z)) = true := hg
      rw [hg, Bool.true_and, Bool.or_true]
end Go.Proofs.YthpedifjclofoaaGreat
/- Layer 28, plain: a Get by itself while a version of its key's is odd. -/
namespace Go.Proofs.YthpedifjclofoaaGreat
set_option linter.unusedVariables false
section
variable {t : Nat} {key : ByteArray} {tries : Int}
theorem gt_lift2 : ∀ (n : Nat) (s s' : AW) (z : Gtm) (l' : Lkm), z.ln = 2 → n ≠ 0 → Gos lkOver (lkStep key) n (s, z.lk) (s', l') → l'.ln = 0 → l'.fl = true →
    Gos gtOver (gtStep t key tries) n (s, z) (s', { z with lk := l', ln := 3, tk := tk0 }) := by
  intro n
  induction n with
  | zero => intro s s' z l' _ h; exact absurd rfl h
  | succ n ih =>
    intro s s' z l' hl _ hg h0 hf
    obtain ⟨h1, h2⟩ := hg
    obtain ⟨ln, lk, tk, fd, tc, ref, ep, pt, an, im⟩ := z
    dsimp only at hl h1 h2
    subst hl
    have hst : gtStep t key tries (s, ⟨2, lk, tk, fd, tc, ref, ep, pt, an, im⟩) = ((lkStep key (s, lk)).1, gtLook (lkStep key (s, lk)).1.it (lkStep key (s, lk)).2 ⟨2, lk, tk, fd, tc, ref, ep, pt, an, im⟩) := rfl
    cases n with
    | zero =>
      have h2 : (s', l') = lkStep key (s, lk) := h2
      rw [← h2] at hst
      unfold gtLook at hst
      dsimp only at hst
      rw [if_pos h0, if_pos hf] at hst
      exact Gos.one rfl hst
    | succ n =>
      have hne : ¬ (lkStep key (s, lk)).2.ln = 0 := by
        have h3 : lkOver (lkStep key (s, lk)).2 = false := h2.1
        intro e
        unfold lkOver at h3
        rw [e] at h3
        exact absurd h3 (by decide)
      unfold gtLook at hst
      rw [if_neg hne] at hst
      have := Gos.trans (Gos.one (over := gtOver) (z := (s, ⟨2, lk, tk, fd, tc, ref, ep, pt, an, im⟩)) rfl hst) (ih (lkStep key (s, lk)).1 s' ⟨2, (lkStep key (s, lk)).2, tk, fd, tc, ref, ep, pt, an, im⟩ l' rfl (by omega) h2 h0 hf)
      rw [Nat.add_comm] at this
      exact this
theorem gt_lift4 : ∀ (n : Nat) (s s' : AW) (z : Gtm) (f' : Fdm), z.ln = 4 → n ≠ 0 → Gos fdOver (fdStep key) n (s, z.fd) (s', f') → f'.left = [] →
    Gos gtOver (gtStep t key tries) n (s, z) (s', { z with fd := f', ref := f'.ref, ln := 5 }) := by
  intro n
  induction n with
  | zero => intro s s' z l' _ h; exact absurd rfl h
  | succ n ih =>
    intro s s' z f' hl _ hg h0
    obtain ⟨h1, h2⟩ := hg
    obtain ⟨ln, lk, tk, fd, tc, ref, ep, pt, an, im⟩ := z
    dsimp only at hl h1 h2
    subst hl
    have hst : gtStep t key tries (s, ⟨4, lk, tk, fd, tc, ref, ep, pt, an, im⟩) = ((fdStep key (s, fd)).1, if (fdStep key (s, fd)).2.left = [] then ⟨5, lk, tk, (fdStep key (s, fd)).2, tc, (fdStep key (s, fd)).2.ref, ep, pt, an, im⟩ else ⟨4, lk, tk, (fdStep key (s, fd)).2, tc, ref, ep, pt, an, im⟩) := by
      unfold gtStep
      dsimp only
      cases h : (fdStep key (s, fd)).2.left with
      | nil => rw [if_pos rfl]; rfl
      | cons a l => rw [if_neg (List.cons_ne_nil a l)]; rfl
    cases n with
    | zero =>
      have h2 : (s', f') = fdStep key (s, fd) := h2
      rw [← h2] at hst
      dsimp only at hst
      rw [if_pos h0] at hst
      exact Gos.one rfl hst
    | succ n =>
      have hne : ¬ (fdStep key (s, fd)).2.left = [] := by
        have h3 : fdOver (fdStep key (s, fd)).2 = false := h2.1
        intro e
        unfold fdOver at h3
        rw [e] at h3
        exact absurd h3 (by decide)
      rw [if_neg hne] at hst
      have := Gos.trans (Gos.one (over := gtOver) (z := (s, ⟨4, lk, tk, fd, tc, ref, ep, pt, an, im⟩)) rfl hst) (ih (fdStep key (s, fd)).1 s' ⟨4, lk, tk, (fdStep key (s, fd)).2, tc, ref, ep, pt, an, im⟩ f' rfl (by omega) h2 h0)
      rw [Nat.add_comm] at this
      exact this
/-- Its Touch. -/
theorem gt_touch (s : AW) (z : Gtm) (a : Int) (hz : z.ln = 7) (ht : z.tc = tcNew a) (ha : a ≠ 0) : ∃ c s' z', c ≤ 3 ∧ Gos gtOver (gtStep t key tries) c (s, z) (s', z') ∧ z'.ln = 0 ∧ z'.an = z.an ∧ z'.im = z.im ∧ z'.ep = z.ep ∧ s'.it = s.it ∧ s'.ho = s.ho ∧ s'.nt = s.nt ∧ ∀ x, x ≠ a → s'.M x = s.M x := by
  obtain ⟨ln, lk, tk, fd, tc, ref, ep, pt, an, im⟩ := z
  dsimp only at hz ht
  subst hz ht
  have st : ∀ (s : AW) (tc : Tc), gtStep t key tries (s, ⟨7, lk, tk, fd, tc, ref, ep, pt, an, im⟩) = (awOf (tcStep ⟨s.M, s.n, s.la, tc⟩) s, ⟨if (tcStep ⟨s.M, s.n, s.la, tc⟩).t.at_ = 0 then 0 else 7, lk, tk, fd, (tcStep ⟨s.M, s.n, s.la, tc⟩).t, ref, ep, pt, an, im⟩) := fun _ _ => rfl
  have t1 : tcStep ⟨s.M, s.n, s.la, tcNew a⟩ = ⟨s.M, s.n + 1, ⟨1, a, s.M a, s.M a⟩, ⟨if rfMarked (s.M a) then 0 else a, 1, s.M a, false⟩⟩ := by
    unfold tcStep tcNew
    dsimp only
    rw [if_neg ha, if_pos rfl]
  have e1 := st s (tcNew a)
  rw [t1] at e1
  by_cases hm : rfMarked (s.M a) = true
  · rw [hm] at e1
    exact ⟨1, _, _, by omega, Gos.one rfl e1, rfl, rfl, rfl, rfl, rfl, rfl, rfl, fun x _ => rfl⟩
  · have hm : rfMarked (s.M a) = false := by
      cases h : rfMarked (s.M a) with
      | true => exact absurd h hm
      | false => rfl
    rw [hm] at e1
    have e1 : gtStep t key tries (s, ⟨7, lk, tk, fd, tcNew a, ref, ep, pt, an, im⟩) = (awOf ⟨s.M, s.n + 1, ⟨1, a, s.M a, s.M a⟩, ⟨a, 1, s.M a, false⟩⟩ s, ⟨7, lk, tk, fd, ⟨a, 1, s.M a, false⟩, ref, ep, pt, an, im⟩) := by
      rw [e1]
      dsimp only [Bool.false_eq_true, if_false]
      simp only [Bool.false_eq_true, if_false, if_neg ha]
    obtain ⟨s1, hs1⟩ : ∃ x, x = awOf ⟨s.M, s.n + 1, ⟨1, a, s.M a, s.M a⟩, ⟨a, 1, s.M a, false⟩⟩ s := ⟨_, rfl⟩
    rw [← hs1] at e1
    have m1 : s1.M = s.M ∧ s1.it = s.it ∧ s1.ho = s.ho ∧ s1.nt = s.nt := by rw [hs1]; exact ⟨rfl, rfl, rfl, rfl⟩
    have t2 : tcStep ⟨s1.M, s1.n, s1.la, ⟨a, 1, s.M a, false⟩⟩ = ⟨s1.M, s1.n + 1, ⟨1, 5, s1.M 5, s1.M 5⟩, ⟨if s1.M 5 ≠ 0 then 0 else a, 2, s.M a, false⟩⟩ := by
      unfold tcStep
      dsimp only
      rw [if_neg ha, if_neg (by decide), if_pos rfl]
    have e2 := st s1 ⟨a, 1, s.M a, false⟩
    rw [t2] at e2
    by_cases h5 : s1.M 5 = 0
    · have e2 : gtStep t key tries (s1, ⟨7, lk, tk, fd, ⟨a, 1, s.M a, false⟩, ref, ep, pt, an, im⟩) = (awOf ⟨s1.M, s1.n + 1, ⟨1, 5, s1.M 5, s1.M 5⟩, ⟨a, 2, s.M a, false⟩⟩ s1, ⟨7, lk, tk, fd, ⟨a, 2, s.M a, false⟩, ref, ep, pt, an, im⟩) := by
        rw [e2]
        simp only [ne_eq, h5, not_true_eq_false, if_false, if_neg ha]
      obtain ⟨s2, hs2⟩ : ∃ x, x = awOf ⟨s1.M, s1.n + 1, ⟨1, 5, s1.M 5, s1.M 5⟩, ⟨a, 2, s.M a, false⟩⟩ s1 := ⟨_, rfl⟩
      rw [← hs2] at e2
      have m2 : s2.M = s.M ∧ s2.it = s.it ∧ s2.ho = s.ho ∧ s2.nt = s.nt := by rw [hs2]; exact m1
      have t3 : tcStep ⟨s2.M, s2.n, s2.la, ⟨a, 2, s.M a, false⟩⟩ = ⟨upd s2.M a (rfMark (s.M a)), s2.n + 1, ⟨3, a, s.M a, rfMark (s.M a)⟩, ⟨0, 3, s.M a, true⟩⟩ := by
        unfold tcStep
        dsimp only
        rw [if_neg ha, if_neg (by decide), if_neg (by decide), if_pos (by rw [m2.1])]
      have e3 := st s2 ⟨a, 2, s.M a, false⟩
      rw [t3] at e3
      refine ⟨3, _, _, Nat.le_refl _, Gos.trans (Gos.one rfl e1) (Gos.trans (c := 1) (d := 1) (Gos.one rfl e2) (Gos.one rfl e3)), rfl, rfl, rfl, rfl, m2.2.1, m2.2.2.1, m2.2.2.2, fun x hx => ?_⟩
      show upd s2.M a (rfMark (s.M a)) x = _
      rw [upd_other _ hx, m2.1]
    · have e2 : gtStep t key tries (s1, ⟨7, lk, tk, fd, ⟨a, 1, s.M a, false⟩, ref, ep, pt, an, im⟩) = (awOf ⟨s1.M, s1.n + 1, ⟨1, 5, s1.M 5, s1.M 5⟩, ⟨0, 2, s.M a, false⟩⟩ s1, ⟨0, lk, tk, fd, ⟨0, 2, s.M a, false⟩, ref, ep, pt, an, im⟩) := by
        rw [e2]
        simp only [ne_eq, h5, not_false_eq_true, if_true]
      exact ⟨2, _, _, by omega, Gos.trans (Gos.one rfl e1) (Gos.one rfl e2), rfl, rfl, rfl, rfl, m1.2.1, m1.2.2.1, m1.2.2.2, fun x _ => by show s1.M x = _; rw [m1.1]⟩
end
/-- A Get while a version is odd. -/
theorem gt_locked {b : Int} {s : AW} {T : Tab} (S : Sw b s T) (t L : Nat) (key : ByteArray) {p : Spt} {r : Int} (A : Stand1 b s.it T key p r) (h01 : s.M 0 = s.M 1) (hod : ∃ i, ∃ h : i < (lkVs key s).length, s.M (lkVs key s)[i] % 2 = 1) (hn : NtLe s.nt s.n) (hl : s.nt.length + L < 1048000) (hr : r ≤ s.it.length) :
    ∃ m s' z', m ≤ 5 * (L + 1) + 35 ∧ Gos gtOver (gtStep t key L) m (s, gtNew) (s', z') ∧ z'.ln = 0 ∧ z'.ep = s.M 8 ∧
      (z'.an, z'.im) = (if epAlive (itAt s.it r).dies (itAt s.it r).gen (s.M 8) = true then (11, itAt s.it r) else (12, it0)) ∧ s'.it = s.it ∧ s'.ho = -1 ∧ s'.M 1 = (s.M 1 + 1) % 18446744073709551616 ∧
      ∃ ns x, s'.nt = s.nt ++ (ns ++ [x]) ∧ ns.length = L ∧ (∀ y ∈ ns, y.kind = 6) ∧ x.kind = 7 ∧ x.thread = (t : Int) := by
  obtain ⟨c, s1, l1, a1, a2, a3, a4, a5⟩ := lk_fails key L s (lkNew L) rfl (by show (if (0 : Int) ≤ L then (L : Int) else 0) = L; rw [if_pos (by omega)]) hod hn (by omega)
  have hV := lkVs_len key s
  have hc : c ≤ 5 * (L + 1) := by
    have : (L + 1) * (1 + (lkVs key s).length) ≤ (L + 1) * 5 := Nat.mul_le_mul_left _ (by omega)
    omega
  have hc0 : c ≠ 0 := by
    intro e
    rw [e] at a2
    have a2 : (s1, l1) = (s, lkNew L) := a2
    have : l1 = lkNew L := congrArg Prod.snd a2
    rw [this] at a3
    exact absurd (show (1 : Nat) = 0 from a3) (by decide)
  have g1 : Gos gtOver (gtStep t key L) c (s, gtNew) (s1, { gtNew with lk := l1, ln := 3, tk := tk0 }) := by
    have h := gt_lift2 (t := t) (tries := L) c s s1 { gtNew with ln := 2, lk := lkNew L } l1 rfl hc0 a2 a3 a4
    cases c with
    | zero => exact absurd rfl hc0
    | succ c => exact ⟨rfl, h.2⟩
  -- the lock
  obtain ⟨z1, hz1⟩ : ∃ z, z = { gtNew with lk := l1, ln := 3, tk := tk0 } := ⟨_, rfl⟩
  obtain ⟨n0, hn0⟩ : ∃ x, x = (s.M 0 + 1) % 18446744073709551616 := ⟨_, rfl⟩
  obtain ⟨sD, hsD⟩ : ∃ x, x = awDraw t s1 := ⟨_, rfl⟩
  have d1 : gtStep t key L (s1, { gtNew with lk := l1, ln := 3, tk := tk0 }) = (sD, ⟨3, l1, ⟨2, s1.M 0, true⟩, fdNew, tcNew 0, 0, 0, 0, 0, it0⟩) := by rw [hsD]; rfl
  have dM : sD.M = upd s.M 0 n0 := by
    rw [hsD, hn0]
    show upd s1.M 0 ((s1.M 0 + 1) % 18446744073709551616) = _
    rw [a5.M]
  obtain ⟨sE, hsE⟩ : ∃ x, x = awServed t (awLoad 1 sD) := ⟨_, rfl⟩
  have hk : tkStep t sD ⟨2, s1.M 0, true⟩ = (sE, ⟨0, s1.M 0, true⟩) := by
    unfold tkStep
    rw [if_neg (show ¬ (2 : Nat) = 1 by decide), if_pos rfl, if_pos (by rw [dM, upd_other _ (by decide), a5.M, h01]; exact beq_self_eq_true _), hsE]
  obtain ⟨s2, hs2⟩ : ∃ x, x = awNote 7 0 0 0 0 0 sE := ⟨_, rfl⟩
  have d2 : gtStep t key L (sD, ⟨3, l1, ⟨2, s1.M 0, true⟩, fdNew, tcNew 0, 0, 0, 0, 0, it0⟩) = (s2, ⟨4, l1, ⟨0, s1.M 0, true⟩, fdNew, tcNew 0, 0, 0, 0, 0, it0⟩) := by
    show (if (tkStep t sD ⟨2, s1.M 0, true⟩).2.ln = 0 then _ else _) = _
    rw [hk, if_pos rfl, hs2]
  have m2 : s2.M = upd s.M 0 n0 := by rw [hs2, hsE]; exact dM
  have i2 : s2.it = s.it := by rw [hs2, hsE, hsD]; exact a5.it
  have ho2 : s2.ho = t := by rw [hs2, hsE]; rfl
  have hEn : sE.n = s1.n + 2 := by rw [hsE, hsD]; show s1.n + 1 + 1 = _; omega
  obtain ⟨ns, q1, q2, q3⟩ := a5.nt
  have nt2 : s2.nt = s.nt ++ (ns ++ [⟨sE.n, t, 7, 0, 0, 0, 0, 0⟩]) := by
    have hnE : sE.nt = s1.nt := by rw [hsE, hsD]; rfl
    have hoE : sE.ho = t := by rw [hsE]; rfl
    have hlen : s1.nt.length < 1048576 := by rw [q1, List.length_append, q2]; omega
    rw [hs2]
    show ntAdd sE.nt ⟨sE.n, sE.ho, 7, 0, 0, 0, 0, 0⟩ = _
    rw [hnE, hoE, nt_add (a5.le.le (by show s1.n ≤ sE.n; omega)) hlen (by show (1 : Int) ≤ 7; decide) (by show (7 : Int) ≤ 9; decide), q1, List.append_assoc]
  -- the Find
  have S2 : Sw b s2 T := S.same (by rw [m2, upd_other _ (by decide)]) (fun a h1 _ => by rw [m2, upd_other _ (by omega)]) i2
  have A2 : Stand1 b s2.it T key p r := by rw [i2]; exact A
  obtain ⟨c3, s3, f, f1, f2, f3, f4, f5, f6⟩ := fd_run key s2
  rw [S2.some A2] at f6
  obtain ⟨e1, e2⟩ := f6
  rw [S2.rep.it p A2.ok, A2.rf] at e2
  have hple := plPlaces_le (kyH key) (s2.M 2)
  have hc30 : c3 ≠ 0 := by
    intro e
    rw [e] at f2
    have f2 : (s3, f) = (s2, fdNew) := f2
    have : f = fdNew := congrArg Prod.snd f2
    rw [this] at f3
    exact absurd f3 (List.cons_ne_nil _ _)
  have g3 := gt_lift4 (t := t) (tries := L) c3 s2 s3 ⟨4, l1, ⟨0, s1.M 0, true⟩, fdNew, tcNew 0, 0, 0, 0, 0, it0⟩ f rfl hc30 f2 f3
  rw [e2] at g3
  dsimp only at g3
  -- the epoch
  obtain ⟨s4, hs4⟩ : ∃ x, x = awLoad 8 s3 := ⟨_, rfl⟩
  have d4 : gtStep t key L (s3, ⟨5, l1, ⟨0, s1.M 0, true⟩, f, tcNew 0, r, 0, 0, 0, it0⟩) = (s4, ⟨6, l1, ⟨0, s1.M 0, true⟩, f, tcNew 0, r, s3.M 8, s3.n + 1, 0, it0⟩) := by rw [hs4]; rfl
  have m3 : s3.M 8 = s.M 8 := by rw [f4.M, m2, upd_other _ (by decide)]
  have i4 : s4.it = s.it := by rw [hs4]; exact f4.it.trans i2
  -- the lock is given back
  obtain ⟨s5, hs5⟩ : ∃ x, x = awGive s4 := ⟨_, rfl⟩
  have d5 : gtStep t key L (s4, ⟨6, l1, ⟨0, s1.M 0, true⟩, f, tcNew 0, r, s3.M 8, s3.n + 1, 0, it0⟩) = (s5, gtTells s4.it ⟨6, l1, ⟨0, s1.M 0, true⟩, f, tcNew 0, r, s3.M 8, s3.n + 1, 0, it0⟩) := by rw [hs5]; rfl
  have m51 : s5.M 1 = (s.M 1 + 1) % 18446744073709551616 := by
    rw [hs5]
    show upd s4.M 1 ((s4.M 1 + 1) % 18446744073709551616) 1 = _
    rw [upd_same, hs4]
    show (s3.M 1 + 1) % 18446744073709551616 = _
    rw [f4.M, m2, upd_other _ (by decide)]
  have i5 : s5.it = s.it := by rw [hs5]; exact i4
  have n5 : s5.nt = s.nt ++ (ns ++ [⟨sE.n, t, 7, 0, 0, 0, 0, 0⟩]) := by rw [hs5, hs4]; exact f4.nt.trans nt2
  have o5 : s5.ho = -1 := by rw [hs5]; rfl
  have h0 := fdHit_pos A.hit
  have his : itIs s.it r = true := decide_eq_true ⟨h0, hr⟩
  have G5 : Gos gtOver (gtStep t key L) (c + (1 + (1 + (c3 + (1 + 1))))) (s, gtNew) (s5, gtTells s4.it ⟨6, l1, ⟨0, s1.M 0, true⟩, f, tcNew 0, r, s3.M 8, s3.n + 1, 0, it0⟩) :=
    g1.trans ((Gos.one rfl d1).trans ((Gos.one rfl d2).trans (g3.trans ((Gos.one rfl d4).trans (Gos.one rfl d5)))))
  unfold gtTells at G5
  dsimp only at G5
  rw [i4, his, m3, Bool.true_and] at G5
  by_cases hal : epAlive (itAt s.it r).dies (itAt s.it r).gen (s.M 8) = true
  · rw [if_pos hal] at G5 ⊢
    have hp : plRef r = 4294967296 + r := by unfold plRef; rw [if_neg (by omega)]
    rw [if_neg (by rw [hp]; omega)] at G5
    obtain ⟨c6, s6, z6, t1, t2, t3, t4, t5, t6, t7, t8, t9, t10⟩ := gt_touch (t := t) (key := key) (tries := L) s5 ⟨7, l1, ⟨0, s1.M 0, true⟩, f, tcNew (plRef r), r, s.M 8, s3.n + 1, 11, itAt s.it r⟩ (plRef r) rfl rfl (by rw [hp]; omega)
    exact ⟨_, s6, z6, by omega, G5.trans t2, t3, t6, by rw [t4, t5], t7.trans i5, t8.trans o5, (t10 1 (by rw [hp]; omega)).trans m51, ns, _, t9.trans n5, q2, q3, rfl, rfl⟩
  · rw [if_neg hal] at G5 ⊢
    exact ⟨_, s5, _, by omega, G5, rfl, rfl, rfl, i5, o5, m51, ns, _, n5, q2, q3, rfl, rfl⟩
end Go.Proofs.YthpedifjclofoaaGreat
/- Layer 28: GetsLocked: a Mark by itself; the Get behind it. -/
namespace Go.Proofs.YthpedifjclofoaaGreat
open Go.RowKit
set_option linter.unusedVariables false
def mkE (l : List Int) : Bool := l.isEmpty
def mkStep (x : AW × List Int) : AW × List Int := match x.2 with
  | [] => x
  | a :: l => (awAdd a 1 x.1, l)
section
variable {w : World} {O : Om} {B : Wb} {f : Cf} {s : AW} {k X : Nat}
theorem c_MkOverL {l : List Int} (h : MkAt w O k X l) : Calls Tryz.prog 298 #[.pointer (some ⟨X, 0, none⟩)] w fun e w' => e = .returned (.bool (mkE l)) ∧ w = w' := by
  obtain ⟨A, off, full, a, b, c⟩ := h.ex
  have e : mkE l = (l.length == 0) := by cases l <;> rfl
  rw [e]
  exact c_MkOver (a.c 0 _ rfl)
/-- A Mark of one place, by itself. -/
theorem c_MkRun (a : Int) (m : Nat) (hm : 1 ≤ m) (hm2 : m ≤ 1000) (hP : PW w O B f s) (hX : MkAt w O k X [a]) (hk : 10 ≤ k) (hhi : ∀ j, O j ≠ 0 → j < w.heap.size) (a0 : 0 ≤ a) (a1 : a < 18446744073709551616) (n0 : 0 ≤ s.n) (n1 : s.n + m ≤ 4611686018427387904) :
    Calls Tryz.prog 22 #[.pointer (some ⟨B.p, 0, none⟩), .iface 74 (.pointer (some ⟨X, 0, none⟩)), .int .i64 m] w (RP (SX k k) w O (.int .i64 1) fun W G => PW W G B f (awAdd a 1 s)) := by
  have hr : runN mkE mkStep m (s, [a]) = (1, awAdd a 1 s, []) := by
    cases m with
    | zero => omega
    | succ m =>
      rw [runN_on m (s, [a]) rfl]
      show ((runN mkE mkStep m (awAdd a 1 s, [])).1 + 1, (runN mkE mkStep m (awAdd a 1 s, [])).2) = _
      rw [runN_over m _ rfl]
  have h := c_RunG mkE mkStep (SX k k) (fun W G y => PW W G B f y.1 ∧ MkAt W G k X y.2 ∧ (y.2 = [a] ∨ y.2 = [])) B.p X 74 298 289 (m_MkOver _) (m_MkStep _)
    (run_enter Tryz.func298 (by kernel_rfl) (by kernel_rfl)) (run_enter Tryz.func289 (by kernel_rfl) (by kernel_rfl)) ?_ ?_ ?_ w O m (s, [a]) ⟨hP, hX, .inl rfl⟩ hhi n0 n1
  · rw [hr] at h
    refine h.mono fun e w' hp => RP.mono hp (fun _ _ h => h) fun W G h => h.1
  · rintro W G ⟨s1, l⟩ ⟨h1, h2, h3⟩
    exact c_MkOverL h2
  · rintro W G ⟨s1, l⟩ ⟨h1, h2, h3⟩ ho hh q0 q1
    rcases h3 with rfl | rfl
    · refine (c_MkStep a [] k h1 h2 (Nat.zero_le _) hk hh a0 a1 q0 q1).mono fun e w' hp => ⟨_, RP.mono hp (fun _ _ h => h) fun W G h => ⟨h.1, h.2, .inr rfl⟩⟩
    · cases ho
  · rintro ⟨s1, l⟩
    cases l with
    | nil => exact ⟨by show s1.n ≤ s1.n + 1; omega, Int.le_refl _⟩
    | cons b l => exact ⟨Int.le_refl _, by show s1.n ≤ s1.n + 1; omega⟩
end
theorem ofAdd_keep {out : List Int} {p : Int × Int} {a : Int} (h : a ∈ out) : a ∈ ofAdd out p := by
  unfold ofAdd
  split
  · exact h
  · exact List.mem_append_left _ h
theorem ofL_keep : ∀ {l : List (Int × Int)} {out : List Int} {a : Int}, a ∈ out → a ∈ l.foldl ofAdd out
  | [], _, _, h => h
  | p :: l, out, a, h => ofL_keep (l := l) (ofAdd_keep h)
theorem ofL_in : ∀ {l : List (Int × Int)} {out : List Int} {p : Int × Int}, p ∈ l → plVersion p.1 p.2 ≠ 0 → plVersion p.1 p.2 ∈ l.foldl ofAdd out
  | q :: l, out, p, h, hv => by
    rcases List.mem_cons.1 h with rfl | h
    · refine ofL_keep (l := l) ?_
      unfold ofAdd
      split
      · rename_i h2
        exact h2.resolve_left hv
      · exact List.mem_append_right _ (List.mem_cons_self ..)
    · exact ofL_in (l := l) h hv
/-- What the Get comes to. -/
structure GlR (s : AW) (t L : Nat) (c : Clm) (m : Nat) (s' : AW) (z' : Gtm) : Prop where
  ln : z'.ln = 0
  m : m ≤ 5 * (L + 1) + 35
  ep : z'.ep = 0
  an : (z'.an, z'.im) = (if epAlive (stIt c 1 0).dies (stIt c 1 0).gen 0 = true then (11, stIt c 1 0) else (12, it0))
  it : s'.it = s.it
  ho : s'.ho = -1
  m1 : s'.M 1 = 2
  nt : ∃ ns x, s'.nt = ns ++ [x] ∧ ns.length = L ∧ (∀ y ∈ ns, y.kind = 6) ∧ x.kind = 7 ∧ x.thread = (t : Int)
theorem gl_run {s : AW} {p : Spt} {T : Tab} {c : Clm} {key : ByteArray} (H : AgS 3 key s p T 1 (stIt c 1 0) 1) (hpar : ∀ a, 64 ≤ a → a < 128 → s.M a % 2 = 0) (hbd : Bd s.M) (t L : Nat) (hL : L ≤ 16) {q : Int} (hq : ((3 : Int), q) ∈ plPlaces (kyH key) 3) :
    ∃ m s' z', runN gtOver (gtStep t key L) 2000 (awAdd (plVersion 3 q) 1 s, gtNew) = (m, s', z') ∧ GlR s t L c m s' z' ∧ goodN gtOver (gtStep t key L) (fun y => gtB key y.1 y.2) 2000 (awAdd (plVersion 3 q) 1 s, gtNew) = true := by
  have hqb := plPlaces_bd (kyH_bd key).1 (kyH_bd key).2 hq
  have hv : 64 ≤ plVersion 3 q ∧ plVersion 3 q < 128 := (show (⟨3, q, 0⟩ : Spt).ok from ⟨by dsimp only; omega, by dsimp only; omega, hqb.2.2.1, hqb.2.2.2, by dsimp only; omega, by dsimp only; omega⟩).ver
  obtain ⟨v, hve⟩ : ∃ v, v = plVersion 3 q := ⟨_, rfl⟩
  obtain ⟨s2, hs2⟩ : ∃ x, x = awAdd (plVersion 3 q) 1 s := ⟨_, rfl⟩
  rw [← hs2]
  have m2 : s2.M = upd s.M v ((s.M v + 1) % 18446744073709551616) := by rw [hs2, hve]; rfl
  rw [← hve] at hv
  have i2 : s2.it = s.it := by rw [hs2]; rfl
  have n2 : s2.nt = s.nt := by rw [hs2]; rfl
  have S2 : Sw 3 s2 T := H.sw.same (by rw [m2, upd_other _ (by omega)]) (fun a h1 _ => by rw [m2, upd_other _ (by omega)]) i2
  have A2 : Stand1 3 s2.it T key p 1 := by rw [i2]; exact H.std
  have hvs : v ∈ lkVs key s2 := by
    unfold lkVs
    rw [S2.wd]
    have := ofL_in (out := []) hq (by rw [← hve]; omega)
    rw [hve]
    exact this
  have hod : ∃ i, ∃ h : i < (lkVs key s2).length, s2.M (lkVs key s2)[i] % 2 = 1 := by
    obtain ⟨i, hi, he⟩ := List.getElem_of_mem hvs
    refine ⟨i, hi, ?_⟩
    rw [he, m2, upd_same]
    have := hpar v hv.1 hv.2
    omega
  have hnt : s2.nt = [] := n2.trans H.nt
  have hle : NtLe s2.nt s2.n := by rw [hnt]; intro m hm; cases hm
  have hb2 : Bd s2.M := by rw [m2]; exact hbd.upd v (Int.emod_nonneg _ (by decide)) (Int.emod_lt_of_pos _ (by decide))
  obtain ⟨m, s', z', r1, r2, r3, r4, r5, r6, r7, r8, ns, x, r9, r10, r11, r12, r13⟩ := gt_locked S2 t L key A2 (by rw [m2, upd_other _ (by omega), upd_other _ (by omega), H.nxt, H.srv]) hod hle (by rw [hnt]; show 0 + L < 1048000; omega) (by rw [i2, H.len]; decide)
  have hov : gtOver z' = true := by unfold gtOver; rw [r3]; rfl
  have m8 : s2.M 8 = 0 := by rw [m2, upd_other _ (by omega)]; exact H.ep
  have hrun := r2.fin (m := 2000) (by omega) hov
  have hlast : itAt s2.it 1 = stIt c 1 0 := by rw [i2]; exact H.last
  rw [m8, hlast] at r5
  have hJ : GtJ key L s2 gtNew := by
    refine ⟨hb2, by rw [i2, H.len]; decide, ?_⟩
    have hl0 : (lkNew (L : Int)).left = L := by show (if (0 : Int) ≤ L then (L : Int) else 0) = L; rw [if_pos (by omega)]
    obtain ⟨i, hi, ho⟩ := hod
    exact ⟨by rw [hl0]; omega, by rw [hl0]; omega, .inl rfl, i, hi, ho, fun h => absurd (show (1 : Nat) = 2 from h) (by decide)⟩
  refine ⟨m, s', z', hrun, ⟨r3, r1, r4.trans m8, r5, r6.trans i2, r7, ?_, ns, x, by rw [r9, hnt]; rfl, r10, r11, r12, r13⟩, hJ.goodR hrun hov⟩
  rw [r8, m2, upd_other _ (by omega), H.srv]
  decide
end Go.Proofs.YthpedifjclofoaaGreat
/- Layer 28: GetsLocked. -/
namespace Go.Proofs.YthpedifjclofoaaGreat
open Go.RowKit
set_option linter.unusedVariables false
@[go_sem] theorem fld_an0 (a b c d e f g h : Value) (w : World) : (Instr.field 34 (.agg #[a, b, c, d, e, f, g, h]) 0).run Tryz.prog w = .ok a w := by kernel_rfl
/-- A law's world, and its call in a block of its own. -/
structure GlW (w0 W : World) (G : Om) (B : Wb) (f : Cf) (s : AW) (cb : Nat) (c : Clm) : Prop where
  p : PW W G B f s
  e : Env w0 G W
  x : Ob W G 42 cb (clCs c)
section
variable {w0 W W' : World} {G G' : Om} {B : Wb} {f : Cf} {s s' : AW} {cb : Nat} {c : Clm} {S : Nat → Prop}
theorem GlW.below (h : GlW w0 W G B f s cb c) (hb : Below W.heap.size W W') : GlW w0 W' G B f s cb c := ⟨h.p.below h.e.hi hb, h.e.ext (Ext.of_below (S := SW) h.e.hi hb), h.x.below hb⟩
theorem GlW.to (h : GlW w0 W G B f s cb c) (e : Ext S G W G' W') (p : PW W' G' B f s') (hs : ¬ S 42) : GlW w0 W' G' B f s' cb c := ⟨p, h.e.ext e, h.x.ext e hs⟩
theorem GlW.set (h : GlW w0 W G B f s cb c) (j : Nat) (v : Value) (hj : j < 7) {c' : Clm} (hc : (clCs c).set j v = clCs c') : GlW w0 (W.setCell ⟨cb, j, none⟩ v) G B f s cb c' ∧ Ext (fun t => t = 42) G W G (W.setCell ⟨cb, j, none⟩ v) := by
  have e : Ext (fun t => t = 42) G W G (W.setCell ⟨cb, j, none⟩ v) := Ext.of_set h.e.hi h.x.o (by decide) rfl
  exact ⟨⟨h.p.ext e (by decide) (by decide) (by decide) (by decide), h.e.ext e, by rw [← hc]; exact h.x.set j v (by show j < 7; exact hj)⟩, e⟩
end
theorem gl_own {w W0 W1 : World} {O : Om} {B : Wb} {f : Cf} {s : AW} {c : Clm} {ty : TypeId} (hb0 : Below (w.alloc (.cells (clCs c).toArray ty)).heap.size (w.alloc (.cells (clCs c).toArray ty)) W0) (hP : PW W1 O B f s) (hE : Env W0 O W1) : ∃ G, GlW w W1 G B f s w.heap.size c ∧ ∀ j, j ≠ w.heap.size → G j = O j := by
  have hb := alloc_below w (.cells (clCs c).toArray ty)
  have hlt0 : w.heap.size < (w.alloc (.cells (clCs c).toArray ty)).heap.size := by simp
  have hlt : w.heap.size < W0.heap.size := Nat.lt_of_lt_of_le hlt0 hb0.size
  have hO : O w.heap.size = 0 := by
    by_cases e : O w.heap.size = 0
    · exact e
    · have := hE.base _ e; omega
  obtain ⟨G, hG⟩ : ∃ G : Om, ∀ j, G j = if j = w.heap.size then 42 else O j := ⟨_, fun _ => rfl⟩
  have hne : ∀ j, O j ≠ 0 → G j = O j := fun j hj => by
    rw [hG, if_neg]
    intro e
    rw [e] at hj
    exact hj hO
  have hhi : ∀ j, G j ≠ 0 → j < W1.heap.size := fun j hj => by
    by_cases e : j = w.heap.size
    · rw [e]; exact Nat.lt_of_lt_of_le hlt hE.bel.size
    · rw [hG, if_neg e] at hj; exact hE.hi j hj
  have hbe : Below w.heap.size w W0 := hb.trans (hb0.mono hb.size)
  refine ⟨G, ⟨hP.congr hne hhi, ⟨fun j hj => ?_, hhi, hbe.trans (hE.bel.mono hbe.size)⟩, ⟨?_, Nat.lt_of_lt_of_le hlt hE.bel.size, fun j u hu => ?_, fun j => ?_⟩⟩, fun j hj => by rw [hG, if_neg hj]⟩
  · by_cases e : j = w.heap.size
    · omega
    · rw [hG, if_neg e] at hj
      exact Nat.le_trans hbe.size (hE.base j hj)
  · rw [hG, if_pos rfl]
  · exact (hE.bel.cell (p := ⟨w.heap.size, j, none⟩) hlt).trans ((hb0.cell (p := ⟨w.heap.size, j, none⟩) hlt0).trans (cell_newA w (clCs c).toArray ty _ rfl j u (by simpa using hu)))
  · exact (hE.bel.frozen (p := ⟨w.heap.size, j, none⟩) hlt).trans ((hb0.frozen (p := ⟨w.heap.size, j, none⟩) hlt0).trans (by simp))
theorem gt_lt {w : World} {O : Om} {k X t : Nat} {key : ByteArray} {z : Gtm} (h : GtAt w O k X t key z) : X < w.heap.size := by
  obtain ⟨pv, ho, -⟩ := h.ex
  exact ho.lt
section
set_option maxHeartbeats 8000000 in
set_option maxRecDepth 100000 in
theorem w_GetsLocked (verb : Int) (key val : ByteArray) (fl exp id by_ z0 z1 z2 : Int) (w : World) (a0 : 0 ≤ verb) (a1 : verb ≤ 255) (hkz : key.size ≤ maxLen) (hvz : val.size ≤ maxLen) (f0 : 0 ≤ fl) (f1 : fl ≤ 4294967295) (x0 : -9223372036854775808 ≤ exp) (x1 : exp ≤ 9223372036854775807) (i0 : 0 ≤ id) (i1 : id ≤ 18446744073709551615) (b0 : 0 ≤ by_) (b1 : by_ ≤ 18446744073709551615) (p0 : 0 ≤ z0) (p1 : z0 ≤ 255) (q0 : 0 ≤ z1) (q1 : z1 ≤ 255) (r0 : 0 ≤ z2) (r1 : z2 ≤ 255) :
    Calls Tryz.prog 5 #[.agg #[.int .u8 verb, .string key, .string val, .int .u32 fl, .int .i64 exp, .int .u64 id, .int .u64 by_], .agg #[.int .u8 z0, .int .u8 z1, .int .u8 z2]] w fun e w' => e = .returned (.bool true) ∧ Below w.heap.size w w' := by
  obtain ⟨c, hc⟩ : ∃ c : Clm, c = ⟨verb, key, val, fl, exp, id, by_⟩ := ⟨_, rfl⟩
  have hcv : clCs c = [.int .u8 verb, .string key, .string val, .int .u32 fl, .int .i64 exp, .int .u64 id, .int .u64 by_] := by rw [hc]; rfl
  obtain ⟨L, hL⟩ : ∃ L : Nat, z2 % 17 = (L : Int) := ⟨(z2 % 17).toNat, by omega⟩
  have hL16 : L ≤ 16 := by omega
  obtain ⟨k, hk⟩ : ∃ k : Nat, z0 % 64 = (k : Int) := ⟨(z0 % 64).toNat, by omega⟩
  have hk64 : k < 64 := by omega
  obtain ⟨f, hf⟩ : ∃ f : Cf, f = ⟨3, 8, L, 1, 16⟩ := ⟨_, rfl⟩
  have hmay : f.may := by rw [hf]; exact ⟨by show (1 : Int) ≤ 3; decide, by show (3 : Int) ≤ 12; decide, by show (1 : Int) ≤ 8; decide, by show (8 : Int) ≤ 65536; decide, by show (0 : Int) ≤ L; omega, by show (L : Int) ≤ 16; omega, by show (1 : Int) ≤ 1; decide, by show (1 : Int) ≤ 8; decide, by show (2 : Int) ≤ 16; decide, by show (16 : Int) ≤ 256; decide⟩
  obtain ⟨W0, hW0⟩ : ∃ W, W = (w.alloc (.cells #[.int .u8 verb, .string key, .string val, .int .u32 fl, .int .i64 exp, .int .u64 id, .int .u64 by_] 26)).alloc (.cells #[.int .u8 z0, .int .u8 z1, .int .u8 z2] 67) := ⟨_, rfl⟩
  have hb0 : Below (w.alloc (.cells (clCs c).toArray 26)).heap.size (w.alloc (.cells (clCs c).toArray 26)) W0 := by rw [hW0, hcv]; exact alloc_below _ _
  have hz : ∀ j u, [Value.int .u8 z0, .int .u8 z1, .int .u8 z2][j]? = some u → W0.cell? ⟨w.heap.size + 1, j, none⟩ = some u := fun j u hu => by rw [hW0]; exact cell_newA _ #[.int .u8 z0, .int .u8 z1, .int .u8 z2] _ _ (by simp) j u (by simpa using hu)
  have hzl : w.heap.size + 1 < W0.heap.size := by rw [hW0]; simp
  have HW := Lib.hid (c_WNewP f W0 hmay)
  have HOWN := Lib.hid (fun W1 O B (hP : PW W1 O B f (aw0 3)) (hE : Env W0 O W1) => gl_own hb0 hP hE)
  have HZ := Lib.hid (And.intro hz hzl)
  have HCV := Lib.hid hcv
  have HC := Lib.hid hc
  have HKZ := Lib.hid (And.intro hkz hvz)
  have HXP := Lib.hid (And.intro x0 x1)
  have HFF := Lib.hid hf
  rw [hf] at HW
  dsimp only at HW
  have hb3 : f.b = 3 := by rw [hf]
  clear hf hmay hb0 hz hzl
  obtain ⟨sm, hw⟩ : ∃ sm, IntKind.i64.wrap ((key.size : Int) + val.size) = sm := ⟨_, rfl⟩
  clear hc hcv hkz hvz a0 a1 f0 f1 x0 x1 i0 i1 b0 b1
  by_cases hs2 : 3000 < sm
  · go_enter Tryz.func5, Tryz.ntmps5
    go_wp2_with fail
    refine (c_lives28 _).mono ?_
    rintro e w9 ⟨rfl, hb9⟩
    go_wp2_with fail
    go_ret
    have hb := (alloc_below w (.cells #[.int .u8 verb, .string key, .string val, .int .u32 fl, .int .i64 exp, .int .u64 id, .int .u64 by_] 26))
    have hb2 := hb.trans ((alloc_below (w.alloc (.cells #[.int .u8 verb, .string key, .string val, .int .u32 fl, .int .i64 exp, .int .u64 id, .int .u64 by_] 26)) (.cells #[.int .u8 z0, .int .u8 z1, .int .u8 z2] 67)).mono hb.size)
    exact ⟨rfl, hb2.trans (hb9.mono hb2.size)⟩
  · go_enter Tryz.func5, Tryz.ntmps5
    go_upto_region 3 with fail
    have u2 := HZ.out.1 2 _ rfl
    rw [hW0] at u2
    go_wp2_with fail
    rw [← hW0]
    refine HW.out.mono ?_
    rintro e w1 ⟨B, O1, rfl, pp, E1⟩
    obtain ⟨G1, S1, hG1⟩ := HOWN.out w1 O1 B (by rw [HFF.out]; exact pp) E1
    have hzb : Bx w1 G1 (w.heap.size + 1) [.int .u8 z0, .int .u8 z1, .int .u8 z2] := ⟨by
      rw [hG1 _ (by omega)]
      by_cases e : O1 (w.heap.size + 1) = 0
      · exact e
      · have h1 := E1.base _ e
        have h2 := HZ.out.2
        omega, Nat.lt_of_lt_of_le HZ.out.2 E1.bel.size, fun j u hu => (E1.bel.cell (p := ⟨w.heap.size + 1, j, none⟩) HZ.out.2).trans (HZ.out.1 j u hu)⟩
    have hg8 : f.g = 8 := by rw [HFF.out]
    have ht : f.t = L := by rw [HFF.out]
    have HT := Lib.hid (And.intro ht (And.intro hg8 (And.intro hL16 hk64)))
    obtain ⟨cb, hcb⟩ : ∃ n, n = w.heap.size := ⟨_, rfl⟩
    obtain ⟨zb, hzbe⟩ : ∃ n, n = w.heap.size + 1 := ⟨_, rfl⟩
    rw [← hcb] at S1
    rw [← hzbe] at hzb
    have HS1 := Lib.hid (And.intro S1 hzb)
    have ob := S1.x
    rw [HCV.out] at ob
    have k0 := ob.c 0 _ rfl
    have g0 := ob.f 0
    clear pp E1 S1 hzb HW HOWN HZ ob hG1 hg8 ht u2 hb3 hs2 r0 r1 HFF
    go_upto_region 4 with fail
    rw [← hzbe, ← hcb]
    clear hcb hzbe hW0
    go_upto_region 7 with fail
    obtain ⟨c1, hc1⟩ : ∃ c1 : Clm, c1 = ⟨3, key, val, fl, exp, id, by_⟩ := ⟨_, rfl⟩
    have S2 := HS1.out.1.set 0 (.int .u8 3) (by decide) (c' := c1) (by rw [HC.out, hc1]; rfl)
    obtain ⟨w2, hw2⟩ : ∃ W, W = w1.setCell ⟨cb, 0, none⟩ (.int .u8 3) := ⟨_, rfl⟩
    rw [← hw2] at S2 ⊢
    have HS2 := Lib.hid (And.intro S2.1 (HS1.out.2.ext S2.2))
    have HC1 := Lib.hid hc1
    have ob := S2.1.x
    rw [hc1] at ob
    clear k0 g0
    have k0 := ob.c 0 _ rfl
    have k1 := ob.c 1 _ rfl
    have k2 := ob.c 2 _ rfl
    have k3 := ob.c 3 _ rfl
    have k4 := ob.c 4 _ rfl
    have k5 := ob.c 5 _ rfl
    have k6 := ob.c 6 _ rfl
    clear S2 hw2 ob hc1 HS1 HC HCV
    have hk1 : c1.key = key := by rw [HC1.out]
    have hv1 : c1.val = val := by rw [HC1.out]
    have he1 : c1.exp = exp := by rw [HC1.out]
    have hb1 : c1.verb = 3 := by rw [HC1.out]
    have hcl1 : clV c1 = .agg #[.int .u8 3, .string key, .string val, .int .u32 fl, .int .i64 exp, .int .u64 id, .int .u64 by_] := by rw [HC1.out]; rfl
    cases hmb : mayB c1 with
    | false =>
      have HDV := Lib.hid (c_DoesV (w := w2) B.p 5 c1 hmb (by rw [hk1]; exact HKZ.out.1) (by rw [hv1]; exact HKZ.out.2))
      rw [hcl1] at HDV
      unfold ansV at HDV
      clear hmb hk1 hv1 he1 hb1 hcl1
      go_wp2_with fail
      refine HDV.out.mono ?_
      rintro e w3 ⟨rfl, hb3⟩
      have HB := Lib.hid (HS2.out.1.e.bel.trans (hb3.mono HS2.out.1.e.bel.size))
      clear hb3
      go_wp2_with fail
      refine (c_lives28 _).mono ?_
      rintro e w9 ⟨rfl, hb9⟩
      go_wp2_with fail
      go_ret
      exact ⟨rfl, HB.out.trans (hb9.mono HB.out.size)⟩
    | true =>
      have HKO : Hid (kyOk key = true) := Lib.hid (by
        have h := hmb
        unfold mayB at h
        rw [hk1] at h
        simp only [Bool.and_eq_true] at h
        exact h.2.1)
      obtain ⟨s1, p, T, A1, hpar, D1⟩ : ∃ (s1 : AW) (p : Spt) (T : Tab), AgS 3 key s1 p T 1 (stIt c1 1 0) 1 ∧ (∀ a, 64 ≤ a → a < 128 → s1.M a % 2 = 0) ∧ Calls Tryz.prog 10 #[.pointer (some ⟨B.p, 0, none⟩), .int .i64 5, .agg #[.int .u8 3, .string key, .string val, .int .u32 fl, .int .i64 exp, .int .u64 id, .int .u64 by_]] w2 (RP (SX 10 41) w2 G1 (ansV 1 1) fun W G => PW W G B f s1) := by
        obtain ⟨m, s1, zz, p, T, r1, o1, an1, nu1, A1, hpar⟩ := ag_new (b := 3) (by decide) (by decide) 5 c1 (by rw [hb1]; decide)
        rw [hk1] at A1
        refine ⟨s1, p, T, A1, hpar, ?_⟩
        have hP := HS2.out.1.p
        have h := c_DoesI (f := f) (t := 5) (aw0_sti hP.bd (by decide) (by decide) c1 (g := f.g) (by rw [HT.out.2.1]; decide)) r1 o1 hP (by decide) hmb (by rw [he1]; exact HXP.out) (by rw [hk1]; exact HKZ.out.1) (by rw [hv1]; exact HKZ.out.2) (by rw [HT.out.2.1]; decide) (by rw [HT.out.2.1]; decide) HS2.out.1.e.hi (Int.le_refl _) (by show (0 : Int) + 200000 ≤ _; decide)
        rw [an1, nu1, hcl1] at h
        exact h
      have HD1 := Lib.hid D1
      unfold ansV at HD1
      have HA1 := Lib.hid (And.intro A1 hpar)
      have HH := Lib.hid (fun W => c_Hash key W HKZ.out.1)
      rw [show fnvHash key.data.toList = kyH key from rfl] at HH
      have hkb := kyH_bd key
      have HPL := Lib.hid (fun W => c_Places (kyH key) 3 W hkb.1 hkb.2 (by decide) (by decide))
      obtain ⟨l, hl⟩ : ∃ l, l = plPlaces (kyH key) 3 := ⟨_, rfl⟩
      rw [← hl] at HPL
      have HLE := Lib.hid hl
      have hl0 : 0 < l.length := by
        have : ((3 : Int), fnvBucket (kyH key) 3) ∈ l := by rw [hl]; exact (plPlaces_one (by decide) (by decide) _).2 (by rw [plPair_in (by decide) (by decide)]; exact List.mem_cons_self ..)
        exact List.length_pos_of_mem this
      have hl4 : l.length ≤ 4 := by rw [hl]; exact plPlaces_le _ _
      obtain ⟨h, hh⟩ : ∃ h, h = kyH key := ⟨_, rfl⟩
      rw [← hh] at HH HPL
      clear hkb hl hh D1 A1 hpar hmb hk1 hv1 he1 hb1 hcl1
      go_wp2_with fail
      refine HD1.out.mono ?_
      rintro e w3 ⟨rfl, G3, e3, p3⟩
      have S3 := HS2.out.1.to e3 p3 (by unfold SX; omega)
      have ob := S3.x
      rw [HC1.out] at ob
      clear k0 k1 k2 k3 k4 k5 k6
      have k1 := ob.c 1 _ rfl
      have HS3 := Lib.hid (And.intro S3 (HS2.out.2.ext e3))
      have b3 := alloc_below w3 (.cells #[.int .u64 h] 155)
      clear e3 p3 S3 ob HS2 HD1
      go_wp2_with fail
      refine (HH.out _).mono ?_
      rintro e w4 ⟨rfl, hw4⟩
      rw [hw4] at b3
      have HS4 := Lib.hid (And.intro (HS3.out.1.below b3) (HS3.out.2.below b3))
      clear hw4 b3 HS3 k1 HH
      go_wp2_with fail
      refine (HPL.out _).mono ?_
      rintro e w5 ⟨⟨v', rfl, hA, hF, ao, rfl⟩, hb5⟩
      obtain ⟨lb, lo, lc, he, -, -, hlb, hlx⟩ := hA.open hl0 (by decide)
      cases he
      have S5 := HS4.out.1.below hb5
      have hG0 : G3 lb = 0 := own_new HS4.out.1.e.hi (hF ⟨lb, lo, none⟩ _ _ rfl).1
      have HLX : Hid (∀ j (hj : j < l.length), w5.cell? ⟨lb, lo + j * 2, none⟩ = some (.int .i64 l[j].1) ∧ w5.cell? ⟨lb, lo + j * 2 + 1, none⟩ = some (.int .i64 l[j].2)) := Lib.hid (fun j hj => by
        have h1 := hlx (j * 2 + 0) _ ((rowOf_get plc_len l j 0 hj (by decide)).trans rfl)
        have h2 := hlx (j * 2 + 1) _ ((rowOf_get plc_len l j 1 hj (by decide)).trans rfl)
        exact ⟨h1, h2⟩)
      have HS5 := Lib.hid (And.intro S5 (HS4.out.2.below hb5))
      clear S5 hb5 hA hF hlx HS4 HPL
      have hln : ((l.length : Int) == 0) = false := beq_eq_false_iff_ne.2 (by omega)
      obtain ⟨i, hi⟩ : ∃ i : Nat, z1 % (l.length : Int) = (i : Int) := ⟨(z1 % (l.length : Int)).toNat, (Int.toNat_of_nonneg (Int.emod_nonneg z1 (by omega))).symm⟩
      have hil : i < l.length := by have := Int.emod_lt_of_pos z1 (by omega : (0 : Int) < l.length); rw [hi] at this; omega
      have u1 := HS5.out.2.c 1 _ rfl
      have HI := Lib.hid hi
      have hln2 : ¬ (l.length : Int) = 0 := by omega
      go_upto_region 12 with fail
      obtain ⟨⟨pb, pq⟩, hpe⟩ : ∃ p : Int × Int, p = l[i] := ⟨_, rfl⟩
      have hx := HLX.out i hil
      rw [← hpe] at hx
      obtain ⟨x0, x1⟩ := hx
      dsimp only at x0 x1
      have hmem : (pb, pq) ∈ plPlaces (kyH key) 3 := by rw [← HLE.out, hpe]; exact List.getElem_mem _
      have hb3 : pb = 3 := by
        have := (plPlaces_one (by decide) (by decide) _).1 hmem
        rw [plPair_in (by decide) (by decide)] at this
        rcases List.mem_cons.1 this with e | e
        · exact congrArg Prod.fst e
        · exact congrArg Prod.fst (List.mem_singleton.1 e)
      subst hb3
      have HQ := Lib.hid hmem
      have hqb := plPlaces_bd (kyH_bd key).1 (kyH_bd key).2 hmem
      have HPO : Hid ((⟨3, pq, 0⟩ : Spt).ok) := Lib.hid ⟨by dsimp only; omega, by dsimp only; omega, hqb.2.2.1, hqb.2.2.2, by dsimp only; omega, by dsimp only; omega⟩
      clear hmem hqb hpe HLX HLE
      go_wp2_with fail
      obtain ⟨w6, hw6⟩ : ∃ W, W = w5.alloc (.cells #[.int .i64 3, .int .i64 pq] 77) := ⟨_, rfl⟩
      obtain ⟨n5, hn5⟩ : ∃ n, n = w5.heap.size := ⟨_, rfl⟩
      have b6 : Below w5.heap.size w5 w6 := by rw [hw6]; exact alloc_below _ _
      have y0 : w6.cell? ⟨n5, 0, none⟩ = some (.int .i64 3) := by rw [hw6]; exact cell_newA w5 #[.int .i64 3, .int .i64 pq] _ _ hn5 0 _ rfl
      have y1 : w6.cell? ⟨n5, 0 + 1, none⟩ = some (.int .i64 pq) := by rw [hw6]; exact cell_newA w5 #[.int .i64 3, .int .i64 pq] _ _ hn5 1 _ rfl
      have hl5 : n5 < w6.heap.size := by rw [hw6, hn5]; simp
      rw [← hn5, ← hw6]
      have S6 := And.intro (HS5.out.1.below b6) (HS5.out.2.below b6)
      have HNM := Lib.hid (c_NewMark1 ⟨3, pq, 0⟩ HPO.out 10 (Nat.le_refl _) ⟨Nat.le_refl _, by decide⟩ hl5 y0 y1 S6.1.e.hi)
      have HS6 := Lib.hid S6
      clear S6 hl5 y0 y1 b6 hw6 hn5 HS5 x0 x1 u1 hlb hG0 hln hln2 hi hil HI hl0 hl4
      refine HNM.out.mono ?_
      rintro e w7 ⟨X, rfl, G7, e7, m7⟩
      have n10 : ¬ ((fun t => t = 10 ∨ t = 10 + 1) : Nat → Prop) 42 := fun h => by rcases h with h | h <;> exact absurd h (by decide)
      have S7 := HS6.out.1.to e7 (HS6.out.1.p.ext e7 (fun h => by rcases h with h | h <;> exact absurd h (by decide)) (fun h => by rcases h with h | h <;> exact absurd h (by decide)) (fun h => by rcases h with h | h <;> exact absurd h (by decide)) (fun h => by rcases h with h | h <;> exact absurd h (by decide))) n10
      have hv : 64 ≤ plVersion 3 pq ∧ plVersion 3 pq < 128 := HPO.out.ver
      have HMR := Lib.hid (c_MkRun (B := B) (f := f) (s := s1) (plVersion 3 pq) 9 (by decide) (by decide) S7.p m7 (Nat.le_refl _) S7.e.hi (by omega) (by omega) HA1.out.1.n0 (by have := HA1.out.1.n1; omega))
      have HS7 := Lib.hid (And.intro S7 (HS6.out.2.ext e7))
      have HBD := Lib.hid S7.p.bd
      clear S7 e7 m7 n10 hv HNM HS6
      go_wp2_with fail
      refine HMR.out.mono ?_
      rintro e w8 ⟨rfl, G8, e8, p8⟩
      have S8 := HS7.out.1.to e8 p8 (by unfold SX; omega)
      have Z8 := HS7.out.2.ext e8
      have u0 := Z8.c 0 _ rfl
      have ob := S8.x
      rw [HC1.out] at ob
      have k1 := ob.c 1 _ rfl
      have HNG := Lib.hid (c_NewGet (key := key) k hk64 HKO.out HKZ.out.1 (Nat.le_refl 10) S8.e.hi)
      have HS8 := Lib.hid S8
      clear S8 Z8 ob e8 p8 HS7 HMR
      go_wp2_with fail
      refine HNG.out.mono ?_
      rintro e w9 ⟨Y, rfl, G9, e9, g9⟩
      have S9 := HS8.out.to e9 (HS8.out.p.ext e9 (by omega) (by omega) (by omega) (by omega)) (by omega)
      obtain ⟨m, s', z', hrun, R, hgood⟩ := gl_run HA1.out.1 HA1.out.2 HBD.out k L hL16 (q := pq) HQ.out
      have HGT := Lib.hid (c_GtRun (f := f) (t := k) 2000 2000 gtNew S9.p g9 (by rw [HT.out.1]; exact hgood) (by rw [HT.out.1]; omega) (by rw [HT.out.1]; omega) hk64 HKZ.out.1 (Nat.le_refl 10) S9.e.hi (by show 0 ≤ s1.n + 1; have := HA1.out.1.n0; omega) (by show s1.n + 1 + 2000 ≤ _; have := HA1.out.1.n1; omega))
      rw [HT.out.1, hrun] at HGT
      dsimp only at HGT
      have HR := Lib.hid R
      have HS9 := Lib.hid S9
      clear R S9 g9 e9 hrun hgood HS8 HNG HBD HQ HPO u0 k1
      go_wp2_with fail
      refine HGT.out.mono ?_
      rintro e w10 ⟨rfl, G10, e10, p10, g10⟩
      have S10 := HS9.out.to e10 p10 (by unfold SX; omega)
      have HGG := Lib.hid (c_GtGot g10 HR.out.ln)
      have HG : Hid (Y < w10.heap.size ∧ GIdle w10 Y true) := Lib.hid ⟨gt_lt g10, by have h := g10.idle; rw [HR.out.ln] at h; exact h⟩
      rw [HR.out.ep] at HGG
      unfold ganV at HGG
      obtain ⟨an, im, pt, hz⟩ : ∃ an im pt, z'.an = an ∧ z'.im = im ∧ z'.pt = pt := ⟨_, _, _, rfl, rfl, rfl⟩
      have han := HR.out.an
      rw [hz.1, hz.2.1] at han
      rw [hz.1, hz.2.1, hz.2.2] at HGG
      obtain ⟨x, hx⟩ : ∃ x, x = stIt c1 1 0 := ⟨_, rfl⟩
      have hit : itAt s'.it 1 = x := by rw [HR.out.it, hx]; exact HA1.out.1.last
      rw [← hx] at han
      have HIT := Lib.hid hit
      have hsl : s'.it.length = 1 := by rw [HR.out.it]; exact HA1.out.1.len
      have HSL := Lib.hid hsl
      have hm := HR.out.m
      obtain ⟨ns, y, hnt, hns, hk6, hk7, hyt⟩ := HR.out.nt
      have HNT := Lib.hid (And.intro hnt (And.intro hns (And.intro hk6 (And.intro hk7 hyt))))
      have HM1 := Lib.hid (And.intro HR.out.m1 HR.out.ho)
      have HS10 := Lib.hid S10
      clear S10 e10 p10 g10 hz hx hit hsl hnt hns hk6 hk7 hyt HR HS9 HGT HA1 HC1 HKO
      obtain ⟨ik, iv, ifl, iid, idi, ige⟩ := x
      dsimp only at han
      go_wp2_with fail
      refine HGG.out.mono ?_
      rintro e w11 ⟨rfl, hb11⟩
      go_upto_region 17 with fail
      obtain ⟨w12, hw12⟩ : ∃ W, W = w11.alloc (.cells #[.int .u8 an, .int .u64 0, .string im.key, .string im.val, .int .u32 im.fl, .int .u64 im.id, .int .i64 im.dies, .int .i64 im.gen] 34) := ⟨_, rfl⟩
      obtain ⟨nA, hnA⟩ : ∃ n, n = w11.heap.size := ⟨_, rfl⟩
      have bA : Bx w12 G10 nA [.int .u8 an, .int .u64 0, .string im.key, .string im.val, .int .u32 im.fl, .int .u64 im.id, .int .i64 im.dies, .int .i64 im.gen] := by rw [hw12]; exact Bx.new (hi_below HS10.out.e.hi hb11) _ _ _ hnA
      have b12 : Below w10.heap.size w10 w12 := by rw [hw12]; exact hb11.trans ((alloc_below _ _).mono hb11.size)
      have S12 := HS10.out.below b12
      rw [← hnA, ← hw12]
      have p1 := S12.p.wo.c1
      have HAT := Lib.hid (c_IAtB 1 S12.p.ar (by rw [HSL.out]; decide))
      rw [HIT.out] at HAT
      dsimp only at HAT
      obtain ⟨ob, hob⟩ : ∃ b, b = itIs s'.it 1 := ⟨_, rfl⟩
      rw [← hob] at HAT
      have HY : Hid (Y < w12.heap.size ∧ w12.cell? ⟨Y, 2, none⟩ = some (.bool false) ∧ w12.cell? ⟨Y, 3, none⟩ = some .nilIface) := Lib.hid (by
        rcases HG.out.2 with ⟨-, q2, q3⟩ | ⟨h, -⟩
        · exact ⟨Nat.lt_of_lt_of_le HG.out.1 b12.size, (b12.cell (p := ⟨Y, 2, none⟩) HG.out.1).trans q2, (b12.cell (p := ⟨Y, 3, none⟩) HG.out.1).trans q3⟩
        · cases h)
      have HS12 := Lib.hid (And.intro S12 bA)
      clear hw12 hnA bA b12 S12 hob HG hb11 HS10 HGG HIT
      go_wp2_with fail
      refine HAT.out.mono ?_
      rintro e w13 ⟨rfl, hb13⟩
      obtain ⟨V, hV⟩ : ∃ V, V = (w13.alloc (.cells #[.string ik, .string iv, .int .u32 ifl, .int .u64 iid, .int .i64 idi, .int .i64 ige] 32)).alloc (.cells #[.int .u8 12, .int .u64 0, .string ⟨#[]⟩, .string ⟨#[]⟩, .int .u32 0, .int .u64 0, .int .i64 0, .int .i64 0] 34) := ⟨_, rfl⟩
      obtain ⟨nI, hnI⟩ : ∃ n, n = w13.heap.size := ⟨_, rfl⟩
      have h13 := hi_below HS12.out.1.e.hi hb13
      have b14 := hb13.trans ((alloc_below w13 (.cells #[.string ik, .string iv, .int .u32 ifl, .int .u64 iid, .int .i64 idi, .int .i64 ige] 32)).mono hb13.size)
      have bI := Bx.new h13 #[.string ik, .string iv, .int .u32 ifl, .int .u64 iid, .int .i64 idi, .int .i64 ige] 32 nI hnI
      obtain ⟨w14, hw14⟩ : ∃ W, W = w13.alloc (.cells #[.string ik, .string iv, .int .u32 ifl, .int .u64 iid, .int .i64 idi, .int .i64 ige] 32) := ⟨_, rfl⟩
      have hn14 : nI + 1 = w14.heap.size := by rw [hw14, hnI]; simp
      rw [← hw14] at bI b14 hV
      have h14 := hi_below HS12.out.1.e.hi b14
      obtain ⟨G14, e14, o14, -⟩ := alloc_ob h14 43 #[.int .u8 12, .int .u64 0, .string ⟨#[]⟩, .string ⟨#[]⟩, .int .u32 0, .int .u64 0, .int .i64 0, .int .i64 0] 34 (nI + 1) hn14
      rw [← hV] at e14 o14
      have bV : Below w14.heap.size w14 V := by rw [hV]; exact alloc_below _ _
      have bI := bI.below bV
      have i0 := bI.c 0 _ rfl
      have i1 := bI.c 1 _ rfl
      have i2 := bI.c 2 _ rfl
      have i3 := bI.c 3 _ rfl
      have i4 := bI.c 4 _ rfl
      have i5 := bI.c 5 _ rfl
      have HO := Lib.hid (And.intro o14 (And.intro (own_new (O := G10) h14 (Nat.le_of_eq hn14.symm)) (And.intro (show w12.heap.size ≤ nI from by rw [hnI]; exact hb13.size) (b14.trans (bV.mono b14.size)))))
      have HI := Lib.hid bI
      have HAV := Lib.hid (fun W => c_Alive ik iv ifl iid idi ige 0 W (Int.le_refl _) (by decide))
      clear h13 h14 b14 bV e14 o14 hn14 HAT hb13 p1 bI
      go_upto_region 19 with fail
      rw [← hw14, ← hV, ← hnI]
      clear hw14 hV hnI
      obtain ⟨al, hal⟩ : ∃ b, b = epAlive idi ige 0 := ⟨_, rfl⟩
      rw [← hal] at han HAV
      clear hal
      cases al with
      | false =>
        rw [if_neg (by decide)] at han
        cases han
        unfold it0 at HS12
        dsimp only at HS12
        go_wp2_with fail
        refine (HAV.out _).mono ?_
        rintro e U ⟨rfl, hb15⟩
        have bU := HO.out.2.2.2.trans (hb15.mono HO.out.2.2.2.size)
        have S := HS12.out.1.below bU
        have bA := HS12.out.2.below bU
        have ow := HO.out.1.below hb15
        have bW : Bx U G10 (nI + 1) [.int .u8 12, .int .u64 0, .string ⟨#[]⟩, .string ⟨#[]⟩, .int .u32 0, .int .u64 0, .int .i64 0, .int .i64 0] := ⟨HO.out.2.1, ow.lt, ow.c⟩
        have hY : Y < U.heap.size ∧ U.cell? ⟨Y, 2, none⟩ = some (.bool false) ∧ U.cell? ⟨Y, 3, none⟩ = some .nilIface := ⟨Nat.lt_of_lt_of_le HY.out.1 bU.size, (bU.cell (p := ⟨Y, 2, none⟩) HY.out.1).trans HY.out.2.1, (bU.cell (p := ⟨Y, 3, none⟩) HY.out.1).trans HY.out.2.2⟩
        clear bU ow hb15 i0 i1 i2 i3 i4 i5
        go_upto_region 22 with fail
        obtain ⟨vn, hn, -⟩ := S.p.no.ex
        have p2 := S.p.wo.c2
        have hnl : s'.nt.length = L + 1 := by rw [HNT.out.1, List.length_append, HNT.out.2.1]; rfl
        have HAL := Lib.hid (c_NtAll B.np vn s'.nt U hn.head hn.lt (Arr.of_own hn.own) (by omega))
        have HSU := Lib.hid (And.intro S (And.intro bA (And.intro bW hY)))
        have HNL := Lib.hid hnl
        clear S bA bW hY hn hnl
        go_wp2_with fail
        refine HAL.out.mono ?_
        rintro e w16 ⟨⟨v', rfl, hA⟩, hb16⟩
        obtain ⟨ao, rfl⟩ := hA.shape
        obtain ⟨A, o, c', he, -, -, hlt, hx⟩ := hA.arr.open (by rw [HNL.out]; omega) (by decide)
        cases he
        have HK : Hid (∀ n, n < L + 1 → w16.cell? ⟨A, o + n * 8 + 2, none⟩ = some (.int .u8 (if n < L then 6 else 7)) ∧ (n = L → w16.cell? ⟨A, o + n * 8 + 1, none⟩ = some (.int .i64 k))) := Lib.hid fun n hn => by
          have h := ntAt_row hx n (by rw [HNL.out]; exact hn)
          obtain ⟨q, hq⟩ : ∃ q, q = s'.nt[n]'(by rw [HNL.out]; exact hn) := ⟨_, rfl⟩
          have hq2 : s'.nt[n]? = some q := by rw [hq]; exact List.getElem?_eq_getElem _
          rw [← hq] at h
          have c1 := h 1 _ rfl
          have c2 := h 2 _ rfl
          by_cases hn3 : n < L
          · rw [HNT.out.1, List.getElem?_append_left (by rw [HNT.out.2.1]; exact hn3)] at hq2
            rw [HNT.out.2.2.1 _ (List.mem_of_getElem? hq2)] at c2
            rw [if_pos hn3]
            exact ⟨c2, fun h => absurd h (by omega)⟩
          · have hnL : n = L := by omega
            rw [HNT.out.1, List.getElem?_append_right (by rw [HNT.out.2.1]; omega), HNT.out.2.1, hnL, Nat.sub_self] at hq2
            have he : y = q := Option.some.inj hq2
            rw [← he, HNT.out.2.2.2.1] at c2
            rw [← he, HNT.out.2.2.2.2] at c1
            rw [if_neg hn3]
            exact ⟨c2, fun _ => c1⟩
        rw [HNL.out]
        have S := HSU.out.1.below hb16
        have bA := HSU.out.2.1.below hb16
        have bW := HSU.out.2.2.1.below hb16
        have y2 := (hb16.cell (p := ⟨Y, 2, none⟩) HSU.out.2.2.2.1).trans HSU.out.2.2.2.2.1
        have y3 := (hb16.cell (p := ⟨Y, 3, none⟩) HSU.out.2.2.2.1).trans HSU.out.2.2.2.2.2
        have HTL := Lib.hid (And.intro S (And.intro bA (And.intro bW (And.intro y2 y3))))
        clear S bA bW y2 y3 hA hx hlt hb16 HAL HSU p2 HNT HS12 HO HI HY HAV
        go_upto_region 24 with fail
        go_loopw [17, 19] (fun cv iv wr => ∃ n : Nat, iv = .int .i64 n ∧ n ≤ L + 1 ∧ cv = .int .i64 (if n = L + 1 then 1 else 0) ∧ wr = w16) (fun _ iv _ => L + 1 - (intOf iv).toNat)
        case atStart => exact ⟨0, rfl, Nat.zero_le _, by rw [if_neg (by omega)], rfl⟩
        case round =>
          obtain ⟨n, rfl, hn, rfl, hwr⟩ := hrel
          subst hwr
          have hnb0 : (0 : Int) ≤ (n : Int) := by omega
          by_cases hn2 : n < L + 1
          · obtain ⟨c2, c1⟩ := HK.out n hn2
            have hnb1 : (n : Int) < (L : Int) + 1 := by omega
            rw [if_neg (by omega)]
            by_cases hn3 : n < L
            · rw [if_pos hn3] at c2
              go_wp2_with fail
              go_roundw
              case rel => exact ⟨n + 1, by go_num, by omega, by rw [if_neg (by omega)], trivial⟩
              case measure => first | (simp [intOf]; done) | (simp [intOf]; omega)
            · have hnL : n = L := by omega
              rw [if_neg hn3] at c2
              have c1 := c1 hnL
              subst hnL
              go_wp2_with fail
              go_roundw
              case rel => exact ⟨n + 1, by go_num, by omega, by rw [if_pos (by omega)], trivial⟩
              case measure => first | (simp [intOf]; done) | (simp [intOf]; omega)
          · have hnL : n = L + 1 := by omega
            subst hnL
            rw [if_pos rfl]
            obtain ⟨S, bA, bW, y2, y3⟩ := HTL.out
            have a0 := bA.c 0 _ rfl
            have a1 := bA.c 1 _ rfl
            have a2 := bA.c 2 _ rfl
            have a3 := bA.c 3 _ rfl
            have a4 := bA.c 4 _ rfl
            have a5 := bA.c 5 _ rfl
            have a6 := bA.c 6 _ rfl
            have a7 := bA.c 7 _ rfl
            have v0 := bW.c 0 _ rfl
            have v1 := bW.c 1 _ rfl
            have v2 := bW.c 2 _ rfl
            have v3 := bW.c 3 _ rfl
            have v4 := bW.c 4 _ rfl
            have v5 := bW.c 5 _ rfl
            have v6 := bW.c 6 _ rfl
            have v7 := bW.c 7 _ rfl
            have p0 := S.p.wo.c0
            have p5 := S.p.wo.c5
            rw [HT.out.1] at p5
            have ph := S.p.wo.ho
            rw [HM1.out.2] at ph
            have HPK := Lib.hid (c_Peek 1 S.p.ce (by decide) (by decide))
            rw [HM1.out.1] at HPK
            have HOV := Lib.hid (c_GtOver (.inl ⟨rfl, y2, y3⟩))
            have HB := Lib.hid S.e.bel
            clear S bA bW y2 y3 HTL HK
            go_wp2_with fail
            refine HOV.out.mono ?_
            rintro e w' ⟨rfl, rfl⟩
            go_wp2_with fail
            refine HPK.out.mono ?_
            rintro e w' ⟨rfl, rfl⟩
            go_wp2_with fail
            refine (c_lives28 _).mono ?_
            rintro e w19 ⟨rfl, hb19⟩
            go_wp2_with fail
            go_ret
            exact ⟨rfl, HB.out.trans (hb19.mono HB.out.size)⟩
      | true =>
        rw [if_pos rfl] at han
        cases han
        dsimp only at HS12
        go_wp2_with fail
        refine (HAV.out _).mono ?_
        rintro e w15 ⟨rfl, hb15⟩
        have bI := HI.out.below hb15
        clear i0 i1 i2 i3 i4 i5
        have i0 := bI.c 0 _ rfl
        have i1 := bI.c 1 _ rfl
        have i2 := bI.c 2 _ rfl
        have i3 := bI.c 3 _ rfl
        have i4 := bI.c 4 _ rfl
        have i5 := bI.c 5 _ rfl
        have ow := HO.out.1.below hb15
        have f0 := ow.f 0
        have f1 := ow.f 1
        have f2 := ow.f 2
        have f3 := ow.f 3
        have f4 := ow.f 4
        have f5 := ow.f 5
        have f6 := ow.f 6
        have f7 := ow.f 7
        have d0 := ow.c 0 _ rfl
        have d1 := ow.c 1 _ rfl
        have d2 := ow.c 2 _ rfl
        have d3 := ow.c 3 _ rfl
        have d4 := ow.c 4 _ rfl
        have d5 := ow.c 5 _ rfl
        have d6 := ow.c 6 _ rfl
        have d7 := ow.c 7 _ rfl
        obtain ⟨U, hU⟩ : ∃ U, U = (((((((w15.setCell ⟨nI + 1, 0, none⟩ (.int .u8 11)).setCell ⟨nI + 1, 1, none⟩ (.int .u64 0)).setCell ⟨nI + 1, 2, none⟩ (.string ik)).setCell ⟨nI + 1, 3, none⟩ (.string iv)).setCell ⟨nI + 1, 4, none⟩ (.int .u32 ifl)).setCell ⟨nI + 1, 5, none⟩ (.int .u64 iid)).setCell ⟨nI + 1, 6, none⟩ (.int .i64 idi)).setCell ⟨nI + 1, 7, none⟩ (.int .i64 ige) := ⟨_, rfl⟩
        have ow2 : Ob U G14 43 (nI + 1) [.int .u8 11, .int .u64 0, .string ik, .string iv, .int .u32 ifl, .int .u64 iid, .int .i64 idi, .int .i64 ige] := by
          rw [hU]
          exact (((((((ow.set 0 _ (by simp)).set 1 _ (by simp)).set 2 _ (by simp)).set 3 _ (by simp)).set 4 _ (by simp)).set 5 _ (by simp)).set 6 _ (by simp)).set 7 _ (by simp)
        have hle : w12.heap.size ≤ nI + 1 := Nat.le_succ_of_le HO.out.2.2.1
        have bU : Below w12.heap.size w12 U := by
          rw [hU]
          exact ((((((((HO.out.2.2.2.trans (hb15.mono HO.out.2.2.2.size)).setCell (p := ⟨nI + 1, 0, none⟩) hle _).setCell (p := ⟨nI + 1, 1, none⟩) hle _).setCell (p := ⟨nI + 1, 2, none⟩) hle _).setCell (p := ⟨nI + 1, 3, none⟩) hle _).setCell (p := ⟨nI + 1, 4, none⟩) hle _).setCell (p := ⟨nI + 1, 5, none⟩) hle _).setCell (p := ⟨nI + 1, 6, none⟩) hle _).setCell (p := ⟨nI + 1, 7, none⟩) hle _
        have HU := Lib.hid hU
        have HOW := Lib.hid (And.intro ow2 bU)
        clear bI ow hb15 hU ow2 bU hle
        go_upto_region 22 with fail
        rw [← HU.out]
        clear HU i0 i1 i2 i3 i4 i5 f0 f1 f2 f3 f4 f5 f6 f7 d0 d1 d2 d3 d4 d5 d6 d7
        have bU := HOW.out.2
        have S := HS12.out.1.below bU
        have bA := HS12.out.2.below bU
        have bW : Bx U G10 (nI + 1) [.int .u8 11, .int .u64 0, .string ik, .string iv, .int .u32 ifl, .int .u64 iid, .int .i64 idi, .int .i64 ige] := ⟨HO.out.2.1, HOW.out.1.lt, HOW.out.1.c⟩
        have hY : Y < U.heap.size ∧ U.cell? ⟨Y, 2, none⟩ = some (.bool false) ∧ U.cell? ⟨Y, 3, none⟩ = some .nilIface := ⟨Nat.lt_of_lt_of_le HY.out.1 bU.size, (bU.cell (p := ⟨Y, 2, none⟩) HY.out.1).trans HY.out.2.1, (bU.cell (p := ⟨Y, 3, none⟩) HY.out.1).trans HY.out.2.2⟩
        clear bU HOW
        obtain ⟨vn, hn, -⟩ := S.p.no.ex
        have p2 := S.p.wo.c2
        have hnl : s'.nt.length = L + 1 := by rw [HNT.out.1, List.length_append, HNT.out.2.1]; rfl
        have HAL := Lib.hid (c_NtAll B.np vn s'.nt U hn.head hn.lt (Arr.of_own hn.own) (by omega))
        have HSU := Lib.hid (And.intro S (And.intro bA (And.intro bW hY)))
        have HNL := Lib.hid hnl
        clear S bA bW hY hn hnl
        go_wp2_with fail
        refine HAL.out.mono ?_
        rintro e w16 ⟨⟨v', rfl, hA⟩, hb16⟩
        obtain ⟨ao, rfl⟩ := hA.shape
        obtain ⟨A, o, c', he, -, -, hlt, hx⟩ := hA.arr.open (by rw [HNL.out]; omega) (by decide)
        cases he
        have HK : Hid (∀ n, n < L + 1 → w16.cell? ⟨A, o + n * 8 + 2, none⟩ = some (.int .u8 (if n < L then 6 else 7)) ∧ (n = L → w16.cell? ⟨A, o + n * 8 + 1, none⟩ = some (.int .i64 k))) := Lib.hid fun n hn => by
          have h := ntAt_row hx n (by rw [HNL.out]; exact hn)
          obtain ⟨q, hq⟩ : ∃ q, q = s'.nt[n]'(by rw [HNL.out]; exact hn) := ⟨_, rfl⟩
          have hq2 : s'.nt[n]? = some q := by rw [hq]; exact List.getElem?_eq_getElem _
          rw [← hq] at h
          have c1 := h 1 _ rfl
          have c2 := h 2 _ rfl
          by_cases hn3 : n < L
          · rw [HNT.out.1, List.getElem?_append_left (by rw [HNT.out.2.1]; exact hn3)] at hq2
            rw [HNT.out.2.2.1 _ (List.mem_of_getElem? hq2)] at c2
            rw [if_pos hn3]
            exact ⟨c2, fun h => absurd h (by omega)⟩
          · have hnL : n = L := by omega
            rw [HNT.out.1, List.getElem?_append_right (by rw [HNT.out.2.1]; omega), HNT.out.2.1, hnL, Nat.sub_self] at hq2
            have he : y = q := Option.some.inj hq2
            rw [← he, HNT.out.2.2.2.1] at c2
            rw [← he, HNT.out.2.2.2.2] at c1
            rw [if_neg hn3]
            exact ⟨c2, fun _ => c1⟩
        rw [HNL.out]
        have S := HSU.out.1.below hb16
        have bA := HSU.out.2.1.below hb16
        have bW := HSU.out.2.2.1.below hb16
        have y2 := (hb16.cell (p := ⟨Y, 2, none⟩) HSU.out.2.2.2.1).trans HSU.out.2.2.2.2.1
        have y3 := (hb16.cell (p := ⟨Y, 3, none⟩) HSU.out.2.2.2.1).trans HSU.out.2.2.2.2.2
        have HTL := Lib.hid (And.intro S (And.intro bA (And.intro bW (And.intro y2 y3))))
        clear S bA bW y2 y3 hA hx hlt hb16 HAL HSU p2 HNT HS12 HO HI HY HAV
        go_upto_region 24 with fail
        go_loopw [17, 19] (fun cv iv wr => ∃ n : Nat, iv = .int .i64 n ∧ n ≤ L + 1 ∧ cv = .int .i64 (if n = L + 1 then 1 else 0) ∧ wr = w16) (fun _ iv _ => L + 1 - (intOf iv).toNat)
        case atStart => exact ⟨0, rfl, Nat.zero_le _, by rw [if_neg (by omega)], rfl⟩
        case round =>
          obtain ⟨n, rfl, hn, rfl, hwr⟩ := hrel
          subst hwr
          have hnb0 : (0 : Int) ≤ (n : Int) := by omega
          by_cases hn2 : n < L + 1
          · obtain ⟨c2, c1⟩ := HK.out n hn2
            have hnb1 : (n : Int) < (L : Int) + 1 := by omega
            rw [if_neg (by omega)]
            by_cases hn3 : n < L
            · rw [if_pos hn3] at c2
              go_wp2_with fail
              go_roundw
              case rel => exact ⟨n + 1, by go_num, by omega, by rw [if_neg (by omega)], trivial⟩
              case measure => first | (simp [intOf]; done) | (simp [intOf]; omega)
            · have hnL : n = L := by omega
              rw [if_neg hn3] at c2
              have c1 := c1 hnL
              subst hnL
              go_wp2_with fail
              go_roundw
              case rel => exact ⟨n + 1, by go_num, by omega, by rw [if_pos (by omega)], trivial⟩
              case measure => first | (simp [intOf]; done) | (simp [intOf]; omega)
          · have hnL : n = L + 1 := by omega
            subst hnL
            rw [if_pos rfl]
            obtain ⟨S, bA, bW, y2, y3⟩ := HTL.out
            have a0 := bA.c 0 _ rfl
            have a1 := bA.c 1 _ rfl
            have a2 := bA.c 2 _ rfl
            have a3 := bA.c 3 _ rfl
            have a4 := bA.c 4 _ rfl
            have a5 := bA.c 5 _ rfl
            have a6 := bA.c 6 _ rfl
            have a7 := bA.c 7 _ rfl
            have v0 := bW.c 0 _ rfl
            have v1 := bW.c 1 _ rfl
            have v2 := bW.c 2 _ rfl
            have v3 := bW.c 3 _ rfl
            have v4 := bW.c 4 _ rfl
            have v5 := bW.c 5 _ rfl
            have v6 := bW.c 6 _ rfl
            have v7 := bW.c 7 _ rfl
            have p0 := S.p.wo.c0
            have p5 := S.p.wo.c5
            rw [HT.out.1] at p5
            have ph := S.p.wo.ho
            rw [HM1.out.2] at ph
            have HPK := Lib.hid (c_Peek 1 S.p.ce (by decide) (by decide))
            rw [HM1.out.1] at HPK
            have HOV := Lib.hid (c_GtOver (.inl ⟨rfl, y2, y3⟩))
            have HB := Lib.hid S.e.bel
            clear S bA bW y2 y3 HTL HK
            go_wp2_with fail
            refine HOV.out.mono ?_
            rintro e w' ⟨rfl, rfl⟩
            go_wp2_with fail
            refine HPK.out.mono ?_
            rintro e w' ⟨rfl, rfl⟩
            go_wp2_with fail
            refine (c_lives28 _).mono ?_
            rintro e w19 ⟨rfl, hb19⟩
            go_wp2_with fail
            go_ret
            exact ⟨rfl, HB.out.trans (hb19.mono HB.out.size)⟩
end
end Go.Proofs.YthpedifjclofoaaGreat
