/- Layer 23, plain: a hand beside readers that touch items. -/
import Derived.Test.YtlcibfpibklbdaaGreatHnF
import Derived.Test.YtlcibfpibklbdaaGreatHd1
namespace Go.Proofs.YtlcibfpibklbdaaGreat
set_option linter.unusedSimpArgs false
set_option linter.unusedVariables false
open Go.RowKit
/-- A reader's touch (one that is over, or is not there: at_ = 0). -/
def TcI (M : Int → Int) (t : Tc) : Prop :=
  t.at_ = 0 ∨ ∃ r : Int, 1 ≤ r ∧ t.at_ = plRef r ∧ (t.next = 0 ∨ ((t.next = 1 ∨ t.next = 2) ∧ t.word % 2 = 0 ∧ 0 ≤ t.word ∧ t.word ≤ M (plRef r)))
/-- Slots that were come by: no mark comes again. -/
def HrP (b fr : Int) (M0 M : Int → Int) (T : Nat → Tc) (n : Int) : Prop :=
  ∀ j : Nat, (j : Int) < n → (j : Int) < plSpots b → M0 (plAt b (fr + j)).item ≠ 0 → M (plRef (M0 (plAt b (fr + j)).item)) % 2 = 0 ∧ ∀ i, (T i).at_ = plRef (M0 (plAt b (fr + j)).item) → (T i).next = 2 → (T i).word < M (plRef (M0 (plAt b (fr + j)).item))
/-- While it looks. -/
structure HrA (b fr : Int) (M0 M : Int → Int) (T : Nat → Tc) (z : Evm) : Prop where
  t : z.t = b
  hh : z.h = fr
  n0 : 0 ≤ z.n
  n1 : z.n < 2 * plSpots b
  it : ∀ t, M (plAt b t).item = M0 (plAt b t).item
  sw : M 5 = 1
  pa : HrP b fr M0 M T z.n
  p2 : ∀ j : Nat, (j : Int) < z.n → plSpots b ≤ j → M0 (plAt b (fr + j)).item = 0
/-- While it takes an item out. -/
structure HrB (b fr : Int) (M0 : Int → Int) (z : Evm) : Prop where
  t : z.t = b
  hh : z.h = fr
  n0 : 0 ≤ z.n
  n1 : z.n < 2 * plSpots b
  r : z.ref = M0 (plAt b (fr + z.n)).item
  r0 : z.ref ≠ 0
/-- At its end. -/
structure HrE (b fr : Int) (M0 M : Int → Int) (z : Evm) : Prop where
  t : z.t = b
  hh : z.h = fr
  n0 : 0 ≤ z.n
  n1 : z.n ≤ 2 * plSpots b
  rn : z.ref ≠ 0 → z.n < 2 * plSpots b
  no : z.ref = 0 → ∀ j : Nat, (j : Int) < plSpots b → M0 (plAt b (fr + j)).item = 0
  ye : z.ref ≠ 0 → z.ref = M0 (plAt b (fr + z.n)).item ∧ M (plAt b (fr + z.n)).item = 0
inductive HrL (b fr : Int) (M0 M : Int → Int) (nt : List Nt) (T : Nat → Tc) (z : Evm) : Prop
  | l1 (ln : z.ln = 1) (it : ∀ t, M (plAt b t).item = M0 (plAt b t).item) (h : M 4 % plSpots b = fr)
  | l2 (ln : z.ln = 2) (it : ∀ t, M (plAt b t).item = M0 (plAt b t).item) (h : M 4 % plSpots b = fr) (sw : M 5 = 1)
  | l3 (ln : z.ln = 3) (it : ∀ t, M (plAt b t).item = M0 (plAt b t).item) (h : M 4 % plSpots b = fr) (sw : M 5 = 1) (t : z.t = b)
  | l4 (ln : z.ln = 4) (A : HrA b fr M0 M T z)
  | l5 (ln : z.ln = 5) (A : HrA b fr M0 M T z) (r : z.ref = M0 (plAt b (fr + z.n)).item) (r0 : z.ref ≠ 0)
  | l6 (ln : z.ln = 6) (A : HrA b fr M0 M T z) (r : z.ref = M0 (plAt b (fr + z.n)).item) (r0 : z.ref ≠ 0) (o : z.mw % 2 = 1) (w : M (plRef z.ref) = z.mw) (n : z.n < plSpots b)
  | l7 (ln : z.ln = 7) (B : HrB b fr M0 z) (sw : M 5 = 1) (o : z.o.ln = 0)
  | l8 (ln : z.ln = 8) (B : HrB b fr M0 z) (sw : M 5 = 1) (o : z.o.ln < 3)
  | l9 (ln : z.ln = 9) (B : HrB b fr M0 z) (sw : M 5 = 1) (e : M (plAt b (fr + z.n)).item = 0)
  | l10 (ln : z.ln = 10) (B : HrB b fr M0 z) (sw : M 5 = 1) (e : M (plAt b (fr + z.n)).item = 0)
  | l11 (ln : z.ln = 11) (E : HrE b fr M0 M z) (sw : M 5 = 1)
  | l12 (ln : z.ln = 12) (E : HrE b fr M0 M z) (sw : M 5 = 1) (ne : nt ≠ [])
  | l0 (ln : z.ln = 0) (E : HrE b fr M0 M z) (ne : nt ≠ [])
/-- How many steps are left at most. -/
def hrMu (b : Int) (z : Evm) : Int :=
  if z.ln = 1 then 6 * plSpots b + 11 else if z.ln = 2 then 6 * plSpots b + 10 else if z.ln = 3 then 6 * plSpots b + 9
  else if z.ln = 4 then 3 * (2 * plSpots b - z.n) + 8 else if z.ln = 5 then 3 * (2 * plSpots b - z.n) + 7 else if z.ln = 6 then 3 * (2 * plSpots b - z.n) + 6
  else if z.ln = 7 then 8 else if z.ln = 8 then 7 - z.o.ln else if z.ln = 9 then 4 else if z.ln = 10 then 3 else if z.ln = 11 then 2 else if z.ln = 12 then 1 else 0
structure HrI (b fr : Int) (M0 : Int → Int) (s : AW) (z : Evm) (T : Nat → Tc) : Prop where
  wd : s.M 2 = b
  mb : ∀ r, 1 ≤ r → 0 ≤ s.M (plRef r) ∧ s.M (plRef r) ≤ 255 + s.n
  n0 : 0 ≤ s.n
  tc : ∀ i, TcI s.M (T i)
  nk : ∀ x ∈ s.nt, x.kind = 8 → x.value ≤ 2 * plSpots b
  ns : ∀ x ∈ s.nt, x.step ≤ s.n
  nl : (s.nt.length : Int) ≤ s.n
  L : HrL b fr M0 s.M s.nt T z
section
variable {b fr : Int} {M0 : Int → Int} {s : AW} {z : Evm} {T : Nat → Tc}
theorem HrL.mu0 {M : Int → Int} {nt : List Nt} (h : HrL b fr M0 M nt T z) : 0 ≤ hrMu b z := by
  unfold hrMu
  cases h with
  | l4 ln A => have := A.n1; simp only [ln]; simp; omega
  | l5 ln A => have := A.n1; simp only [ln]; simp; omega
  | l6 ln A => have := A.n1; simp only [ln]; simp; omega
  | l8 ln B sw o => simp only [ln]; simp; omega
  | l1 ln it h => simp only [ln]; simp; have := plSpots_bd b; omega
  | l2 ln it h => simp only [ln]; simp; have := plSpots_bd b; omega
  | l3 ln it h => simp only [ln]; simp; have := plSpots_bd b; omega
  | l7 ln => simp only [ln]; simp
  | l9 ln => simp only [ln]; simp
  | l10 ln => simp only [ln]; simp
  | l11 ln => simp only [ln]; simp
  | l12 ln => simp only [ln]; simp
  | l0 ln => simp only [ln]; simp
/-- Words that a touch, or a hand, stores are at least what they were: touches keep. -/
theorem TcI.mono {M M' : Int → Int} {t : Tc} (h : TcI M t) (hm : ∀ r, 1 ≤ r → M (plRef r) ≤ M' (plRef r)) : TcI M' t := by
  rcases h with h | ⟨r, h1, h2, h3 | ⟨h3, h4, h5, h6⟩⟩
  · exact .inl h
  · exact .inr ⟨r, h1, h2, .inl h3⟩
  · exact .inr ⟨r, h1, h2, .inr ⟨h3, h4, h5, Int.le_trans h6 (hm r h1)⟩⟩
theorem HrI.tc' {s' : AW} (h : HrI b fr M0 s z T) (hm : ∀ r, 1 ≤ r → s.M (plRef r) ≤ s'.M (plRef r)) (i : Nat) : TcI s'.M (T i) := (h.tc i).mono hm
/-- A step that stores no word but one below the marks. -/
theorem HrI.low {x v : Int} {s' : AW} (h : HrI b fr M0 s z T) (hM : s'.M = upd s.M x v) (hx : x ≤ 4294967296) (h2 : x ≠ 2) (hn : s'.n = s.n + 1) (hnt : s'.nt = s.nt) {z' : Evm} (hL : HrL b fr M0 s'.M s'.nt T z') : HrI b fr M0 s' z' T := by
  have e : ∀ r, 1 ≤ r → s'.M (plRef r) = s.M (plRef r) := fun r hr => by have := plRef_bd hr; rw [hM, upd_other _ (by omega)]
  refine ⟨by rw [hM, upd_other _ (by omega)]; exact h.wd, fun r hr => ?_, by rw [hn]; have := h.n0; omega, fun i => (h.tc i).mono fun r hr => by rw [e r hr]; exact Int.le_refl _, by rw [hnt]; exact h.nk, fun x hx => ?_, ?_, hL⟩
  · have := h.mb r hr; rw [e r hr, hn]; omega
  · rw [hnt] at hx; have := h.ns x hx; rw [hn]; omega
  · rw [hnt, hn]; have := h.nl; omega
/-- .. that stores nothing. -/
theorem HrI.none {s' : AW} (h : HrI b fr M0 s z T) (hM : s'.M = s.M) (hn : s'.n = s.n + 1) (hnt : s'.nt = s.nt) {z' : Evm} {T' : Nat → Tc} (hT : ∀ i, TcI s.M (T' i)) (hL : HrL b fr M0 s'.M s'.nt T' z') : HrI b fr M0 s' z' T' := by
  refine ⟨by rw [hM]; exact h.wd, fun r hr => ?_, by rw [hn]; have := h.n0; omega, fun i => by rw [hM]; exact hT i, by rw [hnt]; exact h.nk, fun x hx => ?_, ?_, hL⟩
  · have := h.mb r hr; rw [hM, hn]; omega
  · rw [hnt] at hx; have := h.ns x hx; rw [hn]; omega
  · rw [hnt, hn]; have := h.nl; omega
/-- A step that notes something. -/
theorem HrI.note {x v : Int} {n : Nt} {s' : AW} (h : HrI b fr M0 s z T) (hM : s'.M = upd s.M x v) (hx : x ≤ 4294967296) (h2 : x ≠ 2) (hn : s'.n = s.n + 1) (hnt : s'.nt = ntAdd s.nt n) (k0 : 1 ≤ n.kind) (k1 : n.kind ≤ 9) (hk : n.kind = 8 → n.value ≤ 2 * plSpots b) (hst : n.step = s.n + 1) (hs : s.n ≤ 100000) {z' : Evm} (hL : s'.nt ≠ [] → HrL b fr M0 s'.M s'.nt T z') : HrI b fr M0 s' z' T := by
  have e : ∀ r, 1 ≤ r → s'.M (plRef r) = s.M (plRef r) := fun r hr => by have := plRef_bd hr; rw [hM, upd_other _ (by omega)]
  have hnt' : s'.nt = s.nt ++ [n] := by rw [hnt]; exact ntAdd_fine k0 k1 (by have := h.nl; omega) fun m hm => by have := h.ns m hm; omega
  refine ⟨by rw [hM, upd_other _ (by omega)]; exact h.wd, fun r hr => ?_, by rw [hn]; have := h.n0; omega, fun i => (h.tc i).mono fun r hr => by rw [e r hr]; exact Int.le_refl _, fun y hy => ?_, fun y hy => ?_, ?_, hL (by rw [hnt']; simp)⟩
  · have := h.mb r hr; rw [e r hr, hn]; omega
  · rw [hnt'] at hy
    rcases List.mem_append.1 hy with hy | hy
    · exact h.nk y hy
    · rw [List.mem_singleton.1 hy]; exact hk
  · rw [hnt'] at hy
    rcases List.mem_append.1 hy with hy | hy
    · have := h.ns y hy; rw [hn]; omega
    · rw [List.mem_singleton.1 hy, hn, hst]; exact Int.le_refl _
  · rw [hnt', hn, List.length_append]; have := h.nl; simp; omega
theorem hr_item {t : Int} (x v : Int) (M : Int → Int) (hx : x < 4096 ∨ 4294967296 ≤ x) : upd M x v (plAt b t).item = M (plAt b t).item := upd_other _ (by have := (plAt_ok b t).item; omega)
set_option maxHeartbeats 4000000 in
theorem HrI.ev (H : HfI b fr M0) (h : HrI b fr M0 s z T) (hz : z.ln ≠ 0) (hn : s.n ≤ 100000) : HrI b fr M0 (evStep (s, z)).1 (evStep (s, z)).2 T ∧ hrMu b (evStep (s, z)).2 < hrMu b z := by
  have hsp := plSpots_3 H.b0 H.b1
  obtain ⟨all, hall⟩ : ∃ all : Nat, (all : Int) = plSpots b := ⟨(plSpots b).toNat, by omega⟩
  have hal : (plSpots b).toNat = all := by omega
  have hrd : ∀ j : Nat, plAt b (fr + ((all + j : Nat) : Int)) = plAt b (fr + j) := fun j => by have := H.round j; rw [hal] at this; exact this
  obtain ⟨ln, t, hh, n, r, mw, o⟩ := z
  cases h.L with
  | l1 ln' it hd =>
    dsimp only at ln'
    subst ln'
    have e : evStep (s, ⟨1, t, hh, n, r, mw, o⟩) = (awStore 5 1 s, ⟨2, t, hh, n, r, mw, o⟩) := rfl
    rw [e]
    dsimp only
    refine ⟨h.low (x := 5) (v := 1) (s' := awStore 5 1 s) rfl (by decide) (by decide) rfl rfl (.l2 rfl (fun t => ?_) ?_ ?_), ?_⟩
    · exact (hr_item 5 1 s.M (by omega)).trans (it t)
    · show upd s.M 5 1 4 % _ = _; rw [upd_other _ (by decide)]; exact hd
    · show upd s.M 5 1 5 = 1; rw [upd_same]
    · unfold hrMu; simp
  | l2 ln' it hd sw =>
    dsimp only at ln'
    subst ln'
    have e : evStep (s, ⟨2, t, hh, n, r, mw, o⟩) = (awLoad 2 s, ⟨3, s.M 2, hh, n, r, mw, o⟩) := rfl
    rw [e]
    dsimp only
    refine ⟨h.none (s' := awLoad 2 s) rfl rfl rfl h.tc (.l3 rfl it hd sw h.wd), ?_⟩
    unfold hrMu; simp
  | l3 ln' it hd sw ht =>
    dsimp only at ln' ht
    subst ln' ht
    have e : evStep (s, ⟨3, t, hh, n, r, mw, o⟩) = (awLoad 4 s, ⟨4, t, s.M 4 % plSpots t, 0, r, mw, o⟩) := rfl
    rw [e]
    dsimp only
    refine ⟨h.none (s' := awLoad 4 s) rfl rfl rfl h.tc (.l4 rfl ⟨rfl, hd, Int.le_refl _, by show (0 : Int) < _; omega, it, sw, fun j hj => by exfalso; dsimp only at hj; omega, fun j hj => by exfalso; dsimp only at hj; omega⟩), ?_⟩
    unfold hrMu; simp; omega
  | l4 ln' A =>
    obtain ⟨ht, hh', hn0, hn1, hit, hsw, hpa, hp2⟩ := A
    dsimp only at ln' ht hh' hn0 hn1 hpa hp2
    subst ln' ht hh'
    have hI := H.it (hh + n)
    have hr' : evRef s ⟨4, t, hh, n, r, mw, o⟩ = M0 (plAt t (hh + n)).item := by
      unfold evRef evSpot
      dsimp only
      rw [hit]
      exact IntWalk.wrap64_in _ (by omega)
    have e := evStep_4 s ⟨4, t, hh, n, r, mw, o⟩ rfl
    rw [hr'] at e
    rw [e]
    dsimp only
    by_cases hz0 : M0 (plAt t (hh + n)).item = 0
    · rw [if_pos hz0]
      by_cases hend : n + 1 = 2 * plSpots t
      · rw [evNext_end hend]
        refine ⟨h.none (s' := awLoad (evSpot ⟨4, t, hh, n, r, mw, o⟩).item s) rfl rfl rfl h.tc (.l11 rfl ⟨rfl, rfl, by show 0 ≤ n + 1; omega, by show n + 1 ≤ _; omega, fun hc => absurd rfl hc, fun _ j hj => ?_, fun hc => absurd rfl hc⟩ hsw), ?_⟩
        · rw [← hrd j]
          by_cases c : ((all + j : Nat) : Int) = n
          · rw [c]; exact hz0
          · exact hp2 (all + j) (by omega) (by omega)
        · unfold hrMu; simp; omega
      · rw [evNext_lt (by dsimp only; omega)]
        refine ⟨h.none (s' := awLoad (evSpot ⟨4, t, hh, n, r, mw, o⟩).item s) rfl rfl rfl h.tc (.l4 rfl ⟨rfl, rfl, by show 0 ≤ n + 1; omega, by show n + 1 < _; omega, hit, hsw, fun j hj hja hjz => ?_, fun j hj hja => ?_⟩), ?_⟩
        · dsimp only at hj
          by_cases c : (j : Int) = n
          · rw [c] at hjz; exact absurd hz0 hjz
          · exact hpa j (by omega) hja hjz
        · dsimp only at hj
          by_cases c : (j : Int) = n
          · rw [c]; exact hz0
          · exact hp2 j (by omega) hja
        · unfold hrMu; simp; omega
    · rw [if_neg hz0]
      refine ⟨h.none (s' := awLoad (evSpot ⟨4, t, hh, n, r, mw, o⟩).item s) rfl rfl rfl h.tc (.l5 rfl ⟨rfl, rfl, hn0, hn1, hit, hsw, hpa, hp2⟩ rfl hz0), ?_⟩
      unfold hrMu; simp
  | l5 ln' A hr hr0 =>
    obtain ⟨ht, hh', hn0, hn1, hit, hsw, hpa, hp2⟩ := A
    dsimp only at ln' ht hh' hn0 hn1 hpa hp2 hr hr0
    subst ln' ht hh'
    have e := evStep_5 s ⟨5, t, hh, n, r, mw, o⟩ rfl
    rw [e]
    dsimp only
    by_cases c : s.M (plRef r) % 2 = 0
    · rw [if_pos c]
      refine ⟨h.none (s' := awLoad (plRef r) s) rfl rfl rfl h.tc (.l7 rfl ⟨rfl, rfl, hn0, hn1, hr, hr0⟩ hsw rfl), ?_⟩
      unfold hrMu; simp; omega
    · rw [if_neg c]
      refine ⟨h.none (s' := awLoad (plRef r) s) rfl rfl rfl h.tc (.l6 rfl ⟨rfl, rfl, hn0, hn1, hit, hsw, hpa, hp2⟩ hr hr0 (by show s.M (plRef r) % 2 = 1; omega) rfl ?_), ?_⟩
      · show n < _
        by_cases q : n < plSpots t
        · exact q
        · exfalso
          obtain ⟨j, hj⟩ : ∃ j : Nat, (j : Int) = n - plSpots t := ⟨(n - plSpots t).toNat, by omega⟩
          have hnj : ((all + j : Nat) : Int) = n := by omega
          have e2 := hrd j
          rw [hnj] at e2
          have := (hpa j (by omega) (by omega) (by rw [← e2, ← hr]; exact hr0)).1
          rw [← e2, ← hr] at this
          exact c this
      · unfold hrMu; simp
  | l6 ln' A hr hr0 ho hw hn' =>
    obtain ⟨ht, hh', hn0, hn1, hit, hsw, hpa, hp2⟩ := A
    dsimp only at ln' ht hh' hn0 hn1 hpa hp2 hr hr0 ho hw hn'
    subst ln' ht hh'
    have hI := H.it (hh + n)
    have hr1 : 1 ≤ r := by omega
    have hrb := plRef_bd hr1
    have hmb := h.mb r hr1
    have e := evStep_6 s ⟨6, t, hh, n, r, mw, o⟩ rfl
    rw [e]
    dsimp only
    rw [evNext_lt (by dsimp only; omega)]
    have hw1 : (mw + 1) % 18446744073709551616 = mw + 1 := by omega
    rw [hw1]
    have hle : ∀ x, 1 ≤ x → s.M (plRef x) ≤ upd s.M (plRef r) (mw + 1) (plRef x) := fun x hx => by
      by_cases c : plRef x = plRef r
      · rw [c, upd_same, hw]; omega
      · rw [upd_other _ c]; exact Int.le_refl _
    refine ⟨⟨?_, fun x hx => ?_, ?_, fun i => (h.tc i).mono hle, h.nk, fun x hx => ?_, ?_, .l4 rfl ⟨rfl, rfl, by show 0 ≤ n + 1; omega, by show n + 1 < _; omega, fun t' => ?_, ?_, fun j hj hja hjz => ?_, fun j hj hja => ?_⟩⟩, ?_⟩
    · show upd s.M _ _ 2 = _; rw [upd_other _ (by omega)]; exact h.wd
    · show 0 ≤ upd s.M _ _ (plRef x) ∧ upd s.M _ _ (plRef x) ≤ 255 + (s.n + 1)
      have := h.mb x hx
      by_cases c : plRef x = plRef r
      · rw [c, upd_same]; omega
      · rw [upd_other _ c]; omega
    · show 0 ≤ s.n + 1; have := h.n0; omega
    · have := h.ns x hx; show x.step ≤ s.n + 1; omega
    · have := h.nl; show (s.nt.length : Int) ≤ s.n + 1; omega
    · exact (hr_item (plRef r) (mw + 1) s.M (by omega)).trans (hit t')
    · show upd s.M _ _ 5 = 1; rw [upd_other _ (by omega)]; exact hsw
    · dsimp only at hj
      show upd s.M _ _ _ % 2 = 0 ∧ ∀ i, _ → _ → _ < upd s.M _ _ _
      have hJ := H.it (hh + j)
      by_cases c : (j : Int) = n
      · rw [c, ← hr, upd_same]
        refine ⟨by omega, fun i h1 h2 => ?_⟩
        rcases h.tc i with h3 | ⟨x, h3, h4, h5 | ⟨h5, h6, h7, h8⟩⟩
        · rw [h3] at h1; omega
        · omega
        · rw [h4] at h1; rw [h1, hw] at h8; omega
      · have hd : plRef (M0 (plAt t (hh + j)).item) ≠ plRef r := fun q => c (by
          have q2 := plRef_inj (by omega) hr1 q
          rw [hr] at q2
          obtain ⟨n', hn''⟩ : ∃ n' : Nat, (n' : Int) = n := ⟨n.toNat, by omega⟩
          rw [← hn''] at q2 hn' ⊢
          have := H.di j n' hja hn' q2 hjz
          omega)
        rw [upd_other _ hd]
        exact hpa j (by omega) hja hjz
    · dsimp only at hj
      omega
    · unfold hrMu; simp; omega
  | l7 ln' B sw ho =>
    obtain ⟨ht, hh', hn0, hn1, hr, hr0⟩ := B
    dsimp only at ln' ht hh' hn0 hn1 hr hr0 ho
    subst ln' ht hh'
    have hv := (plAt_ok t (hh + n)).ver
    have e := evStep_7 s ⟨7, t, hh, n, r, mw, o⟩ rfl
    rw [e]
    dsimp only
    refine ⟨h.low (s' := awAdd (evSpot ⟨7, t, hh, n, r, mw, o⟩).ver 1 s) rfl (by show (plAt t (hh + n)).ver ≤ _; omega) (by show (plAt t (hh + n)).ver ≠ 2; omega) rfl rfl (.l8 rfl ⟨rfl, rfl, hn0, hn1, hr, hr0⟩ ?_ (by show o.ln < 3; omega)), ?_⟩
    · show upd s.M (plAt t (hh + n)).ver _ 5 = 1; rw [upd_other _ (by omega)]; exact sw
    · unfold hrMu; simp [ho]
  | l8 ln' B sw ho =>
    obtain ⟨ht, hh', hn0, hn1, hr, hr0⟩ := B
    dsimp only at ln' ht hh' hn0 hn1 hr hr0 ho
    subst ln' ht hh'
    have hp := plAt_ok t (hh + n)
    have hpt := hp.tags
    have hpi := hp.item
    have e := evStep_8 s ⟨8, t, hh, n, r, mw, o⟩ rfl
    rw [e]
    dsimp only
    have hes : evSpot ⟨8, t, hh, n, r, mw, o⟩ = plAt t (hh + n) := rfl
    rw [hes]
    obtain ⟨ol, ow⟩ := o
    dsimp only at ho ⊢
    have hc : ol = 0 ∨ ol = 1 ∨ ol = 2 := by omega
    rcases hc with rfl | rfl | rfl
    · have eo : outStep (plAt t (hh + n)) s ⟨0, ow⟩ = (awLoad (plAt t (hh + n)).tags s, ⟨1, s.M (plAt t (hh + n)).tags⟩) := rfl
      rw [eo, if_neg (by decide), if_neg (by decide)]
      refine ⟨h.none (s' := awLoad (plAt t (hh + n)).tags s) rfl rfl rfl h.tc (.l8 rfl ⟨rfl, rfl, hn0, hn1, hr, hr0⟩ sw (by show 1 < 3; omega)), ?_⟩
      unfold hrMu; simp
    · have eo : outStep (plAt t (hh + n)) s ⟨1, ow⟩ = (awStore (plAt t (hh + n)).tags (twWith ow (plAt t (hh + n)).s 0) s, ⟨2, ow⟩) := rfl
      rw [eo, if_pos rfl, if_neg (by decide)]
      refine ⟨h.note (s' := awNote 1 r (plAt t (hh + n)).b (plAt t (hh + n)).q (plAt t (hh + n)).s 0 (awStore (plAt t (hh + n)).tags (twWith ow (plAt t (hh + n)).s 0) s)) (n := ⟨s.n + 1, s.ho, 1, r, (plAt t (hh + n)).b, (plAt t (hh + n)).q, (plAt t (hh + n)).s, 0⟩) rfl (by omega) (by omega) rfl rfl (by show (1 : Int) ≤ 1; omega) (by show (1 : Int) ≤ 9; omega) (fun hk => by exact absurd hk (by show ¬ (1 : Int) = 8; decide)) rfl hn fun _ => .l8 rfl ⟨rfl, rfl, hn0, hn1, hr, hr0⟩ ?_ (by show 2 < 3; omega), ?_⟩
      · show upd s.M (plAt t (hh + n)).tags _ 5 = 1; rw [upd_other _ (by omega)]; exact sw
      · unfold hrMu; simp
    · have eo : outStep (plAt t (hh + n)) s ⟨2, ow⟩ = (awStore (plAt t (hh + n)).item 0 s, ⟨3, ow⟩) := rfl
      rw [eo, if_neg (by decide), if_pos rfl]
      refine ⟨h.low (s' := awStore (plAt t (hh + n)).item 0 s) rfl (by omega) (by omega) rfl rfl (.l9 rfl ⟨rfl, rfl, hn0, hn1, hr, hr0⟩ ?_ ?_), ?_⟩
      · show upd s.M (plAt t (hh + n)).item _ 5 = 1; rw [upd_other _ (by omega)]; exact sw
      · show upd s.M (plAt t (hh + n)).item 0 (plAt t (hh + n)).item = 0; rw [upd_same]
      · unfold hrMu; simp
  | l9 ln' B sw he =>
    obtain ⟨ht, hh', hn0, hn1, hr, hr0⟩ := B
    dsimp only at ln' ht hh' hn0 hn1 hr hr0 he
    subst ln' ht hh'
    have hp := plAt_ok t (hh + n)
    have hv := hp.ver
    have hpi := hp.item
    have e := evStep_9 s ⟨9, t, hh, n, r, mw, o⟩ rfl
    rw [e]
    dsimp only
    refine ⟨h.low (s' := awAdd (evSpot ⟨9, t, hh, n, r, mw, o⟩).ver 1 s) rfl (by show (plAt t (hh + n)).ver ≤ _; omega) (by show (plAt t (hh + n)).ver ≠ 2; omega) rfl rfl (.l10 rfl ⟨rfl, rfl, hn0, hn1, hr, hr0⟩ ?_ ?_), ?_⟩
    · show upd s.M (plAt t (hh + n)).ver _ 5 = 1; rw [upd_other _ (by omega)]; exact sw
    · show upd s.M (plAt t (hh + n)).ver _ (plAt t (hh + n)).item = 0; rw [upd_other _ (by omega)]; exact he
    · unfold hrMu; simp
  | l10 ln' B sw he =>
    obtain ⟨ht, hh', hn0, hn1, hr, hr0⟩ := B
    dsimp only at ln' ht hh' hn0 hn1 hr hr0 he
    subst ln' ht hh'
    have hpi := (plAt_ok t (hh + n)).item
    have e := evStep_10 s ⟨10, t, hh, n, r, mw, o⟩ rfl
    rw [e]
    dsimp only
    have he' : upd s.M 6 ((s.M 6 + 18446744073709551615) % 18446744073709551616) (plAt t (hh + n)).item = 0 := by rw [upd_other _ (by omega)]; exact he
    refine ⟨h.low (x := 6) (v := (s.M 6 + 18446744073709551615) % 18446744073709551616) (s' := awAdd 6 18446744073709551615 s) rfl (by decide) (by decide) rfl rfl (.l11 rfl ⟨rfl, rfl, hn0, by show n ≤ _; omega, fun _ => hn1, fun hc => absurd hc hr0, fun _ => ⟨hr, he'⟩⟩ ?_), ?_⟩
    · have h5 : upd s.M 6 ((s.M 6 + 18446744073709551615) % 18446744073709551616) 5 = s.M 5 := upd_other _ (by decide)
      exact h5.trans sw
    · unfold hrMu; simp
  | l11 ln' E sw =>
    obtain ⟨ht, hh', hn0, hn1, hrn, hno, hye⟩ := E
    dsimp only at ln' ht hh' hn0 hn1 hrn hno hye
    subst ln' ht hh'
    have hpi := (plAt_ok t (hh + n)).item
    have e := evStep_11 s ⟨11, t, hh, n, r, mw, o⟩ rfl
    rw [e]
    dsimp only
    have hes : evSpot ⟨11, t, hh, n, r, mw, o⟩ = plAt t (hh + n) := rfl
    rw [hes]
    by_cases c : r = 0
    · rw [if_pos c]
      refine ⟨h.note (s' := awNote 8 0 0 0 0 n (awStore 4 hh s)) (n := ⟨s.n + 1, s.ho, 8, 0, 0, 0, 0, n⟩) rfl (by decide) (by decide) rfl rfl (by show (1 : Int) ≤ 8; omega) (by show (8 : Int) ≤ 9; omega) (fun _ => hn1) rfl hn fun hne => .l12 rfl ⟨rfl, rfl, hn0, hn1, hrn, hno, fun hc => absurd c hc⟩ ?_ hne, ?_⟩
      · have h5 : upd s.M 4 hh 5 = s.M 5 := upd_other _ (by decide)
        exact h5.trans sw
      · unfold hrMu; simp
    · rw [if_neg c]
      have hrn' := hrn c
      refine ⟨h.note (s' := awNote 8 r (plAt t (hh + n)).b (plAt t (hh + n)).q (plAt t (hh + n)).s (n + 1) (awStore 4 ((hh + n + 1) % plSpots t) s)) (n := ⟨s.n + 1, s.ho, 8, r, (plAt t (hh + n)).b, (plAt t (hh + n)).q, (plAt t (hh + n)).s, n + 1⟩) rfl (by decide) (by decide) rfl rfl (by show (1 : Int) ≤ 8; omega) (by show (8 : Int) ≤ 9; omega) (fun _ => by show n + 1 ≤ _; omega) rfl hn fun hne => .l12 rfl ⟨rfl, rfl, hn0, hn1, hrn, hno, fun _ => ⟨(hye c).1, ?_⟩⟩ ?_ hne, ?_⟩
      · show upd s.M 4 _ (plAt t (hh + n)).item = 0; rw [upd_other _ (by omega)]; exact (hye c).2
      · have h5 : upd s.M 4 ((hh + n + 1) % plSpots t) 5 = s.M 5 := upd_other _ (by decide)
        exact h5.trans sw
      · unfold hrMu; simp
  | l12 ln' E sw ne =>
    obtain ⟨ht, hh', hn0, hn1, hrn, hno, hye⟩ := E
    dsimp only at ln' ht hh' hn0 hn1 hrn hno hye
    subst ln' ht hh'
    have hpi := (plAt_ok t (hh + n)).item
    have e := evStep_12 s ⟨12, t, hh, n, r, mw, o⟩ rfl
    rw [e]
    dsimp only
    refine ⟨h.low (s' := awStore 5 0 s) rfl (by decide) (by decide) rfl rfl (.l0 rfl ⟨rfl, rfl, hn0, hn1, hrn, hno, fun c => ⟨(hye c).1, ?_⟩⟩ ne), ?_⟩
    · show upd s.M 5 0 (plAt t (hh + n)).item = 0; rw [upd_other _ (by omega)]; exact (hye c).2
    · unfold hrMu; simp
  | l0 ln' E ne => exact absurd ln' hz
/-- Other touches: those behind their second line are as they were, or the hand has not begun. -/
theorem HrL.upT {M : Int → Int} {nt : List Nt} {T' : Nat → Tc} (H : HfI b fr M0) (h : HrL b fr M0 M nt T z) (hT : ∀ j, (T' j).next = 2 → (T' j).at_ ≠ 0 → (∃ i, (T i).at_ = (T' j).at_ ∧ (T i).next = 2 ∧ (T i).word = (T' j).word) ∨ M 5 = 0) : HrL b fr M0 M nt T' z := by
  have hA : HrA b fr M0 M T z → HrA b fr M0 M T' z := fun ⟨a1, a2, a3, a4, a5, a6, a7, a8⟩ => ⟨a1, a2, a3, a4, a5, a6, fun j hj hja hjz => ⟨(a7 j hj hja hjz).1, fun i h1 h2 => by
    have hI := H.it (fr + j)
    have hb := plRef_bd (r := M0 (plAt b (fr + j)).item) (by omega)
    rcases hT i h2 (by omega) with ⟨k, k1, k2, k3⟩ | k
    · rw [← k3]; exact (a7 j hj hja hjz).2 k (by rw [k1, h1]) k2
    · omega⟩, a8⟩
  cases h with
  | l1 a b c => exact .l1 a b c
  | l2 a b c d => exact .l2 a b c d
  | l3 a b c d e => exact .l3 a b c d e
  | l4 a A => exact .l4 a (hA A)
  | l5 a A c d => exact .l5 a (hA A) c d
  | l6 a A c d e f g => exact .l6 a (hA A) c d e f g
  | l7 a b c d => exact .l7 a b c d
  | l8 a b c d => exact .l8 a b c d
  | l9 a b c d => exact .l9 a b c d
  | l10 a b c d => exact .l10 a b c d
  | l11 a b c => exact .l11 a b c
  | l12 a b c d => exact .l12 a b c d
  | l0 a b c => exact .l0 a b c
/-- A mark that is set. -/
theorem HrL.set {M : Int → Int} {nt : List Nt} {x v : Int} (h : HrL b fr M0 M nt T z) (hx : 4294967297 ≤ x) (hp : ∀ n, HrP b fr M0 M T n → HrP b fr M0 (upd M x v) T n) (h6 : z.mw % 2 = 1 → M (plRef z.ref) = z.mw → plRef z.ref ≠ x) : HrL b fr M0 (upd M x v) nt T z := by
  have it : (∀ t, M (plAt b t).item = M0 (plAt b t).item) → ∀ t, upd M x v (plAt b t).item = M0 (plAt b t).item := fun h t => by rw [hr_item x v M (by omega)]; exact h t
  have lo : ∀ a, a ≤ 4294967296 → upd M x v a = M a := fun a ha => upd_other _ (by omega)
  have hA : HrA b fr M0 M T z → HrA b fr M0 (upd M x v) T z := fun ⟨a1, a2, a3, a4, a5, a6, a7, a8⟩ => ⟨a1, a2, a3, a4, it a5, by rw [lo 5 (by decide)]; exact a6, hp _ a7, a8⟩
  have hE : HrE b fr M0 M z → HrE b fr M0 (upd M x v) z := fun ⟨a1, a2, a3, a4, a5, a6, a7⟩ => ⟨a1, a2, a3, a4, a5, a6, fun c => ⟨(a7 c).1, by rw [hr_item x v M (by omega)]; exact (a7 c).2⟩⟩
  have l4 := lo 4 (by decide)
  have l5 := lo 5 (by decide)
  cases h with
  | l1 a b c => exact .l1 a (it b) (by rw [l4]; exact c)
  | l2 a b c d => exact .l2 a (it b) (by rw [l4]; exact c) (by rw [l5]; exact d)
  | l3 a b c d e => exact .l3 a (it b) (by rw [l4]; exact c) (by rw [l5]; exact d) e
  | l4 a A => exact .l4 a (hA A)
  | l5 a A c d => exact .l5 a (hA A) c d
  | l6 a A c d e f g => exact .l6 a (hA A) c d e (by rw [upd_other _ (h6 e f)]; exact f) g
  | l7 a b c d => exact .l7 a b (by rw [l5]; exact c) d
  | l8 a b c d => exact .l8 a b (by rw [l5]; exact c) d
  | l9 a b c d => exact .l9 a b (by rw [l5]; exact c) (by rw [hr_item x v M (by omega)]; exact d)
  | l10 a b c d => exact .l10 a b (by rw [l5]; exact c) (by rw [hr_item x v M (by omega)]; exact d)
  | l11 a b c => exact .l11 a (hE b) (by rw [l5]; exact c)
  | l12 a b c d => exact .l12 a (hE b) (by rw [l5]; exact c) d
  | l0 a b c => exact .l0 a (hE b) c
def setT (T : Nat → Tc) (i : Nat) (t : Tc) : Nat → Tc := fun j => if j = i then t else T j
/-- A reader begins. -/
theorem HrI.new (H : HfI b fr M0) (h : HrI b fr M0 s z T) (i : Nat) (r : Int) (hr : 1 ≤ r) : HrI b fr M0 s z (setT T i (tcNew (plRef r))) := by
  refine ⟨h.wd, h.mb, h.n0, fun j => ?_, h.nk, h.ns, h.nl, h.L.upT H fun j h1 h2 => ?_⟩
  · unfold setT; split
    · exact .inr ⟨r, hr, rfl, .inl rfl⟩
    · exact h.tc j
  · unfold setT at h1 h2 ⊢
    split at h1
    · cases h1
    · rename_i c
      rw [if_neg c] at h2 ⊢
      exact .inl ⟨j, rfl, h1, rfl⟩
/-- A reader takes a step. -/
theorem HrI.touch (H : HfI b fr M0) (h : HrI b fr M0 s z T) (i : Nat) (hov : (T i).at_ ≠ 0) (hn : s.n ≤ 100000) {s' : AW} (hM : s'.M = (tcStep ⟨s.M, s.n, s.la, T i⟩).M) (hn' : s'.n = (tcStep ⟨s.M, s.n, s.la, T i⟩).n) (hnt : s'.nt = s.nt) :
    HrI b fr M0 s' z (setT T i (tcStep ⟨s.M, s.n, s.la, T i⟩).t) := by
  obtain ⟨t, ht⟩ : ∃ t, t = T i := ⟨_, rfl⟩
  rw [← ht] at hov hM hn' ⊢
  have hti := h.tc i
  rw [← ht] at hti
  obtain ⟨a, nx, wd, dn⟩ := t
  dsimp only at hov
  rcases hti with q | ⟨r, hr, q, hq⟩
  · exact absurd q hov
  dsimp only at q hq
  have hrb := plRef_bd hr
  have keep : ∀ {t' : Tc}, s'.M = s.M → s'.n = s.n + 1 → TcI s.M t' → (t'.next = 2 → t'.at_ ≠ 0 → s.M 5 = 0) → HrI b fr M0 s' z (setT T i t') := fun {t'} e1 e2 e3 e4 => by
    refine h.none e1 e2 hnt (fun j => ?_) ?_
    · unfold setT; split
      · exact e3
      · exact h.tc j
    · rw [e1, hnt]
      refine h.L.upT H fun j h1 h2 => ?_
      unfold setT at h1 h2 ⊢
      split at h1
      · rename_i c
        rw [if_pos c] at h2
        exact .inr (e4 h1 h2)
      · rename_i c
        rw [if_neg c] at h2 ⊢
        exact .inl ⟨j, rfl, h1, rfl⟩
  rcases hq with q0 | ⟨q0, q1, q2, q3⟩
  · subst q0
    have e : tcStep ⟨s.M, s.n, s.la, ⟨a, 0, wd, dn⟩⟩ = ⟨s.M, s.n + 1, ⟨1, a, s.M a, s.M a⟩, ⟨if rfMarked (s.M a) then 0 else a, 1, s.M a, dn⟩⟩ := by
      unfold tcStep; rw [if_neg hov, if_pos rfl]
    rw [e] at hM hn' ⊢
    refine keep hM hn' ?_ fun h1 => by cases h1
    by_cases c : rfMarked (s.M a) = true
    · rw [c]; exact .inl rfl
    · rw [if_neg c]
      have : s.M a % 2 = 0 := by unfold rfMarked at c; have c2 : ¬ s.M a % 2 = 1 := by simpa using c
                                 omega
      refine .inr ⟨r, hr, q, .inr ⟨.inl rfl, this, ?_, ?_⟩⟩
      · show 0 ≤ s.M a; rw [q]; exact (h.mb r hr).1
      · show s.M a ≤ _; rw [q]; exact Int.le_refl _
  · rcases q0 with q0 | q0
    · subst q0
      have e : tcStep ⟨s.M, s.n, s.la, ⟨a, 1, wd, dn⟩⟩ = ⟨s.M, s.n + 1, ⟨1, 5, s.M 5, s.M 5⟩, ⟨if s.M 5 ≠ 0 then 0 else a, 2, wd, dn⟩⟩ := by
        unfold tcStep; rw [if_neg hov, if_neg (by show ¬ (1 : Int) = 0; decide), if_pos rfl]
      rw [e] at hM hn' ⊢
      by_cases c : s.M 5 = 0
      · rw [if_neg (by simp [c])]
        exact keep hM hn' (.inr ⟨r, hr, q, .inr ⟨.inr rfl, q1, q2, q3⟩⟩) fun _ _ => c
      · rw [if_pos c]
        exact keep hM hn' (.inl rfl) fun _ h2 => absurd rfl h2
    · subst q0
      by_cases c : s.M a = wd
      · have e : tcStep ⟨s.M, s.n, s.la, ⟨a, 2, wd, dn⟩⟩ = ⟨upd s.M a (rfMark wd), s.n + 1, ⟨3, a, wd, rfMark wd⟩, ⟨0, 3, wd, true⟩⟩ := by
          unfold tcStep; rw [if_neg hov, if_neg (by show ¬ (2 : Int) = 0; decide), if_neg (by show ¬ (2 : Int) = 1; decide), if_pos c]
        rw [e] at hM hn' ⊢
        dsimp only at hM hn' ⊢
        have hwd : rfMark wd = wd + 1 := by unfold rfMark; omega
        rw [hwd] at hM
        have hmb := h.mb r hr
        have hle : ∀ x, 1 ≤ x → s.M (plRef x) ≤ s'.M (plRef x) := fun x hx => by
          rw [hM]
          by_cases d : plRef x = a
          · rw [d, upd_same, c]; omega
          · rw [upd_other _ d]; exact Int.le_refl _
        have hL0 : HrL b fr M0 s'.M s'.nt T z := by
          rw [hM, hnt]
          refine h.L.set (by omega) (fun n hP j hj hja hjz => ?_) fun h1 h2 h3 => ?_
          · have hd : plRef (M0 (plAt b (fr + j)).item) ≠ a := fun d => by
              have := (hP j hj hja hjz).2 i (by rw [← ht]; exact d.symm) (by rw [← ht])
              rw [← ht, d, c] at this
              dsimp only at this
              omega
            rw [upd_other _ hd]
            exact hP j hj hja hjz
          · rw [h3, c] at h2; omega
        refine ⟨by rw [hM, upd_other _ (by omega)]; exact h.wd, fun x hx => ?_, by rw [hn']; have := h.n0; omega, fun j => ?_, by rw [hnt]; exact h.nk, fun x hx => ?_, ?_, hL0.upT H fun j h1 h2 => ?_⟩
        · have := h.mb x hx
          have h2 := hle x hx
          rw [hn']
          refine ⟨by omega, ?_⟩
          rw [hM]
          by_cases d : plRef x = a
          · rw [d, upd_same, ← c, ← d]; omega
          · rw [upd_other _ d]; omega
        · unfold setT; split
          · exact .inl rfl
          · exact (h.tc j).mono hle
        · rw [hnt] at hx; have := h.ns x hx; rw [hn']; omega
        · rw [hnt, hn']; have := h.nl; omega
        · unfold setT at h1 h2 ⊢
          split at h1
          · cases h1
          · rename_i d
            rw [if_neg d] at h2 ⊢
            exact .inl ⟨j, rfl, h1, rfl⟩
      · have e : tcStep ⟨s.M, s.n, s.la, ⟨a, 2, wd, dn⟩⟩ = ⟨s.M, s.n + 1, ⟨3, a, s.M a, s.M a⟩, ⟨0, 3, wd, false⟩⟩ := by
          unfold tcStep; rw [if_neg hov, if_neg (by show ¬ (2 : Int) = 0; decide), if_neg (by show ¬ (2 : Int) = 1; decide), if_neg c]
        rw [e] at hM hn' ⊢
        exact keep hM hn' (.inl rfl) fun h1 => by cases h1
end
end Go.Proofs.YtlcibfpibklbdaaGreat
