/- Layer 23, plain: a hand by itself, among items of which some are marked. -/
import Derived.Test.YtlcibfpibklbdaaGreatHnT
namespace Go.Proofs.YtlcibfpibklbdaaGreat
set_option linter.unusedSimpArgs false
set_option linter.unusedVariables false
open Go.RowKit
structure HfI (b fr : Int) (M : Int → Int) : Prop where
  b0 : 1 ≤ b
  b1 : b ≤ 3
  wd : M 2 = b
  hd : M 4 % plSpots b = fr
  it : ∀ t : Int, 0 ≤ M (plAt b t).item ∧ M (plAt b t).item ≤ 40
  di : ∀ n m : Nat, (n : Int) < plSpots b → (m : Int) < plSpots b → M (plAt b (fr + n)).item = M (plAt b (fr + m)).item → M (plAt b (fr + n)).item ≠ 0 → n = m
  mr : ∀ r : Int, 1 ≤ r → 0 ≤ M (plRef r) ∧ M (plRef r) ≤ 255
theorem plRef_inj {r t : Int} (h1 : 1 ≤ r) (h2 : 1 ≤ t) (h : plRef r = plRef t) : r = t := by
  unfold plRef at h; rw [if_neg (by omega), if_neg (by omega)] at h; omega
section
variable {b fr : Int} {M : Int → Int}
theorem HfI.fr0 (h : HfI b fr M) : 0 ≤ fr ∧ fr < plSpots b := by
  have hs := plSpots_3 h.b0 h.b1
  rw [← h.hd]
  exact ⟨Int.emod_nonneg _ (by omega), Int.emod_lt_of_pos _ (by omega)⟩
theorem HfI.round (h : HfI b fr M) (j : Nat) : plAt b (fr + (((plSpots b).toNat + j : Nat) : Int)) = plAt b (fr + j) := by
  have hs := plSpots_3 h.b0 h.b1
  refine plAt_mod ?_
  rw [show fr + (((plSpots b).toNat + j : Nat) : Int) = fr + j + plSpots b by omega, Int.add_emod_right]
theorem hnI5 (j : Nat) : hnI b fr (upd M 5 1) j = M (plAt b (fr + j)).item := by
  unfold hnI; rw [upd_other _ (by have := (plAt_ok b (fr + j)).item; omega)]
/-- A word that is no mark of an item that was come by. -/
theorem HfI.out (h : HfI b fr M) (J : Nat) (a : Int) (ha : ∀ n, n < J → M (plAt b (fr + n)).item ≠ 0 → a ≠ plRef (M (plAt b (fr + n)).item)) : hnM b fr (upd M 5 1) J a = upd M 5 1 a := by
  induction J with
  | zero => rfl
  | succ J ih =>
    unfold hnM
    rw [hnI5]
    split
    · exact ih fun n hn => ha n (by omega)
    · rename_i hz
      rw [upd_other _ (ha J (by omega) hz)]
      exact ih fun n hn => ha n (by omega)
/-- A mark of an item that was come by. -/
theorem HfI.in (h : HfI b fr M) (J : Nat) (hJ : (J : Int) ≤ plSpots b) (n : Nat) (hn : n < J) (hz : M (plAt b (fr + n)).item ≠ 0) : hnM b fr (upd M 5 1) J (plRef (M (plAt b (fr + n)).item)) = M (plRef (M (plAt b (fr + n)).item)) + 1 := by
  have hr : ∀ m : Nat, M (plAt b (fr + m)).item ≠ 0 → 1 ≤ M (plAt b (fr + m)).item := fun m hm => by have := h.it (fr + m); omega
  have hne : ∀ i m : Nat, (i : Int) < plSpots b → (m : Int) < plSpots b → i ≠ m → M (plAt b (fr + i)).item ≠ 0 → M (plAt b (fr + m)).item ≠ 0 → plRef (M (plAt b (fr + i)).item) ≠ plRef (M (plAt b (fr + m)).item) := fun i m q1 q2 q3 q4 q5 q6 =>
    q3 (h.di i m q1 q2 (plRef_inj (hr i q4) (hr m q5) q6) q4)
  induction J with
  | zero => omega
  | succ J ih =>
    unfold hnM
    rw [hnI5]
    by_cases e : n = J
    · subst e
      rw [if_neg hz, upd_same, h.out n _ fun i hi hzi => hne n i (by omega) (by omega) (by omega) hz hzi]
      have h1 := h.mr _ (hr n hz)
      have h2 := plRef_bd (hr n hz)
      rw [upd_other _ (by omega)]
      omega
    · split
      · exact ih (by omega) (by omega)
      · rename_i hzJ
        rw [upd_other _ (hne n J (by omega) (by omega) e hz hzJ)]
        exact ih (by omega) (by omega)
/-- What a hand leaves that takes the item of slot k; R: how many slots' items lost their marks. -/
structure HfPost (b fr : Int) (M : Int → Int) (k R : Nat) (M' : Int → Int) : Prop where
  c2 : M' 2 = b
  c4 : M' 4 = (fr + k + 1) % plSpots b
  c5 : M' 5 = 0
  c6 : M' 6 = (M 6 + 18446744073709551615) % 18446744073709551616
  ver : M' (plAt b (fr + k)).ver = ((M (plAt b (fr + k)).ver + 1) % 18446744073709551616 + 1) % 18446744073709551616
  itk : M' (plAt b (fr + k)).item = 0
  ito : ∀ n : Nat, (n : Int) < plSpots b → n ≠ k → M' (plAt b (fr + n)).item = M (plAt b (fr + n)).item
  mk1 : ∀ n : Nat, n < R → M (plAt b (fr + n)).item ≠ 0 → M' (plRef (M (plAt b (fr + n)).item)) = M (plRef (M (plAt b (fr + n)).item)) + 1
  mk0 : ∀ n : Nat, R ≤ n → (n : Int) < plSpots b → M (plAt b (fr + n)).item ≠ 0 → M' (plRef (M (plAt b (fr + n)).item)) = M (plRef (M (plAt b (fr + n)).item))
  z : M' 0 = M 0
theorem plAt_b {b : Int} (b0 : 1 ≤ b) (b1 : b ≤ 3) (t : Int) : (plAt b t).b = b := by
  have hs := plSpots_3 b0 b1
  have h1 : plOld b = b := by unfold plOld; rw [if_pos (by omega)]; omega
  show plAtBits b t = b
  unfold plAtBits
  rw [h1, if_pos]
  rw [← plSpots_one b0 (by omega)]
  exact Int.emod_lt_of_pos _ (by omega)
theorem plAt_inj {b : Int} (b0 : 1 ≤ b) (b1 : b ≤ 3) {a c : Int} (h : plAt b a = plAt b c) : a % plSpots b = c % plSpots b := by
  have hs := plSpots_3 b0 b1
  have h1 : plOld b = b := by unfold plOld; rw [if_pos (by omega)]; omega
  have e : ∀ t, plAtN b t = t % plSpots b := fun t => by
    unfold plAtN
    rw [h1, if_pos]
    rw [← plSpots_one b0 (by omega)]
    exact Int.emod_lt_of_pos _ (by omega)
  unfold plAt at h
  injection h with _ h2 h3
  rw [e, e] at h2
  omega
theorem HfI.post (h : HfI b fr M) (J k R : Nat) (hk : (k : Int) < plSpots b) (hR : (R : Int) ≤ plSpots b) (hJ : hnM b fr (upd M 5 1) J = hnM b fr (upd M 5 1) R) (hp : plAt b (fr + J) = plAt b (fr + k)) (hd : (fr + J + 1) % plSpots b = (fr + k + 1) % plSpots b) :
    HfPost b fr M k R (hnOut (hnM b fr (upd M 5 1) J) (plAt b (fr + J)) ((fr + J + 1) % plSpots b)) := by
  rw [hJ, hp, hd]
  have hok := plAt_ok b (fr + k)
  have e := hnOut_eq (hnM b fr (upd M 5 1) R) (plAt b (fr + k)) ((fr + k + 1) % plSpots b) hok
  have hv := hok.ver
  have hi := hok.item
  have ht := hok.tags
  have hI : ∀ j : Nat, 0 ≤ hnI b fr (upd M 5 1) j := fun j => by rw [hnI5]; exact (h.it _).1
  have lo : ∀ a : Int, a ≤ 4294967296 → a ≠ 5 → hnM b fr (upd M 5 1) R a = M a := fun a ha h5 => by rw [hnM_low hI R a ha, upd_other _ h5]
  have hs := plSpots_3 h.b0 h.b1
  have hf := h.fr0
  refine ⟨?_, ?_, ?_, ?_, ?_, ?_, fun n hn hnk => ?_, fun n hn hz => ?_, fun n hn hn2 hz => ?_, ?_⟩
  · rw [e, if_neg (by decide), if_neg (by decide), if_neg (by decide), if_neg (by omega), if_neg (by omega), if_neg (by omega), lo 2 (by decide) (by decide)]; exact h.wd
  · rw [e, if_neg (by decide), if_pos rfl]
  · rw [e, if_pos rfl]
  · rw [e, if_neg (by decide), if_neg (by decide), if_pos rfl, lo 6 (by decide) (by decide)]
  · rw [e, if_neg (by omega), if_neg (by omega), if_neg (by omega), if_pos rfl, lo _ (by omega) (by omega)]
  · rw [e, if_neg (by omega), if_neg (by omega), if_neg (by omega), if_neg (by omega), if_pos rfl]
  · have hok2 := plAt_ok b (fr + n)
    have hi2 := hok2.item
    have hb : (plAt b (fr + n)).b = (plAt b (fr + k)).b := by rw [plAt_b h.b0 h.b1, plAt_b h.b0 h.b1]
    have hne : (plAt b (fr + n)).item ≠ (plAt b (fr + k)).item := fun q => hnk (by
      have q2 := plAt_inj h.b0 h.b1 (Spt.item_inj hok2 hok hb q)
      have e1 : fr + (n : Int) < 2 * plSpots b := by omega
      have e2 : fr + (k : Int) < 2 * plSpots b := by omega
      have d1 := Int.emod_emod_of_dvd (fr + n) (Int.dvd_refl (plSpots b))
      have : ∀ x : Int, 0 ≤ x → x < 2 * plSpots b → x % plSpots b = if x < plSpots b then x else x - plSpots b := fun x x0 x1 => by
        split
        · exact Int.emod_eq_of_lt x0 (by assumption)
        · rw [← Int.sub_emod_right]; exact Int.emod_eq_of_lt (by omega) (by omega)
      rw [this _ (by omega) e1, this _ (by omega) e2] at q2
      split at q2 <;> split at q2 <;> omega)
    rw [e, if_neg (by omega), if_neg (by omega), if_neg (by omega), if_neg (by omega), if_neg hne, if_neg (Spt.item_ne_tags hok2 hok hb), lo _ (by omega) (by omega)]
  · have h1 := h.it (fr + n)
    have h2 := plRef_bd (r := M (plAt b (fr + n)).item) (by omega)
    rw [e, if_neg (by omega), if_neg (by omega), if_neg (by omega), if_neg (by omega), if_neg (by omega), if_neg (by omega), h.in R hR n hn hz]
  · have h1 := h.it (fr + n)
    have h2 := plRef_bd (r := M (plAt b (fr + n)).item) (by omega)
    rw [e, if_neg (by omega), if_neg (by omega), if_neg (by omega), if_neg (by omega), if_neg (by omega), if_neg (by omega), h.out R, upd_other _ (by omega)]
    intro m hm hzm q
    have h3 := h.it (fr + m)
    have := h.di n m hn2 (by omega) (plRef_inj (by omega) (by omega) q) hz
    omega
  · rw [e, if_neg (by decide), if_neg (by decide), if_neg (by decide), if_neg (by omega), if_neg (by omega), if_neg (by omega), lo 0 (by decide) (by decide)]
/-- A hand that finds an item that is not marked, in its first round. -/
theorem HfI.first {s : AW} (h : HfI b fr s.M) (k : Nat) (hk : (k : Int) < plSpots b) (hz : s.M (plAt b (fr + k)).item ≠ 0) (he : s.M (plRef (s.M (plAt b (fr + k)).item)) % 2 = 0)
    (hb : ∀ n, n < k → s.M (plAt b (fr + n)).item = 0 ∨ s.M (plRef (s.M (plAt b (fr + n)).item)) % 2 = 1) (most : Nat) (hm : 7 * plSpots b + 20 ≤ most) :
    ∃ c y z, runN evOver evStep most (s, evNew) = (c, y, z) ∧ (c : Int) ≤ 6 * plSpots b + 11 ∧ z.ln = 0 ∧ evGot z = (s.M (plAt b (fr + k)).item, plAt b (fr + k)) ∧ HfPost b fr s.M k k y.M := by
  have hs := plSpots_3 h.b0 h.b1
  obtain ⟨y1, r1, mw1, o1, g1, m1, n1, i1, u1⟩ := ev_start s
  rw [h.wd, h.hd] at g1
  have hIb : ∀ j : Nat, 0 ≤ hnI b fr (upd s.M 5 1) j ∧ hnI b fr (upd s.M 5 1) j ≤ 9223372036854775807 := fun j => by rw [hnI5]; have := h.it (fr + j); omega
  have H0 : HnAt b fr (upd s.M 5 1) s 0 (y1, ⟨4, b, fr, 0, r1, mw1, o1⟩) := ⟨rfl, rfl, rfl, rfl, m1, n1, i1, u1⟩
  have hr : ∀ m : Nat, s.M (plAt b (fr + m)).item ≠ 0 → 1 ≤ s.M (plAt b (fr + m)).item := fun m hm => by have := h.it (fr + m); omega
  have here : ∀ n : Nat, (n : Int) < plSpots b → s.M (plAt b (fr + n)).item ≠ 0 → hnM b fr (upd s.M 5 1) n (plRef (s.M (plAt b (fr + n)).item)) = s.M (plRef (s.M (plAt b (fr + n)).item)) := fun n hn hzn => by
    have h2 := plRef_bd (hr n hzn)
    rw [h.out n _ fun i hi hzi q => by
      have := h.di n i hn (by omega) (plRef_inj (hr n hzn) (hr i hzi) q) hzn
      omega, upd_other _ (by omega)]
  obtain ⟨c, x, hc, hgo, hx⟩ := H0.scan hIb k (by omega) fun j hj => by
    rw [hnI5]
    by_cases q : s.M (plAt b (fr + j)).item = 0
    · exact .inl q
    · right; rw [here j (by omega) q]; exact (hb j hj).resolve_left q
  obtain ⟨y, z, hgo2, z0, z1, z2, z3, z4, z5, -, -⟩ := hx.found hIb (by rw [hnI5]; exact hz) (by rw [hnI5, here k hk hz]; exact he)
  have hcc := hnC_le (b := b) (h := fr) (M := upd s.M 5 1) k
  refine ⟨_, y, z, ((g1.trans hgo).trans hgo2).fin (m := most) (by omega) (by show (z.ln == 0) = true; rw [z0]; rfl), by omega, z0, ?_, ?_⟩
  · rw [hnI5] at z4
    unfold evGot
    rw [if_pos ⟨z0, by rw [z4]; exact hz⟩, z4]
    unfold evSpot
    rw [z1, z2, z3]
  · rw [z5]
    exact h.post k k k hk (by omega) rfl rfl rfl
/-- .. in its second round. -/
theorem HfI.second {s : AW} (h : HfI b fr s.M) (k : Nat) (hk : (k : Int) < plSpots b) (hz : s.M (plAt b (fr + k)).item ≠ 0) (hb : ∀ n, n < k → s.M (plAt b (fr + n)).item = 0)
    (ho : ∀ n : Nat, (n : Int) < plSpots b → s.M (plAt b (fr + n)).item = 0 ∨ s.M (plRef (s.M (plAt b (fr + n)).item)) % 2 = 1) (most : Nat) (hm : 7 * plSpots b + 20 ≤ most) :
    ∃ c y z, runN evOver evStep most (s, evNew) = (c, y, z) ∧ (c : Int) ≤ 6 * plSpots b + 11 ∧ z.ln = 0 ∧ evGot z = (s.M (plAt b (fr + k)).item, plAt b (fr + k)) ∧ HfPost b fr s.M k (plSpots b).toNat y.M := by
  have hs := plSpots_3 h.b0 h.b1
  obtain ⟨y1, r1, mw1, o1, g1, m1, n1, i1, u1⟩ := ev_start s
  rw [h.wd, h.hd] at g1
  have hIb : ∀ j : Nat, 0 ≤ hnI b fr (upd s.M 5 1) j ∧ hnI b fr (upd s.M 5 1) j ≤ 9223372036854775807 := fun j => by rw [hnI5]; have := h.it (fr + j); omega
  have H0 : HnAt b fr (upd s.M 5 1) s 0 (y1, ⟨4, b, fr, 0, r1, mw1, o1⟩) := ⟨rfl, rfl, rfl, rfl, m1, n1, i1, u1⟩
  have hr : ∀ m : Nat, s.M (plAt b (fr + m)).item ≠ 0 → 1 ≤ s.M (plAt b (fr + m)).item := fun m hm => by have := h.it (fr + m); omega
  have here : ∀ n : Nat, (n : Int) < plSpots b → s.M (plAt b (fr + n)).item ≠ 0 → hnM b fr (upd s.M 5 1) n (plRef (s.M (plAt b (fr + n)).item)) = s.M (plRef (s.M (plAt b (fr + n)).item)) := fun n hn hzn => by
    have h2 := plRef_bd (hr n hzn)
    rw [h.out n _ fun i hi hzi q => by
      have := h.di n i hn (by omega) (plRef_inj (hr n hzn) (hr i hzi) q) hzn
      omega, upd_other _ (by omega)]
  obtain ⟨all, hall⟩ : ∃ all : Nat, (all : Int) = plSpots b := ⟨(plSpots b).toNat, by omega⟩
  have hal : (plSpots b).toNat = all := by omega
  have hrd : ∀ j : Nat, hnI b fr (upd s.M 5 1) (all + j) = s.M (plAt b (fr + j)).item := fun j => by
    have := h.round j
    rw [hal] at this
    rw [hnI5, this]
  have hMJ : ∀ i, i ≤ k → hnM b fr (upd s.M 5 1) (all + i) = hnM b fr (upd s.M 5 1) all := fun i => by
    induction i with
    | zero => intro _; rfl
    | succ i ih =>
      intro hi
      exact (hnM_s0 (J := all + i) ((hrd i).trans (hb i (by omega)))).trans (ih (by omega))
  have hCJ : ∀ i, i ≤ k → hnC b fr (upd s.M 5 1) (all + i) = hnC b fr (upd s.M 5 1) all + i := fun i => by
    induction i with
    | zero => intro _; rfl
    | succ i ih =>
      intro hi
      have := (hnC_s0 (b := b) (h := fr) (M := upd s.M 5 1) (J := all + i) ((hrd i).trans (hb i (by omega)))).trans (congrArg (· + 1) (ih (by omega)))
      exact this
  obtain ⟨c, x, hc, hgo, hx⟩ := H0.scan hIb (all + k) (by omega) fun j hj => by
    rcases Nat.lt_or_ge j all with q | q
    · rw [hnI5]
      by_cases q2 : s.M (plAt b (fr + j)).item = 0
      · exact .inl q2
      · right; rw [here j (by omega) q2]; exact (ho j (by omega)).resolve_left q2
    · left
      have := hrd (j - all)
      rw [show all + (j - all) = j by omega] at this
      rw [this]
      exact hb _ (by omega)
  have hin := h.in all (by omega) k (by omega) hz
  obtain ⟨y, z, hgo2, z0, z1, z2, z3, z4, z5, -, -⟩ := hx.found hIb (by rw [hrd]; exact hz) (by
    rw [hrd, hMJ k (Nat.le_refl _), hin]
    have := (ho k hk).resolve_left hz
    omega)
  have hcc := hnC_le (b := b) (h := fr) (M := upd s.M 5 1) all
  rw [hCJ k (Nat.le_refl _)] at hc
  have hpp : plAt b (fr + ((all + k : Nat) : Int)) = plAt b (fr + k) := by have := h.round k; rw [hal] at this; exact this
  refine ⟨_, y, z, ((g1.trans hgo).trans hgo2).fin (m := most) (by omega) (by show (z.ln == 0) = true; rw [z0]; rfl), by omega, z0, ?_, ?_⟩
  · rw [hrd] at z4
    unfold evGot
    rw [if_pos ⟨z0, by rw [z4]; exact hz⟩, z4]
    unfold evSpot
    rw [z1, z2, z3, hpp]
  · rw [z5, hal]
    exact h.post (all + k) k all hk (by omega) (hMJ k (Nat.le_refl _)) hpp (by rw [show fr + ((all + k : Nat) : Int) + 1 = fr + k + 1 + plSpots b by omega, Int.add_emod_right])
/-- A hand that finds nothing. -/
theorem HfI.nothing {s : AW} (h : HfI b fr s.M) (hz : ∀ n : Nat, (n : Int) < plSpots b → s.M (plAt b (fr + n)).item = 0) (most : Nat) (hm : 7 * plSpots b + 20 ≤ most) :
    ∃ c y z, runN evOver evStep most (s, evNew) = (c, y, z) ∧ (c : Int) ≤ 6 * plSpots b + 11 ∧ z.ln = 0 ∧ z.ref = 0 ∧ y.M 5 = 0 ∧ y.M 6 = s.M 6 ∧ y.M 4 = fr := by
  have hs := plSpots_3 h.b0 h.b1
  obtain ⟨y1, r1, mw1, o1, g1, m1, n1, i1, u1⟩ := ev_start s
  rw [h.wd, h.hd] at g1
  obtain ⟨all, hall⟩ : ∃ all : Nat, (all : Int) = plSpots b := ⟨(plSpots b).toNat, by omega⟩
  have hal : (plSpots b).toNat = all := by omega
  have hI : ∀ j : Nat, j < 2 * all → hnI b fr (upd s.M 5 1) j = 0 := fun j hj => by
    rw [hnI5]
    rcases Nat.lt_or_ge j all with q | q
    · exact hz j (by omega)
    · have := h.round (j - all)
      rw [hal, show all + (j - all) = j by omega] at this
      rw [this]
      exact hz _ (by omega)
  have hIb : ∀ j : Nat, 0 ≤ hnI b fr (upd s.M 5 1) j ∧ hnI b fr (upd s.M 5 1) j ≤ 9223372036854775807 := fun j => by rw [hnI5]; have := h.it (fr + j); omega
  have H0 : HnAt b fr (upd s.M 5 1) s 0 (y1, ⟨4, b, fr, 0, r1, mw1, o1⟩) := ⟨rfl, rfl, rfl, rfl, m1, n1, i1, u1⟩
  obtain ⟨c, y, z, hc, hgo, z1, z2, z3, z4, z5, z6, z7, z8, z9⟩ := H0.none hIb (2 * all - 1) (by omega) fun j hj => .inl (hI j (by omega))
  rw [hnM_zero _ fun j hj => hI j (by omega)] at z6
  have hC : ∀ J, J ≤ 2 * all → hnC b fr (upd s.M 5 1) J = J := fun J => by
    induction J with
    | zero => intro _; rfl
    | succ J ih => intro hJ; unfold hnC; rw [if_pos (hI J (by omega)), ih (by omega)]
  rw [hC _ (by omega)] at hc
  have e1 : evStep (y, z) = (awNote 8 0 0 0 0 z.n (awStore 4 z.h y), ⟨12, z.t, z.h, z.n, z.ref, z.mw, z.o⟩) := by
    unfold evStep
    simp only [z1, z5]
    simp
  have e2 : evStep (awNote 8 0 0 0 0 z.n (awStore 4 z.h y), ⟨12, z.t, z.h, z.n, z.ref, z.mw, z.o⟩) = (awStore 5 0 (awNote 8 0 0 0 0 z.n (awStore 4 z.h y)), ⟨0, z.t, z.h, z.n, z.ref, z.mw, z.o⟩) := rfl
  have hg2 : Gos evOver evStep 2 (y, z) (awStore 5 0 (awNote 8 0 0 0 0 z.n (awStore 4 z.h y)), ⟨0, z.t, z.h, z.n, z.ref, z.mw, z.o⟩) := by
    refine ⟨by unfold evOver; rw [z1]; rfl, ?_⟩
    rw [e1]
    refine ⟨rfl, ?_⟩
    rw [e2]
    rfl
  refine ⟨_, _, _, ((g1.trans hgo).trans hg2).fin (m := most) (by omega) rfl, by omega, rfl, z5, ?_, ?_, ?_⟩
  · show upd (upd y.M 4 z.h) 5 0 5 = _
    rw [upd_same]
  · show upd (upd y.M 4 z.h) 5 0 6 = _
    rw [upd_other _ (by decide), upd_other _ (by decide), z6, upd_other _ (by decide)]
  · show upd (upd y.M 4 z.h) 5 0 4 = _
    rw [upd_other _ (by decide), upd_same, z3]
end
end Go.Proofs.YtlcibfpibklbdaaGreat
