/- Layer 27: FlushesDie's adds, touches, ticks and its Flush, with all that they keep. -/
import Derived.Test.YtifkfhnbkjkakaaGreatDoorZrSP
namespace Go.Proofs.YtifkfhnbkjkakaaGreatDoor
set_option linter.unusedSimpArgs false
open Go.RowKit
set_option linter.unusedVariables false
/-- An add that may be. -/
structure ClAdd (c : Clm) : Prop where
  v : c.verb = 4
  x : c.exp = 0
  ok : kyOk c.key = true
  m : mayB c = true
  kz : c.key.size ≤ maxLen
  vz : c.val.size ≤ maxLen
/-- What stands: the calls that stored, the Gen of each key, the epoch. -/
structure FdD (s : AW) (T : Tab) (L : List Clm) (G : ByteArray → Int) (q : Nat) (ep : Int) : Prop where
  d : DiS s T (L.map fun c => c.key) G q
  v : ItV s
  m : s.M 8 = ep
  ok : ∀ c ∈ L, ClAdd c
theorem FdD.zero : FdD (aw0 3) (fun _ => (0, 0)) [] (fun _ => 0) 0 0 := by
  have hM : ∀ a, a ≠ 2 → (aw0 3).M a = 0 := fun a h => by show upd (fun _ => 0) 2 (plWord 3 0) a = 0; rw [upd_other _ h]
  refine ⟨⟨sw_new (by decide) (by decide), (fun k hk => by cases hk), fun l p r h => ?_, List.nodup_nil, hM 6 (by decide), (hM 0 (by decide)).trans (hM 1 (by decide)).symm, rfl, Nat.le_refl _, Int.le_refl _, Int.le_refl _⟩, (fun y hy => by cases hy), hM 8 (by decide), (fun c hc => by cases hc)⟩
  have h1 := h.rf
  have := fdHit_pos h.hit
  have h1 : (0 : Int) = r := h1
  omega
section
variable {w : World} {O : Om} {B : Wb} {s : AW} {T : Tab} {L : List Clm} {G : ByteArray → Int} {q : Nat} {ep : Int} {c : Clm}
theorem FdD.mono (H : FdD s T L G q ep) {q' : Nat} (hq : q ≤ q') : FdD s T L G q' ep := by
  have h1 := H.d.n1
  have h2 := H.d.il
  exact ⟨⟨H.d.sw, H.d.std, H.d.only, H.d.nd, H.d.cnt, H.d.tkt, H.d.nt, by omega, H.d.n0, by omega⟩, H.v, H.m, H.ok⟩
theorem FdD.tick (H : FdD s T L G q ep) : FdD (awTick s) T L G (q + 1) (epTick ep) := ⟨H.d.tick, H.v, by show upd s.M 8 (epTick (s.M 8)) 8 = epTick ep; rw [upd_same, H.m], H.ok⟩
/-- An add ahead of the Flush. -/
theorem FdD.add (H : FdD s T L (fun _ => 0) q 0) (hP : PW w O B ⟨3, 8, 3, 1, 16⟩ s) (hhi : ∀ j, O j ≠ 0 → j < w.heap.size) (hv : c.verb = 4) (hx : c.exp = 0) (hkz : c.key.size ≤ maxLen) (hvz : c.val.size ≤ maxLen) (hl : L.length ≤ 3) (hq : q ≤ 1000) :
    ∃ (an nu : Int) (s' : AW) (T' : Tab) (L' : List Clm), (an = 1 ∧ L' = L ++ [c] ∨ an ≠ 1 ∧ L' = L) ∧ FdD s' T' L' (fun _ => 0) (q + 1) 0 ∧ Calls Tryz.prog 18 #[.pointer (some ⟨B.p, 0, none⟩), .int .i64 1, clV c] w (RP (SX 10 41) w O (ansV an nu) fun W G => PW W G B ⟨3, 8, 3, 1, 16⟩ s') := by
  cases hm : mayB c with
  | false =>
    refine ⟨0, 0, s, T, L, .inr ⟨by decide, rfl⟩, H.mono (Nat.le_succ _), (c_DoesV B.p 1 c hm hkz hvz).mono ?_⟩
    rintro e w' ⟨rfl, hb⟩
    exact ⟨rfl, O, Ext.of_below hhi hb, hP.below hhi hb⟩
  | true =>
    have hok : kyOk c.key = true := by
      unfold mayB at hm
      simp only [Bool.and_eq_true] at hm
      exact hm.2.1
    have he : epGen 0 = 0 := by decide
    by_cases hk : c.key ∈ L.map fun c => c.key
    · obtain ⟨s', nu, h1, h2, h3, h4⟩ := c_DiNot H.d hP hhi (t := 1) (by decide) hv hm hx hkz hvz hk (by rw [H.m]; exact he.symm) (by omega) H.v
      exact ⟨2, nu, s', T, L, .inr ⟨by decide, rfl⟩, ⟨h1, h3, h2.trans H.m, H.ok⟩, h4⟩
    · obtain ⟨s', T', nu, h1, h2, h3, h4⟩ := c_DiNew H.d hP hhi (t := 1) (by decide) hv hm hx hkz hvz hk (by rw [List.length_map]; exact hl) (by omega) H.v
      have hG : updG (fun _ => 0) c.key (epGen (s.M 8)) = fun _ => (0 : Int) := by
        funext l
        unfold updG
        rw [H.m, he, ite_self]
      rw [hG] at h1
      refine ⟨1, nu, s', T', L ++ [c], .inl ⟨rfl, rfl⟩, ⟨by rw [List.map_append]; exact h1, h3, h2.trans H.m, fun x hx' => ?_⟩, h4⟩
      rcases List.mem_append.1 hx' with h | h
      · exact H.ok x h
      · rw [List.mem_singleton] at h
        rw [h]
        exact ⟨hv, hx, hok, hm, hkz, hvz⟩
/-- A touch of what lives. -/
theorem FdD.touch (H : FdD s T L G q ep) (hbd : Bd s.M) (hc : c ∈ L) (hg : G c.key = epGen ep) (hq : q ≤ 100000) :
    ∃ (s' : AW) (T' : Tab), FdD s' T' L G (q + 1) ep ∧ ∀ {w : World} {O : Om} {B : Wb} {bx : Nat}, PW w O B ⟨3, 8, 3, 1, 16⟩ s → Va w O → Bx w O bx [PTR B.p] → (∀ j, O j ≠ 0 → j < w.heap.size) →
      Calls Tryz.prog 20 #[clV c, .pointer (some ⟨bx, 0, none⟩)] w (RP (SX 10 41) w O (.int .u8 7) fun W G => PW W G B ⟨3, 8, 3, 1, 16⟩ s') := by
  obtain ⟨m, s', z', T', h1, h2, h3, h4, h5, h6⟩ := di_touch H.d 3 ⟨8, c.key, ⟨#[]⟩, 0, 0, 0, 0⟩ rfl rfl (show c.key ∈ L.map fun c => c.key from List.mem_map_of_mem hc) (by rw [H.m]; exact hg)
  have hI := H.d.chi hbd (by omega) ⟨8, c.key, ⟨#[]⟩, 0, 0, 0, 0⟩
  have hcv := chV_run (t := 3) (c := ⟨8, c.key, ⟨#[]⟩, 0, 0, 0, 0⟩) 200000 (s, chNew) ⟨H.v, fun e => by cases e⟩ ⟨200000, hI.goodR h1 h2⟩
  rw [h1] at hcv
  have hm : chMay ⟨8, c.key, ⟨#[]⟩, 0, 0, 0, 0⟩ = true := by
    unfold chMay vbIs
    dsimp only
    rw [(H.ok c hc).ok]
    rfl
  refine ⟨s', T', ⟨h5, hcv.1, h6.trans H.m, H.ok⟩, fun hP hV hx hh => c_FdTouch (an := 7) (fun W G hP hV hh => ?_) hP hV hx hh⟩
  have a0 := H.d.n0
  have a1 := H.d.n1
  have h := c_DoesC hI h1 h2 hP hV (by decide) hm ⟨by show (-9223372036854775808 : Int) ≤ 0; decide, by show (0 : Int) ≤ 9223372036854775807; decide⟩ ⟨by show (0 : Int) ≤ 0; decide, by show (0 : Int) < 18446744073709551616; decide⟩ (H.ok c hc).kz H.v hh a0 (by omega)
  rw [h3, h4] at h
  exact h
/-- A touch of what is dead. -/
theorem FdD.dead (H : FdD s T L G q ep) (hbd : Bd s.M) (hc : c ∈ L) (hg : G c.key ≠ epGen ep) (hq : q ≤ 100000) :
    ∃ (s' : AW), FdD s' T L G (q + 1) ep ∧ ∀ {w : World} {O : Om} {B : Wb} {bx : Nat}, PW w O B ⟨3, 8, 3, 1, 16⟩ s → Va w O → Bx w O bx [PTR B.p] → (∀ j, O j ≠ 0 → j < w.heap.size) →
      Calls Tryz.prog 20 #[clV c, .pointer (some ⟨bx, 0, none⟩)] w (RP (SX 10 41) w O (.int .u8 4) fun W G => PW W G B ⟨3, 8, 3, 1, 16⟩ s') := by
  obtain ⟨m, s', z', h1, h2, h3, h4, h5, h6⟩ := di_dead H.d 3 ⟨8, c.key, ⟨#[]⟩, 0, 0, 0, 0⟩ (show c.key ∈ L.map fun c => c.key from List.mem_map_of_mem hc) (by rw [H.m]; exact hg)
  have hI := H.d.chi hbd (by omega) ⟨8, c.key, ⟨#[]⟩, 0, 0, 0, 0⟩
  have hcv := chV_run (t := 3) (c := ⟨8, c.key, ⟨#[]⟩, 0, 0, 0, 0⟩) 200000 (s, chNew) ⟨H.v, fun e => by cases e⟩ ⟨200000, hI.goodR h1 h2⟩
  rw [h1] at hcv
  have hm : chMay ⟨8, c.key, ⟨#[]⟩, 0, 0, 0, 0⟩ = true := by
    unfold chMay vbIs
    dsimp only
    rw [(H.ok c hc).ok]
    rfl
  refine ⟨s', ⟨h5, hcv.1, h6.trans H.m, H.ok⟩, fun hP hV hx hh => c_FdTouch (an := 4) (fun W G hP hV hh => ?_) hP hV hx hh⟩
  have a0 := H.d.n0
  have a1 := H.d.n1
  have h := c_DoesC hI h1 h2 hP hV (by decide) hm ⟨by show (-9223372036854775808 : Int) ≤ 0; decide, by show (0 : Int) ≤ 9223372036854775807; decide⟩ ⟨by show (0 : Int) ≤ 0; decide, by show (0 : Int) < 18446744073709551616; decide⟩ (H.ok c hc).kz H.v hh a0 (by omega)
  rw [h3, h4] at h
  exact h
/-- An add of what is dead. -/
theorem FdD.again (H : FdD s T L G q ep) (hP : PW w O B ⟨3, 8, 3, 1, 16⟩ s) (hhi : ∀ j, O j ≠ 0 → j < w.heap.size) (hc : c ∈ L) (hg : G c.key ≠ epGen ep) (hq : q ≤ 100000) :
    ∃ (s' : AW) (T' : Tab) (nu : Int), FdD s' T' L (updG G c.key (epGen ep)) (q + 1) ep ∧ Calls Tryz.prog 18 #[.pointer (some ⟨B.p, 0, none⟩), .int .i64 4, clV c] w (RP (SX 10 41) w O (ansV 1 nu) fun W G => PW W G B ⟨3, 8, 3, 1, 16⟩ s') := by
  have hA := H.ok c hc
  obtain ⟨s', T', nu, h1, h2, h3, h4⟩ := c_DiRepl H.d hP hhi (t := 4) (by decide) hA.v hA.m hA.x hA.kz hA.vz (List.mem_map_of_mem hc) (by rw [H.m]; exact hg) hq H.v
  rw [H.m] at h1
  exact ⟨s', T', nu, ⟨h1, h3, h2.trans H.m, H.ok⟩, h4⟩
/-- The Flush. -/
theorem FdD.flush (H : FdD s T L G q 0) (t : Nat) (d : Int) :
    ∃ (s' : AW) (e : Int), ((flRun t d 99 s).1 = 4 ∧ (flRun t d 99 s).2.1 = s' ∧ (flRun t d 99 s).2.2.an = 10 ∧ (flRun t d 99 s).2.2.ep = e ∧ (flRun t d 99 s).2.2.ln = 0) ∧ FdD s' T L G (q + 1) (epFlush 0 d) := by
  have hok : epFlushOk (s.M 8) = true := by rw [H.m]; decide
  have hi : (flRun t d 99 s).2.1.it = s.it := by
    rw [fl_run t d s H.d.tkt hok]
    dsimp only
    unfold awFlush
    rw [if_pos (show epFlushOk ((awServed t (awLoad 1 (awDraw t s))).M 8) = true by
      have : (awServed t (awLoad 1 (awDraw t s))).M 8 = s.M 8 := by show upd s.M 0 ((s.M 0 + 1) % 18446744073709551616) 8 = _; rw [upd_other _ (by decide)]
      rw [this]; exact hok)]
    rfl
  obtain ⟨h1, h2, h3, h4, h5⟩ := di_flush H.d t d hok
  rw [H.m] at h5
  exact ⟨_, _, ⟨h1, rfl, h2, rfl, h3⟩, h4, fun y hy => H.v y (hi ▸ hy), h5, H.ok⟩
theorem Va.fenv {w W : World} {G : Om} (h : Va w OZ) (E : Env w G W) : Va W G := by
  have hz : ∀ b, b < w.heap.size → G b = 0 := fun b hb => by
    by_cases c : G b = 0
    · exact c
    · exact absurd (E.base b c) (by omega)
  exact ⟨hz _ h.r1, Nat.lt_of_lt_of_le h.r1 E.bel.size, by obtain ⟨tp, p, hc⟩ := h.r; exact ⟨tp, p, (E.bel.cell (p := ⟨_, 0, none⟩) h.r1).trans hc⟩, hz _ h.t1, Nat.lt_of_lt_of_le h.t1 E.bel.size, tab_block h.t (E.bel.block _ h.t1)⟩
theorem FdS.shape {w0 W : World} {bx : Nat} {v : Value} (h : FdS w0 W O B s bx v L) : ∃ ao cc, v = .slice ao L.length cc := by
  obtain ⟨-, ao, cc, rfl, -⟩ := Arr.of_own h.m.own
  exact ⟨ao, cc, rfl⟩
end
end Go.Proofs.YtifkfhnbkjkakaaGreatDoor
