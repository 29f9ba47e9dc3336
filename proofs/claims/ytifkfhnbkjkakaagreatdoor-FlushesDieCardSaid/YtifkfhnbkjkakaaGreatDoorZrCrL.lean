/- Layer 26: one key's changes by themselves, as calls. -/
import Derived.Test.YtifkfhnbkjkakaaGreatDoorZrCg9
import Derived.Test.YtifkfhnbkjkakaaGreatDoorZrSI
import Derived.Test.YtifkfhnbkjkakaaGreatDoorZrSH
import Derived.Test.YtifkfhnbkjkakaaGreatDoorZrSD1
namespace Go.Proofs.YtifkfhnbkjkakaaGreatDoor
set_option linter.unusedSimpArgs false
set_option linter.unusedVariables false
open Go.RowKit
theorem it_one {l : List It} {x : It} (h : l.length = 1) (h1 : itAt l 1 = x) : l = [x] := by
 match l, h with
 | [y], _ => rw [show y = x from h1]
theorem itAt_in {l : List It} {x : It} {n : Nat} (h : l.length = n) (n1 : 1 ≤ n) (h1 : itAt l n = x) : x ∈ l := by
 obtain ⟨i, hi, -⟩ := itAt_ok (l := l) (r := (n : Int)) (by omega) (by omega)
 rw [h1] at hi
 exact List.mem_of_getElem? hi
theorem chV_run {t : Nat} {c : Clm} : ∀ (m : Nat) (z : AW × Chm), ChV z → (∃ N, goodN chOver (chStep t c) (fun y => chPre c y.1 y.2) N z = true) → ChV (runN chOver (chStep t c) m z).2
 | 0, z, h, _ => h
 | m + 1, z, h, hg => by
   cases ho : chOver z.2 with
   | true => rw [runN_over (m + 1) z ho]; exact h
   | false =>
     obtain ⟨N, hN⟩ := hg
     obtain ⟨hp, M, h4⟩ := goodN_step hN ho
     rw [runN_on m z ho]
     refine chV_run m (chStep t c z) (h.step fun e5 => ?_) ⟨M, h4⟩
     unfold chPre at hp
     rw [Bool.and_eq_true] at hp
     have hp := hp.2
     rw [e5] at hp
     have hp : (decide (1 ≤ z.2.ref ∧ z.2.ref ≤ z.1.it.length) && (spB z.2.p && decide (z.1.it.length < 1000000))) = true := hp
     rw [Bool.and_eq_true, decide_eq_true_eq] at hp
     exact hp.1
theorem chGiv_id {c : Clm} {x : It} {ep id : Int} (hv : c.verb ≠ 7) (hx : x.id ≠ 0) (hi : id ≠ 0) : (chGiv c x ep id).it.id ≠ 0 := by
 unfold chGiv
 split
 · exact hx
 · split
   · exact hx
   · split
     · exact hx
     · exact hi
theorem chGiv_dr {c : Clm} {x : It} {ep id : Int} : (chGiv c x ep id).dr ≤ 1 := by
 unfold chGiv
 split
 · exact Nat.zero_le _
 · split
   · exact Nat.zero_le _
   · split
     · exact Nat.zero_le _
     · split
       · exact Nat.zero_le _
       · exact Nat.le_refl _
section
variable {w : World} {O : Om} {B : Wb} {f : Cf} {s : AW} {key : ByteArray} {p : Spt} {T : Tab} {n i q : Nat} {x : It}
theorem c_KeDoes (H : KeS 3 key s p T n x i q) (hP : PW w O B f s) (hV : Va w O) (hhi : ∀ j, O j ≠ 0 → j < w.heap.size) (t : Nat) (ht : t < 64) (c : Clm) (hck : c.key = key) (hv : c.verb = 8 ∨ c.verb = 9 ∨ c.verb = 10) (hok : kyOk key = true) (hkz : key.size ≤ maxLen) (hex : -9223372036854775808 ≤ c.exp ∧ c.exp ≤ 9223372036854775807) (hby : 0 ≤ c.by_ ∧ c.by_ < 18446744073709551616) (hi : i < 1000000) (hn : n < 1000000) (hq : q ≤ 100000) (hvl : ∀ y ∈ s.it, y.val.size ≤ maxLen) :
 ∃ (s' : AW) (T' : Tab) (n' : Nat), KeS 3 key s' p T' n' (chGiv c x (s.M 8) (i + 1)).it (i + (chGiv c x (s.M 8) (i + 1)).dr) (q + 1) ∧ n ≤ n' ∧ n' ≤ n + 1 ∧ s'.M 8 = s.M 8 ∧ (∀ y ∈ s'.it, y.val.size ≤ maxLen) ∧
  Calls Tryz.prog 10 #[.pointer (some ⟨B.p, 0, none⟩), .int .i64 t, clV c] w (RP (SX 10 41) w O (ansV (chGiv c x (s.M 8) (i + 1)).an (chGiv c x (s.M 8) (i + 1)).nu) fun W G => PW W G B f s') := by
 obtain ⟨m, s', z', T', n', r1, o1, an1, nu1, K', h1, h2, h3⟩ := ke_step H t c hck (by omega) hi
 have hI : ChI c 3 s chNew := ChI.new hP.bd (by rw [H.len]; exact hn) (by decide) (by decide) H.sw.wd
 have hcv := chV_run (t := t) (c := c) 200000 (s, chNew) ⟨hvl, fun e => by cases e⟩ ⟨200000, hI.goodR r1 o1⟩
 rw [r1] at hcv
 have a0 := H.n0
 have a1 := H.n1
 have hm : chMay c = true := by
  unfold chMay vbIs
  rw [hck, hok, decide_eq_true (by omega)]
  rfl
 have h := c_DoesC hI r1 o1 hP hV ht hm hex hby (by rw [hck]; exact hkz) hvl hhi H.n0 (by omega)
 rw [an1, nu1] at h
 exact ⟨s', T', n', K', h1, h2, h3, hcv.1, h⟩
theorem c_DelDoes (H : KeS 3 key s p T n x i q) (hP : PW w O B f s) (hV : Va w O) (hhi : ∀ j, O j ≠ 0 → j < w.heap.size) (t : Nat) (ht : t < 64) (c : Clm) (hck : c.key = key) (hv : c.verb = 7) (hok : kyOk key = true) (hkz : key.size ≤ maxLen) (hex : c.exp = 0) (hby : c.by_ = 0) (hn : n < 1000000) (hq : q ≤ 100000) (hvl : ∀ y ∈ s.it, y.val.size ≤ maxLen) (hal : epAlive x.dies x.gen (s.M 8) = true) :
 ∃ (s' : AW) (T' : Tab), Sw 3 s' T' ∧ (∀ q u, ¬ Stand1 3 s'.it T' key q u) ∧ s'.M 6 = 0 ∧ s'.M 0 = s'.M 1 ∧ s'.nt = [] ∧ s'.it = s.it ∧ 0 ≤ s'.n ∧ s'.n ≤ 60 * (q + 1) ∧
  Calls Tryz.prog 10 #[.pointer (some ⟨B.p, 0, none⟩), .int .i64 t, clV c] w (RP (SX 10 41) w O (ansV 6 0) fun W G => PW W G B f s') := by
 obtain ⟨m, s', z', T', r1, o1, an1, nu1, S', A', m6, m0, nt, hit, n0', n1'⟩ := ke_del H t c hck hv hal
 have hI : ChI c 3 s chNew := ChI.new hP.bd (by rw [H.len]; exact hn) (by decide) (by decide) H.sw.wd
 have a0 := H.n0
 have a1 := H.n1
 have hm : chMay c = true := by
  unfold chMay vbIs
  rw [hck, hok, decide_eq_true (by omega)]
  rfl
 have h := c_DoesC hI r1 o1 hP hV ht hm (by rw [hex]; decide) (by rw [hby]; decide) (by rw [hck]; exact hkz) hvl hhi H.n0 (by omega)
 rw [an1, nu1] at h
 exact ⟨s', T', S', A', m6, m0, nt, hit, n0', n1', h⟩
theorem c_NoDoes (S : Sw 3 s T) (h01 : s.M 0 = s.M 1) (A : ∀ q u, ¬ Stand1 3 s.it T key q u) (hP : PW w O B f s) (hV : Va w O) (hhi : ∀ j, O j ≠ 0 → j < w.heap.size) (t : Nat) (ht : t < 64) (c : Clm) (hck : c.key = key) (hv : c.verb = 7 ∨ c.verb = 8 ∨ c.verb = 9 ∨ c.verb = 10) (hok : kyOk key = true) (hkz : key.size ≤ maxLen) (hex : c.exp = 0) (hby : c.by_ = 0) (hn : s.it.length < 1000000) (n0 : 0 ≤ s.n) (n1 : s.n ≤ 100000000) (hvl : ∀ y ∈ s.it, y.val.size ≤ maxLen) :
 ∃ (s' : AW), s'.M 6 = s.M 6 ∧ s'.nt = s.nt ∧
  Calls Tryz.prog 10 #[.pointer (some ⟨B.p, 0, none⟩), .int .i64 t, clV c] w (RP (SX 10 41) w O (ansV 4 0) fun W G => PW W G B f s') := by
 obtain ⟨m, s', z', h1, h2, h3, h4, h5, h6, h7, h8⟩ := ch_misses S t c h01 (by rw [hck]; exact A)
 have hI : ChI c 3 s chNew := ChI.new hP.bd hn (by decide) (by decide) S.wd
 have hm : chMay c = true := by
  unfold chMay vbIs
  rw [hck, hok, decide_eq_true (by omega)]
  rfl
 have h := c_DoesC hI (h2.fin (by omega) h3) h3 hP hV ht hm (by rw [hex]; decide) (by rw [hby]; decide) (by rw [hck]; exact hkz) hvl hhi n0 (by omega)
 rw [h4, h5] at h
 exact ⟨s', h6.m6, h6.nt, h⟩
theorem c_DeadDoes (H : KeS 3 key s p T n x i q) (hP : PW w O B f s) (hV : Va w O) (hhi : ∀ j, O j ≠ 0 → j < w.heap.size) (t : Nat) (ht : t < 64) (c : Clm) (hck : c.key = key) (hv : c.verb = 7 ∨ c.verb = 8 ∨ c.verb = 9 ∨ c.verb = 10) (hok : kyOk key = true) (hkz : key.size ≤ maxLen) (hex : c.exp = 0) (hby : c.by_ = 0) (hn : n < 1000000) (hq : q ≤ 100000) (hvl : ∀ y ∈ s.it, y.val.size ≤ maxLen) (hal : epAlive x.dies x.gen (s.M 8) = false) :
 ∃ (s' : AW), KeS 3 key s' p T n x i (q + 1) ∧
  Calls Tryz.prog 10 #[.pointer (some ⟨B.p, 0, none⟩), .int .i64 t, clV c] w (RP (SX 10 41) w O (ansV 4 0) fun W G => PW W G B f s') := by
 obtain ⟨m, s', z', r1, o1, an1, nu1, K', -⟩ := ke_dead H t c hck hal
 have hI : ChI c 3 s chNew := ChI.new hP.bd (by rw [H.len]; exact hn) (by decide) (by decide) H.sw.wd
 have a0 := H.n0
 have a1 := H.n1
 have hm : chMay c = true := by
  unfold chMay vbIs
  rw [hck, hok, decide_eq_true (by omega)]
  rfl
 have h := c_DoesC hI r1 o1 hP hV ht hm (by rw [hex]; decide) (by rw [hby]; decide) (by rw [hck]; exact hkz) hvl hhi H.n0 (by omega)
 rw [an1, nu1] at h
 exact ⟨s', K', h⟩
end
end Go.Proofs.YtifkfhnbkjkakaaGreatDoor
