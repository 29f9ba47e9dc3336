/- SameAll of a pair that has no notes. -/
import Derived.Test.YtijifjiehldcaaaGreatSa
namespace Go.Proofs.YtijifjiehldcaaaGreat
set_option linter.unusedSimpArgs false
open Go.RowKit
set_option linter.unusedVariables false

theorem c_NClip0 (w : World) : Calls Tryz.prog 158 #[.slice none 0 0] w fun e w' => e = .returned (.slice none 0 0) ∧ w = w' := by
  go_enter Tryz.func158, Tryz.ntmps158
  go_wp2
  go_ret
  exact ⟨rfl, rfl⟩
theorem c_NPicked0 (h : Nat) (ao : Option Addr) (c : Nat) (F : Value) (w : World) (hc : w.cell? ⟨h, 0, none⟩ = some (.slice ao 0 c)) :
    Calls Tryz.prog 144 #[.pointer (some ⟨h, 0, none⟩), F] w fun e w' => e = .returned (.slice none 0 0) ∧ w = w' := by
  have hn : Calls Tryz.prog 106 #[.pointer (some ⟨h, 0, none⟩)] w fun e w' => e = .returned (.slice ao 0 c) ∧ w = w' := by
    go_enter Tryz.func106, Tryz.ntmps106
    go_wp2
    go_ret
    exact ⟨rfl, rfl⟩
  go_enter Tryz.func144, Tryz.ntmps144
  go_wp2_with (go_at_call 106; refine hn.mono ?_; rintro e w' ⟨rfl, rfl⟩)
  refine wp_loop_rounds 1 ?_
  rw [rounds_succ]
  go_wp2_with (go_at_call 158; refine (c_NClip0 _).mono ?_; rintro e w1 ⟨rfl, rfl⟩)
  go_ret
  exact ⟨rfl, rfl⟩
theorem c_NSince0 (h : Nat) (ao : Option Addr) (c : Nat) (a : Int) (w : World) (hl : h < w.heap.size) (hc : w.cell? ⟨h, 0, none⟩ = some (.slice ao 0 c)) :
    Calls Tryz.prog 108 #[.pointer (some ⟨h, 0, none⟩), .int .i64 a] w fun e w' => e = .returned (.slice none 0 0) ∧ Below w.heap.size w w' := by
  have hc2 : ∀ o, (w.alloc o).cell? ⟨h, 0, none⟩ = some (.slice ao 0 c) := fun o => (((Below.refl w.heap.size w).alloc (Nat.le_refl _) o).cell (p := ⟨h, 0, none⟩) hl).trans hc
  go_enter Tryz.func108, Tryz.ntmps108
  go_wp2_with (go_at_call 144; refine (c_NPicked0 h ao c _ _ (hc2 _)).mono ?_; rintro e w' ⟨rfl, rfl⟩)
  go_ret
  exact ⟨rfl, (Below.refl _ _).alloc (Nat.le_refl _) _⟩
theorem c_NAll0 (h : Nat) (ao : Option Addr) (c : Nat) (w : World) (hl : h < w.heap.size) (hc : w.cell? ⟨h, 0, none⟩ = some (.slice ao 0 c)) :
    Calls Tryz.prog 57 #[.pointer (some ⟨h, 0, none⟩)] w fun e w' => e = .returned (.slice none 0 0) ∧ Below w.heap.size w w' := by
  go_enter Tryz.func57, Tryz.ntmps57
  go_wp2_with (go_at_call 108; refine (c_NSince0 h ao c 0 _ hl hc).mono ?_; rintro e w' ⟨rfl, hb⟩)
  go_ret
  exact ⟨rfl, hb⟩
/-- What both hold at a number. -/
theorem at_both {w : World} {O : Om} {B C : Wb} {f : Cf} {s : AW} {m : Nat} (h : PR w O B C f s m) (hhi : ∀ j, O j ≠ 0 → j < w.heap.size) (hl : s.it.length ≤ 1000000) (r : Int) :
    ∃ (x : It) (b : Bool), ∀ w', Below w.heap.size w w' →
      (Calls Tryz.prog 58 #[.pointer (some ⟨B.ip, 0, none⟩), .int .i64 r] w' fun e w'' => e = .returned (.tuple #[.agg #[.string x.key, .string x.val, .int .u32 x.fl, .int .u64 x.id, .int .i64 x.dies, .int .i64 x.gen], .bool b]) ∧ Below w'.heap.size w' w'') ∧
      (Calls Tryz.prog 59 #[.pointer (some ⟨C.ip, 0, none⟩), .int .i64 r] w' fun e w'' => e = .returned (.tuple #[.agg #[.string x.key, .string x.val, .int .u32 x.fl, .int .u64 x.id, .int .i64 x.dies, .int .i64 x.gen], .bool b]) ∧ Below w'.heap.size w' w'') := by
  have hA := fun w' (hb : Below w.heap.size w w') => h.p.ar.ext (S := fun _ => False) (Ext.of_below hhi hb) id
  have hB := fun w' (hb : Below w.heap.size w w') => h.r.ar.ext (S := fun _ => False) (Ext.of_below hhi hb) id
  by_cases hr : 1 ≤ r ∧ r ≤ s.it.length
  · have hk : (r - 1).toNat < s.it.length := by omega
    exact ⟨s.it[(r - 1).toNat], true, fun w' hb => ⟨c_IAt_yes r (r - 1).toNat _ (hA w' hb) hl (List.getElem?_eq_getElem hk) (by omega), c_r6At_yes r (r - 1).toNat _ (hB w' hb) hl (List.getElem?_eq_getElem hk) (by omega)⟩⟩
  · exact ⟨it0, false, fun w' hb => ⟨c_IAt_no r (hA w' hb) hl hr, c_r6At_no r (hB w' hb) hl hr⟩⟩
set_option maxHeartbeats 4000000 in
set_option maxRecDepth 100000 in
theorem c_PSameAll {w : World} {O : Om} {B C : Wb} {f : Cf} {s : AW} {m : Nat} (h : PR w O B C f s m) (hhi : ∀ j, O j ≠ 0 → j < w.heap.size) (hm : m ≤ 1000000) (hnt : s.nt = []) (hl : s.it.length ≤ 1000000) :
    Calls Tryz.prog 20 #[.agg #[.pointer (some ⟨B.p, 0, none⟩), .pointer (some ⟨C.p, 0, none⟩)]] w fun e w' => e = .returned (.bool true) ∧ Below w.heap.size w w' := by
  obtain ⟨an, ar, cn, cr, hsm⟩ := h.sm
  have hsz : s.nt.length = 0 := by rw [hnt]; rfl
  have HS := Lib.hid hsm
  have HP := Lib.hid h
  have HH := Lib.hid hhi
  have HI := Lib.hid (at_both h hhi hl)
  have hb4 : B.np < w.heap.size := by obtain ⟨vn, hn, -⟩ := h.p.no.ex; exact hn.lt
  clear h hsm hhi hnt
  go_enter Tryz.func20, Tryz.ntmps20
  go_wp2_with fail
  obtain ⟨W1, hW1⟩ : ∃ W1, W1 = w.alloc (.cells #[.pointer (some ⟨B.p, 0, none⟩), .pointer (some ⟨C.p, 0, none⟩)] 34) := ⟨_, rfl⟩
  have y0 : W1.cell? ⟨w.heap.size, 0, none⟩ = some (.pointer (some ⟨B.p, 0, none⟩)) := by rw [hW1]; simp
  have y1 : W1.cell? ⟨w.heap.size, 1, none⟩ = some (.pointer (some ⟨C.p, 0, none⟩)) := by rw [hW1]; simp
  have hlt : w.heap.size < W1.heap.size := by rw [hW1]; simp
  have HB1 : Hid (Below w.heap.size w W1) := Lib.hid (by rw [hW1]; exact (Below.refl w.heap.size w).alloc (Nat.le_refl _) _)
  rw [← hW1]
  clear hW1
  have l1 : B.p < W1.heap.size := by have := HP.out.p.wo.lt; omega
  have l2 : C.p < W1.heap.size := by have := HP.out.r.wo.lt; omega
  have hP1 : Hid (∀ e : Later W1, Below w.heap.size w (via W1 e)) := Lib.hid fun e => HB1.out.trans ((via_below W1 e).mono HB1.out.size)
  have hhi1 : Hid (∀ e : Later W1, ∀ j, O j ≠ 0 → j < (via W1 e).heap.size) := Lib.hid fun e j hj => by have := HH.out j hj; have := (hP1.out e).size; omega
  have p0 := (HS.out _ HB1.out).p0
  have r0 := (HS.out _ HB1.out).r0
  refine wp_region_via (by kernel_rfl) (by kernel_rfl) ?_
  repeat (go_big_quiet_step ((first
    | (go_at_call 19; exact viaB (c_PSame (HP.out.below HH.out (hP1.out _)) (hhi1.out _) hm))
    | (go_at_call 56; exact viaB (c_Same5 (Ce.below (F := fun j => O j = 2) HP.out.p.ce (hP1.out _)) (HP.out.r.ce.below (hP1.out _)) hm)))))
  refine wpQuiet_nil ?_
  rintro _ ⟨e, rfl⟩
  have HB2 : Hid (Below w.heap.size w (via W1 e)) := Lib.hid (hP1.out e)
  have z0 := (cell?_via W1 e w.heap.size 0 hlt).trans y0
  have z1 := (cell?_via W1 e w.heap.size 1 hlt).trans y1
  have hlt2 : w.heap.size < (via W1 e).heap.size := Nat.lt_of_lt_of_le hlt (via_size W1 e)
  obtain ⟨W2, hW2⟩ : ∃ W2, W2 = via W1 e := ⟨_, rfl⟩
  rw [← hW2] at HB2 z0 z1 hlt2 ⊢
  clear hW2 y0 y1 p0 r0 hP1 hhi1 HB1 l1 l2 hlt
  obtain ⟨p0, p1, p2, -, -, r0, r1, r2, -, -, -, -, -, -, n0, m0⟩ := HS.out _ HB2.out
  rw [hsz] at n0 m0
  go_wp2_with fail
  refine (c_NAll0 B.np an cn W2 (by omega) n0).mono ?_
  rintro e w3 ⟨rfl, hb3⟩
  have HB3 : Hid (Below w.heap.size w w3) := Lib.hid (HB2.out.trans (hb3.mono HB2.out.size))
  have y0 := (hb3.cell (p := ⟨w.heap.size, 0, none⟩) hlt2).trans z0
  have y1 := (hb3.cell (p := ⟨w.heap.size, 1, none⟩) hlt2).trans z1
  have hlt3 : w.heap.size < w3.heap.size := Nat.lt_of_lt_of_le hlt2 hb3.size
  clear hb3 z0 z1 p0 p1 p2 r0 r1 r2 n0 m0 HB2 hlt2
  obtain ⟨p0, p1, p2, -, -, r0, r1, r2, -, -, -, -, -, -, n0, m0⟩ := HS.out _ HB3.out
  rw [hsz] at n0 m0
  go_wp2_with fail
  refine wp_loop_rounds 1 ?_
  rw [rounds_succ]
  go_wp2_with fail
  clear p0 p1 p2 r0 r1 r2 n0 m0
  go_loopw [6] (fun i wr => ∃ k : Nat, k ≤ s.it.length + 2 ∧ i = .int .i64 k ∧ Below w.heap.size w wr ∧ w.heap.size < wr.heap.size ∧ wr.cell? ⟨w.heap.size, 0, none⟩ = some (.pointer (some ⟨B.p, 0, none⟩)) ∧ wr.cell? ⟨w.heap.size, 1, none⟩ = some (.pointer (some ⟨C.p, 0, none⟩)))
    (fun i _ => s.it.length + 2 - (intOf i).toNat)
  case atStart => exact ⟨0, Nat.zero_le _, rfl, HB3.out, hlt3, y0, y1⟩
  case round =>
    clear HB3 hlt3 y0 y1
    obtain ⟨k, hk, rfl, hb, hlt, y0, y1⟩ := hrel
    have HB := Lib.hid hb
    clear hb
    obtain ⟨p0, p1, -, -, -, r0, r1, -, -, -, -, -, -, -, -, -⟩ := HS.out _ HB.out
    go_wp2_with fail
    refine (c_r6Count (HP.out.r.ar.ext (S := fun _ => False) (Ext.of_below HH.out HB.out) id)).mono ?_
    rintro e w' ⟨rfl, rfl⟩
    by_cases hk2 : k ≤ s.it.length + 1
    · have ht : decide ((k : Int) ≤ (s.it.length : Int) + 1) = true := by simp; omega
      obtain ⟨x, b, hx⟩ := HI.out k
      have HX := Lib.hid hx
      clear hx
      go_wp2_with fail
      refine ((HX.out wr HB.out).1).mono ?_
      rintro e w4 ⟨rfl, hb4'⟩
      have HB4 : Hid (Below w.heap.size w w4) := Lib.hid (HB.out.trans (hb4'.mono HB.out.size))
      have z0 := (hb4'.cell (p := ⟨w.heap.size, 0, none⟩) hlt).trans y0
      have z1 := (hb4'.cell (p := ⟨w.heap.size, 1, none⟩) hlt).trans y1
      have hlt4 : w.heap.size < w4.heap.size := Nat.lt_of_lt_of_le hlt hb4'.size
      clear hb4' y0 y1 p0 p1 r0 r1
      obtain ⟨p0, p1, -, -, -, r0, r1, -, -, -, -, -, -, -, -, -⟩ := HS.out _ HB4.out
      have l2 : C.p < w4.heap.size := by have := HP.out.r.wo.lt; omega
      go_wp2_with fail
      refine ((HX.out _ (HB4.out.alloc (by omega) _)).2).mono ?_
      rintro e w5 ⟨rfl, hb5⟩
      have HB5 : Hid (Below w.heap.size w w5) := Lib.hid ((HB4.out.alloc (by omega) _).trans (hb5.mono (by simp; omega)))
      have y0 : w5.cell? ⟨w.heap.size, 0, none⟩ = some (.pointer (some ⟨B.p, 0, none⟩)) := (hb5.cell (p := ⟨w.heap.size, 0, none⟩) (by simp; omega)).trans ((((Below.refl w4.heap.size w4).alloc (Nat.le_refl _) _).cell (p := ⟨w.heap.size, 0, none⟩) hlt4).trans z0)
      have y1 : w5.cell? ⟨w.heap.size, 1, none⟩ = some (.pointer (some ⟨C.p, 0, none⟩)) := (hb5.cell (p := ⟨w.heap.size, 1, none⟩) (by simp; omega)).trans ((((Below.refl w4.heap.size w4).alloc (Nat.le_refl _) _).cell (p := ⟨w.heap.size, 1, none⟩) hlt4).trans z1)
      have v0 := (hb5.cell (p := ⟨w4.heap.size, 0, none⟩) (by simp))
      have v1 := (hb5.cell (p := ⟨w4.heap.size, 1, none⟩) (by simp))
      have v2 := (hb5.cell (p := ⟨w4.heap.size, 2, none⟩) (by simp))
      have v3 := (hb5.cell (p := ⟨w4.heap.size, 3, none⟩) (by simp))
      have v4 := (hb5.cell (p := ⟨w4.heap.size, 4, none⟩) (by simp))
      have v5 := (hb5.cell (p := ⟨w4.heap.size, 5, none⟩) (by simp))
      have hl5 : w4.heap.size < w5.heap.size := Nat.lt_of_lt_of_le (by simp) hb5.size
      simp at v0 v1 v2 v3 v4 v5
      clear hb5 z0 z1 p0 p1 r0 r1
      go_wp2_with fail
      go_roundw
      case rel => exact ⟨k + 1, by omega, by go_num, HB5.out.alloc (by omega) _, by simp; omega, (((Below.refl w5.heap.size w5).alloc (Nat.le_refl _) _).cell (p := ⟨w.heap.size, 0, none⟩) (show w.heap.size < w5.heap.size by omega)).trans y0, (((Below.refl w5.heap.size w5).alloc (Nat.le_refl _) _).cell (p := ⟨w.heap.size, 1, none⟩) (show w.heap.size < w5.heap.size by omega)).trans y1⟩
      case measure => simp [intOf]; omega
    · have ht : decide ((k : Int) ≤ (s.it.length : Int) + 1) = false := by simp; omega
      clear p0 p1 r0 r1
      go_wp2_with fail
      go_ret
      exact ⟨rfl, HB.out⟩
end Go.Proofs.YtijifjiehldcaaaGreat
