/- Layer 23: a filled table with marks and a hand (nestboxlaw23.marked). -/
import Derived.Test.YtlcibfpibklbdaaGreatLW
import Derived.Test.YtlcibfpibklbdaaGreatMkP
namespace Go.Proofs.YtlcibfpibklbdaaGreat
set_option linter.unusedSimpArgs false
open Go.RowKit Go.Shelf
set_option linter.unusedVariables false
theorem byArg_len (z : Int) : (byArg z).length = 1 := rfl
def MarkPost (w : World) (F : Ful) (ml : List Int) (hand : Int) (e : Ending) (w' : World) : Prop :=
  ∃ B O s, e = .returned (.pointer (some ⟨B.p, 0, none⟩)) ∧ LW w w' O B ⟨fulB F, 8, 3, 1, 16⟩ s ∧ MkS (fulB F) F.ks ml hand s
def MkA (s1 : AW) (ml : List Int) (k : Nat) (s : AW) : Prop := s.M = mkM s1.M ml k ∧ s.nt = s1.nt ∧ s.n = s1.n + k
theorem MkA.more {s1 s : AW} {ml : List Int} {k : Nat} {z : Int} (h : MkA s1 ml k s) (hz : ml[k]? = some z) : MkA s1 ml (k + 1) (awStore (plRef ((k : Int) + 1)) z s) := by
  refine ⟨?_, h.2.1, ?_⟩
  · show upd s.M _ _ = _
    rw [h.1]
    conv => rhs; unfold mkM
    rw [List.getD_eq_getElem?_getD, hz]
    rfl
  · show s.n + 1 = _; rw [h.2.2]; omega
set_option maxHeartbeats 8000000 in
set_option maxRecDepth 100000 in
theorem c_marked {F : Ful} {v vm : Value} {ml : List Int} {hand : Int} {w : World} (h : FulAt w v F) (g : FulBd F) (hks : F.ks.length ≤ 40) (hly : F.ly.length ≤ 80) (hm : Arr w vm ml.length 1 (rowOf byArg ml)) (hml : ∀ z ∈ ml, 0 ≤ z ∧ z ≤ 255) (hl : ml.length ≤ 40) (h0 : 0 ≤ hand) (h1 : hand < 18446744073709551616) :
    Calls Tryz.prog 15 #[v, vm, .int .u64 hand] w (MarkPost w F ml hand) := by
  obtain ⟨am, cm, rfl, hcm, hmm⟩ := hm.shape
  have HM := Lib.hid hm
  have HML := Lib.hid hml
  have HW : Hid (∀ W, Below w.heap.size w W → Calls Tryz.prog 35 #[v] W (FulPost W F)) := Lib.hid fun W hb => c_FulWorld (h.below hb) g hks hly
  obtain ⟨vk, vl, vs, rfl, -, -, -⟩ := h.ex
  unfold MarkPost
  obtain ⟨b, hb⟩ : ∃ b, b = fulB F := ⟨_, rfl⟩
  unfold FulPost at HW
  rw [← hb] at HW ⊢
  unfold fulV at HW ⊢
  clear h g hm hml hks hly hb
  go_enter Tryz.func15, Tryz.ntmps15
  have hbox := fulBox (w := w) (F := F) (vk := vk) (vl := vl) (vs := vs) 26
  unfold fulC at hbox
  have y0 := hbox 0 _ rfl
  have y1 := hbox 1 _ rfl
  have y2 := hbox 2 _ rfl
  have y3 := hbox 3 _ rfl
  have y4 := hbox 4 _ rfl
  have y5 := hbox 5 _ rfl
  clear hbox
  go_wp2_with fail
  have hb0 := (Below.refl w.heap.size w).alloc (Nat.le_refl _) (.cells #[.int .u8 F.bi, vk, vl, .string F.ky, .int .u8 F.mo, vs] 26)
  refine (HW.out _ hb0).mono ?_
  rintro e w1 ⟨B, O1, s1, rfl, hP, hE, hS⟩
  have L1 : Hid (LW w w1 O1 B ⟨b, 8, 3, 1, 16⟩ s1) := Lib.hid (LW.from ⟨hP, hE⟩ hb0)
  have S1 := Lib.hid hS
  clear hP hE hS HW hb0 y0 y1 y2 y3 y4 y5
  go_upto_region 5 with fail
  go_loopw [8] (fun iv wr => ∃ (k : Nat) (G : Om) (s : AW), iv = .int .i64 k ∧ k ≤ ml.length ∧ LW w wr G B ⟨b, 8, 3, 1, 16⟩ s ∧ MkA s1 ml k s) (fun iv _ => ml.length - (intOf iv).toNat)
  case atStart => exact ⟨0, O1, s1, rfl, Nat.zero_le _, L1.out, rfl, rfl, by omega⟩
  case round =>
    clear L1
    obtain ⟨k, O2, s, rfl, hk, hL, hA⟩ := hrel
    have L2 := Lib.hid hL
    have A2 := Lib.hid hA
    have q0 := hL.p.wo.c0
    have hn : 0 ≤ s.n ∧ s.n ≤ 2000 := by have := hA.2.2; have := S1.out.n0; have := S1.out.n1; omega
    clear hL hA
    by_cases hk2 : k < ml.length
    · obtain ⟨A, o, c', he, -, -, hlt, hx⟩ := HM.out.open (by omega) (by omega)
      cases he
      obtain ⟨z, hz⟩ : ∃ z, z = ml[k] := ⟨_, rfl⟩
      have hr0 : (rowOf byArg ml)[k]? = (byArg z)[0]? := by rw [hz]; have := rowOf_get byArg_len ml k 0 hk2 (by omega); rw [Nat.mul_one] at this; exact this
      have hc0 := hx _ _ hr0
      have v0 : wr.cell? ⟨A, o + k, none⟩ = some (.int .u8 z) := (L2.out.bel.cell (p := ⟨A, o + k, none⟩) hlt).trans hc0
      have HC0 := Lib.hid hc0
      have hzb := HML.out z (by rw [hz]; exact List.getElem_mem _)
      have HZ : Hid (ml[k]? = some z) := Lib.hid (by rw [hz]; exact List.getElem?_eq_getElem hk2)
      obtain ⟨rf, hrf⟩ : ∃ rf, rf = plRef ((k : Int) + 1) := ⟨_, rfl⟩
      have hrb : 0 ≤ rf ∧ rf < 18446744073709551616 := by rw [hrf]; unfold plRef; rw [if_neg (by omega)]; omega
      have hwk : IntKind.i64.wrap ((k : Int) + 1) = (k : Int) + 1 := by simp [IntKind.wrap, IntKind.bits, IntKind.signed]; omega
      have hwz : IntKind.u64.wrap z = z := by simp [IntKind.wrap, IntKind.bits, IntKind.signed]; omega
      have HR : Hid (∀ W, Calls Tryz.prog 26 #[.int .i64 (IntKind.i64.wrap ((k : Int) + 1))] W fun e w' => e = .returned (.int .u64 rf) ∧ W = w') := Lib.hid fun W => by have := c_Ref ((k : Int) + 1) W (by omega) (by omega); rw [← hrf] at this; rw [hwk]; exact this
      have HS : Hid (Calls Tryz.prog 39 #[.pointer (some ⟨B.c, 0, none⟩), .int .u64 rf, .int .u64 (IntKind.u64.wrap z)] wr.drew (RP SW wr.drew O2 (.int .u64 (s.M rf)) fun W G => PW W G B ⟨b, 8, 3, 1, 16⟩ (awStore rf z s))) := Lib.hid (by rw [hwz]; exact c_StoreP rf z (w := wr.drew) (L2.out.p.below L2.out.hi (drew_below wr)) (fun j hj => L2.out.hi j hj) hrb.1 hrb.2 (by omega) (by omega) hn.1 (by omega))
      have HD : Hid (LW w wr.drew O2 B ⟨b, 8, 3, 1, 16⟩ s) := Lib.hid (L2.out.below (drew_below wr))
      have A3 : Hid (MkA s1 ml (k + 1) (awStore rf z s)) := Lib.hid (by rw [hrf]; exact A2.out.more HZ.out)
      have RF := Lib.hid hrf
      clear hx hr0 hc0 hz hrf hwk hwz
      go_wp2_with fail
      go_region_held3 (fun w' => w'.cell? ⟨B.p, 0, none⟩ = some (.pointer (some ⟨B.c, 0, none⟩)) ∧ w'.cell? ⟨A, o + k, none⟩ = some (.int .u8 z)) (go_keep)
        ((first
          | (go_at_call 26
             refine (HR.out _).mono ?_
             rintro e w' ⟨rfl, rfl⟩)
          | (go_at_call 39
             refine HS.out.mono ?_
             rintro e w6 ⟨rfl, O6, e6, P6⟩
             have L6 := Lib.hid (HD.out.to e6 P6)
             have q06 := L6.out.p.wo.c0
             have v06 : w6.cell? ⟨A, o + k, none⟩ = some (.int .u8 z) := (L6.out.bel.cell (p := ⟨A, o + k, none⟩) hlt).trans HC0.out
             clear e6 P6)))
      all_goals
        go_wp2_with fail
        go_roundw
        case rel => exact ⟨k + 1, O6, _, by go_num, by omega, L6.out, A3.out⟩
        case measure => simp [intOf]; omega
    · have hke : k = ml.length := by omega
      subst hke
      have HS := Lib.hid (c_StoreP 4 hand L2.out.p L2.out.hi (by decide) (by decide) h0 h1 hn.1 (by omega))
      go_wp2_with fail
      refine HS.out.mono ?_
      rintro e w6 ⟨rfl, O6, e6, P6⟩
      go_wp2_with fail
      go_ret
      refine ⟨B, O6, _, rfl, L2.out.to e6 P6, MkS.of S1.out ?_ ?_ ?_ hl⟩
      · show upd s.M 4 hand = _; rw [A2.out.1]
      · exact A2.out.2.1
      · show s.n + 1 = _; rw [A2.out.2.2]
end Go.Proofs.YtlcibfpibklbdaaGreat
