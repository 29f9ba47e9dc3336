/- Same and SameAll of a pair: Same of its cells. -/
import Derived.Test.YtijifjiehldcaaaGreatWs3
import Derived.Test.YtijifjiehldcaaaGreatPr
import Derived.Test.YtijifjiehldcaaaGreatMem
import Derived.Deep.RegionHeld3
import Derived.BigQuiet
import Derived.Deep.QuietTactic
import Derived.ChangeKeysEq
import Derived.Laws.StructEq
namespace Go.Proofs.YtijifjiehldcaaaGreat
set_option linter.unusedSimpArgs false
open Go.RowKit
set_option linter.unusedVariables false

def laV (la : La) : Value := .agg #[.int .u8 la.k, .int .u64 la.a, .int .u64 la.s, .int .u64 la.i]
set_option maxHeartbeats 2000000 in
set_option maxRecDepth 100000 in
theorem c_Same5 {w : World} {O : Om} {g c g2 r m : Nat} {M : Int → Int} {n : Int} {la : La} (h : CO w O g c M n la) (h2 : RC w O g2 r M n la m) (hm : m ≤ 1000000) :
    Calls Tryz.prog 56 #[.pointer (some ⟨c, 0, none⟩), .pointer (some ⟨r, 0, none⟩)] w fun e w' => e = .returned (.bool true) ∧ Below w.heap.size w w' := by
  obtain ⟨v, L, hris, hok, hlook, hlm, hob, hown, -⟩ := h2.ex
  have hW := c_Words h L hris hlook hok (by omega)
  have hArr := Arr.of_own hown
  obtain ⟨ao, cp, rfl, hc1, hc2⟩ := hArr.shape
  have hcl : c < w.heap.size := Ce.lts h _ (Ce.mem (F := fun j => O j = g) h)
  have hrl := hob.lt
  have hl : L.length ≤ 1000000 := by omega
  have HC := Lib.hid h
  have HO := Lib.hid hob
  have HA := Lib.hid hArr
  have HK := Lib.hid hok
  have HM := Lib.hid (fun x (hx : x ∈ L) => show M x.a = x.v by rw [← hlook]; exact rlook_mem hris hx)
  have e1 : (n != n) = false := by simp
  have e2 : (L.length != L.length) = false := by simp
  have e3 : decide ((L.length : Int) < (L.length : Int)) = false := by simp
  clear h h2 hris hok hlook hob hown hArr hlm
  go_enter Tryz.func56, Tryz.ntmps56
  go_wp2_with fail
  refine hW.mono ?_
  rintro e w1 ⟨v, rfl, hb, hv, hcs⟩
  have hz := hb.size
  have HC1 := Lib.hid (Ce.below (F := fun j => O j = g) HC.out hb)
  have d0 := (hb.cell (p := ⟨r, 0, none⟩) hrl).trans (HO.out.c 0 _ rfl)
  have d1 := (hb.cell (p := ⟨r, 1, none⟩) hrl).trans (HO.out.c 1 _ rfl)
  have d2 := (hb.cell (p := ⟨r, 2, none⟩) hrl).trans (HO.out.c 2 _ rfl)
  have d3 := (hb.cell (p := ⟨r, 3, none⟩) hrl).trans (HO.out.c 3 _ rfl)
  have d4 := (hb.cell (p := ⟨r, 4, none⟩) hrl).trans (HO.out.c 4 _ rfl)
  have d5 := (hb.cell (p := ⟨r, 5, none⟩) hrl).trans (HO.out.c 5 _ rfl)
  have hr1 : r < w1.heap.size := by omega
  have HB := Lib.hid hb
  have HV := Lib.hid hv
  obtain ⟨aw, hvv⟩ : ∃ aw, v = .slice aw L.length L.length := by
    rcases hcs with ⟨hL0, hv0⟩ | ⟨b, hv0, _⟩
    · exact ⟨none, by rw [hv0, hL0]; rfl⟩
    · exact ⟨_, hv0⟩
  subst hvv
  have HCS := Lib.hid hcs
  clear hW hb hv hcs
  go_wp2_with fail
  refine wp_region_via (by kernel_rfl) (by kernel_rfl) ?_
  repeat (go_big_quiet_step ((first | (go_at_call 105; exact viaS (c_CCount (Ce.below HC1.out (via_below _ _)))) | (go_at_call 52; exact viaB (c_Last (Ce.below HC1.out (via_below _ _)))))))
  refine wpQuiet_nil ?_
  rintro _ ⟨e, rfl⟩
  have HB2 : Hid (Below w.heap.size w (via w1 e)) := Lib.hid (HB.out.trans ((via_below w1 e).mono hz))
  have HV2 := Lib.hid (HV.out.below (via_below w1 e))
  have hz2 := via_size w1 e
  have HF2 : Hid (L = [] ∨ ∃ b, aw = some ⟨b, 0, none⟩ ∧ w.heap.size ≤ b ∧ b < (via w1 e).heap.size ∧ ∀ j, j < L.length * 2 → (via w1 e).frozen? ⟨b, j, none⟩ = false) := Lib.hid (by
    rcases HCS.out with ⟨hL0, hv0⟩ | ⟨b, hv0, h1, h2, h3⟩
    · exact .inl hL0
    · cases hv0
      exact .inr ⟨b, rfl, h1, by omega, fun j hj => by rw [frozen?_via _ _ _ _ h2]; exact h3 j hj⟩)
  obtain ⟨W, hWe⟩ : ∃ W, W = via w1 e := ⟨_, rfl⟩
  rw [← hWe] at HB2 HV2 hz2 HF2 ⊢
  clear hWe HB HV HCS d0 d1 d2 d3 d4 d5 HC1
  go_wp2_with fail
  go_loopw [6] (fun i wr => ∃ k : Nat, k ≤ L.length ∧ i = .int .i64 k ∧ Below w.heap.size w wr ∧ (k < L.length → ∃ b, aw = some ⟨b, 0, none⟩ ∧ w.heap.size ≤ b ∧ b < wr.heap.size ∧ (∀ j, j < L.length * 2 → wr.frozen? ⟨b, j, none⟩ = false) ∧ ∀ j u, k * 2 ≤ j → (rowOf wvc L)[j]? = some u → wr.cell? ⟨b, j, none⟩ = some u))
    (fun i _ => L.length - (intOf i).toNat)
  case atStart =>
    refine ⟨0, Nat.zero_le _, rfl, HB2.out, fun h0 => ?_⟩
    rcases HF2.out with hL | ⟨b, rfl, h1, h2, h3⟩
    · rw [hL] at h0; cases h0
    · obtain ⟨b', o', c', he, -, -, hbl, hx⟩ := HV2.out.open h0 (by decide)
      cases he
      exact ⟨b, rfl, h1, h2, h3, fun j u _ hu => by have := hx j u hu; rwa [Nat.zero_add] at this⟩
  case round =>
    clear HB2 HV2 HF2 hz2
    obtain ⟨k, hk, rfl, hb, hF⟩ := hrel
    have HB := Lib.hid hb
    have hzr := hb.size
    by_cases hk2 : k < L.length
    · obtain ⟨b, rfl, hbl, hbw, hfz, hx⟩ := hF hk2
      obtain ⟨b', o', c', he, -, -, hlt, hx2⟩ := HA.out.open (by omega) (by omega)
      cases he
      obtain ⟨y0, y1⟩ := wv_cells hx2 k hk2
      obtain ⟨x, hxe⟩ : ∃ x, x = L[k] := ⟨_, rfl⟩
      have hxm : x ∈ L := by rw [hxe]; exact List.getElem_mem _
      have g0 : wr.cell? ⟨b, k * 2, none⟩ = some (.int .u64 x.a) := by
        have := hx (k * 2 + 0) _ (by omega) ((rowOf_get wvc_len L k 0 hk2 (by omega)).trans (show (wvc L[k])[0]? = some (.int .u64 L[k].a) from rfl))
        rw [hxe]; exact this
      have g1 : wr.cell? ⟨b, k * 2 + 1, none⟩ = some (.int .u64 x.v) := by
        have := hx (k * 2 + 1) _ (by omega) ((rowOf_get wvc_len L k 1 hk2 (by omega)).trans (show (wvc L[k])[1]? = some (.int .u64 L[k].v) from rfl))
        rw [hxe]; exact this
      rw [← hxe] at y0 y1
      have t0 := (hb.cell (p := ⟨b', o' + k * 2, none⟩) hlt).trans y0
      have t1 := (hb.cell (p := ⟨b', o' + k * 2 + 1, none⟩) hlt).trans y1
      have d0 := (hb.cell (p := ⟨r, 0, none⟩) hrl).trans (HO.out.c 0 _ rfl)
      have hMx := HM.out x hxm
      have hxo := HK.out x hxm
      have HCr := Lib.hid (Ce.below (F := fun j => O j = g) HC.out hb)
      have HX := Lib.hid hx
      have HFz := Lib.hid hfz
      have z0 := hfz (k * 2) (by omega)
      have z1 := hfz (k * 2 + 1) (by omega)
      have hpk : ∀ e : Later wr, Calls Tryz.prog 35 #[.pointer (some ⟨c, 0, none⟩), .int .u64 x.a] (via wr e) fun x' w' => x' = .returned (.int .u64 x.v) ∧ via wr e = w' := fun e => by
        have := c_Peek x.a (Ce.below HCr.out (via_below wr e)) hxo.1.1 hxo.1.2
        rwa [hMx] at this
      have HPk := Lib.hid hpk
      have hbr : b' < wr.heap.size := by omega
      have hrr : r < wr.heap.size := by omega
      clear hF hx hx2 y0 y1 hxe hb hfz hpk hxo hMx hxm
      go_wp2_with fail
      refine wp_region_via (by kernel_rfl) (by kernel_rfl) ?_
      repeat (go_big_quiet_step ((go_at_call 35; exact viaS (HPk.out _))))
      refine wpQuiet_nil ?_
      rintro _ ⟨e, rfl⟩
      have HB3 : Hid (Below w.heap.size w (via wr e)) := Lib.hid (HB.out.trans ((via_below wr e).mono hzr))
      have hz3 := via_size wr e
      have f0 : (via wr e).frozen? ⟨b, k * 2, none⟩ = false := by rw [frozen?_via _ _ _ _ hbw]; exact z0
      have f1 : (via wr e).frozen? ⟨b, k * 2 + 1, none⟩ = false := by rw [frozen?_via _ _ _ _ hbw]; exact z1
      have w0 : (via wr e).cell? ⟨b, k * 2, none⟩ = some (.int .u64 x.a) := by rw [cell?_via _ _ _ _ hbw]; exact g0
      have w1' : (via wr e).cell? ⟨b, k * 2 + 1, none⟩ = some (.int .u64 x.v) := by rw [cell?_via _ _ _ _ hbw]; exact g1
      have hX3 : Hid (∀ j u, (k + 1) * 2 ≤ j → (rowOf wvc L)[j]? = some u → (via wr e).cell? ⟨b, j, none⟩ = some u) := Lib.hid (fun j u hj hu => by rw [cell?_via _ _ _ _ hbw]; exact HX.out j u (by omega) hu)
      have hF3 : Hid (∀ j, j < L.length * 2 → (via wr e).frozen? ⟨b, j, none⟩ = false) := Lib.hid (fun j hj => by rw [frozen?_via _ _ _ _ hbw]; exact HFz.out j hj)
      have hbw3 : b < (via wr e).heap.size := by omega
      obtain ⟨W, hWe⟩ : ∃ W, W = via wr e := ⟨_, rfl⟩
      rw [← hWe] at HB3 hz3 f0 f1 w0 w1' hX3 hF3 hbw3 ⊢
      clear hWe HX HFz HB t0 t1 d0 z0 z1 g0 g1 HPk HCr
      go_wp2_with fail
      go_roundw
      case rel =>
        refine ⟨k + 1, by omega, by go_num, ((HB3.out.setCell (p := ⟨b, k * 2, none⟩) hbl _).setCell (p := ⟨b, k * 2 + 1, none⟩) hbl _), fun _ => ⟨b, rfl, hbl, by simpa using hbw3, fun j hj => ?_, fun j u hj hu => ?_⟩⟩
        · rw [World.frozen?_setCell, World.frozen?_setCell]; exact hF3.out j hj
        · rw [World.cell?_setCell_other _ _ _ _ (by simp <;> omega), World.cell?_setCell_other _ _ _ _ (by simp <;> omega)]
          exact hX3.out j u hj hu
      case measure => simp [intOf]; omega
    · obtain rfl : k = L.length := by omega
      clear hF hb
      go_wp2_with fail
      go_ret
      exact ⟨rfl, HB.out⟩
/-- The owners' worlds agree: Same tells so. -/
theorem run_tickets {w : World} {p c ip np : Nat} {f : Cf} {tk : Nat → Int} {ho : Int} (h : Wo w p c ip np f tk ho) :
    (loadCellsFrom ⟨p, 8, none⟩ 0 64 #[]).run Tryz.prog w = .ok ((List.range 64).map fun j => Value.int .u64 (tk j)).toArray w := by
  have := run_loadCells_list (P := Tryz.prog) (w := w) ⟨p, 8, none⟩ ((List.range 64).map fun j => Value.int .u64 (tk j)) (fun j v hv => by
    rw [List.getElem?_map] at hv
    by_cases hj : j < 64
    · rw [List.getElem?_eq_getElem (by simpa using hj)] at hv
      simp at hv
      have hadd : (⟨p, 8, none⟩ : Addr).add j = ⟨p, 8 + j, none⟩ := by unfold Addr.add; split <;> simp_all
      rw [hadd, h.tk j hj, hv]
    · rw [List.getElem?_eq_none (by simpa using hj)] at hv; cases hv)
  simpa [loadCells] using this
def tksV (tk : Nat → Int) : Value := .agg ((List.range 64).map fun j => Value.int .u64 (tk j)).toArray
theorem eqItems_tk (X : Array Value) (w : World) : ∀ is : List Nat, (∀ i ∈ is, ∃ z, X[i]? = some (.int .u64 z)) → (Op.eqItems 9999 37 (Tryz.prog.cellsOf 37) X X is).run Tryz.prog w = .ok true w
  | [], _ => by simp [Op.eqItems]
  | i :: is, h => by
    obtain ⟨z, hz⟩ := h i (by simp)
    have hc : Tryz.prog.cellsOf 37 = 1 := by kernel_rfl
    have hp := run_part_plain (P := Tryz.prog) (e := 37) (w := w) (by kernel_rfl) (xs := X) (off := i * Tryz.prog.cellsOf 37) (v := .int .u64 z) (by rw [hc, Nat.mul_one]; exact hz)
    have he := run_equalIn_int (P := Tryz.prog) (w := w) 9998 37 .u64 .u64 z z Tryz.underlying37
    have ih := eqItems_tk X w is fun j hj => h j (by simp [hj])
    simp only [Op.eqItems, Sem.run_bind, hp, Result.andThen_ok, he]
    simpa using ih
theorem eq_tk (tk : Nat → Int) (w : World) : (Op.equalIn 10000 94 (tksV tk) (tksV tk)).run Tryz.prog w = .ok true w := by
  obtain ⟨i, hi⟩ : ∃ i, Tryz.prog.info? 37 = some i := Option.isSome_iff_exists.1 (by kernel_rfl)
  unfold tksV
  rw [run_equalIn_array (P := Tryz.prog) (w := w) 9999 _ _ Tryz.underlying94 hi]
  exact eqItems_tk _ w _ fun j hj => ⟨tk j, by simp at hj; simp [hj]⟩
theorem c_NCount (h : Nat) (ao : Option Addr) (n c : Nat) (w : World) (hc : w.cell? ⟨h, 0, none⟩ = some (.slice ao n c)) :
    Calls Tryz.prog 53 #[.pointer (some ⟨h, 0, none⟩)] w fun e w' => e = .returned (.int .i64 n) ∧ w = w' := by
  have hn : Calls Tryz.prog 106 #[.pointer (some ⟨h, 0, none⟩)] w fun e w' => e = .returned (.slice ao n c) ∧ w = w' := by
    go_enter Tryz.func106, Tryz.ntmps106
    go_wp2
    go_ret
    exact ⟨rfl, rfl⟩
  go_enter Tryz.func53, Tryz.ntmps53
  go_wp2_with (go_at_call 106; refine hn.mono ?_; rintro e w' ⟨rfl, rfl⟩)
  go_ret
  exact ⟨rfl, rfl⟩
/-- A load of 64 cells, as one. -/
def ld64 (a : Addr) : Sem (Array Value) := loadCellsFrom a 0 64 #[]
@[go_sem ↓] theorem run_ld64 (P : Program) (a : Addr) (W : World) : Sem.run P (loadCellsFrom a 0 64 #[]) W = Sem.run P (ld64 a) W := rfl
@[go_sem ↓] theorem run_ld64' (P : Program) (a : Addr) (W : World) : Sem.run P (loadCells a 64) W = Sem.run P (ld64 a) W := rfl
/-- What Same reads of a pair's worlds, in whatever world it stands. -/
structure SmF (w : World) (B C : Wb) (s : AW) (la : La) (an ar : Option Addr) (cn cr : Nat) : Prop where
  p0 : w.cell? ⟨B.p, 0, none⟩ = some (.pointer (some ⟨B.c, 0, none⟩))
  p1 : w.cell? ⟨B.p, 1, none⟩ = some (.pointer (some ⟨B.ip, 0, none⟩))
  p2 : w.cell? ⟨B.p, 2, none⟩ = some (.pointer (some ⟨B.np, 0, none⟩))
  ph : w.cell? ⟨B.p, 72, none⟩ = some (.int .i64 s.ho)
  pt : (ld64 ⟨B.p, 8, none⟩).run Tryz.prog w = .ok ((List.range 64).map fun j => Value.int .u64 (s.tk j)).toArray w
  r0 : w.cell? ⟨C.p, 0, none⟩ = some (.pointer (some ⟨C.c, 0, none⟩))
  r1 : w.cell? ⟨C.p, 1, none⟩ = some (.pointer (some ⟨C.ip, 0, none⟩))
  r2 : w.cell? ⟨C.p, 2, none⟩ = some (.pointer (some ⟨C.np, 0, none⟩))
  rh : w.cell? ⟨C.p, 72, none⟩ = some (.int .i64 s.ho)
  rt : (ld64 ⟨C.p, 8, none⟩).run Tryz.prog w = .ok ((List.range 64).map fun j => Value.int .u64 (s.tk j)).toArray w
  q2 : w.cell? ⟨C.c, 2, none⟩ = some (.int .u8 la.k)
  q3 : w.cell? ⟨C.c, 3, none⟩ = some (.int .u64 la.a)
  q4 : w.cell? ⟨C.c, 4, none⟩ = some (.int .u64 la.s)
  q5 : w.cell? ⟨C.c, 5, none⟩ = some (.int .u64 la.i)
  n0 : w.cell? ⟨B.np, 0, none⟩ = some (.slice an s.nt.length cn)
  m0 : w.cell? ⟨C.np, 0, none⟩ = some (.slice ar s.nt.length cr)
theorem PR.sm {w : World} {O : Om} {B C : Wb} {f : Cf} {s : AW} {m : Nat} (h : PR w O B C f s m) : ∃ an ar cn cr, ∀ w', Below w.heap.size w w' → SmF w' B C s s.la an ar cn cr := by
  obtain ⟨v, L, hris, hok, hlook, hlm, hob, hown, -⟩ := h.r.ce.ex
  obtain ⟨vn, hn, -⟩ := h.p.no.ex
  obtain ⟨vr, hr1, hr2, -⟩ := h.r.no.ex
  obtain ⟨an, cn, rfl, -, -⟩ := (Arr.of_own hn.own).shape
  obtain ⟨ar, cr, rfl, -, -⟩ := (Arr.of_own hr2).shape
  refine ⟨an, ar, cn, cr, fun w' hb => ?_⟩
  have P := h.p.wo.wrote (S := fun _ => False) (Wrote.of_below hb) id
  have R := h.r.wo.wrote (S := fun _ => False) (Wrote.of_below hb) id
  have Q := hob.below hb
  exact ⟨P.c0, P.c1, P.c2, P.ho, run_tickets P, R.c0, R.c1, R.c2, R.ho, run_tickets R, Q.c 2 _ rfl, Q.c 3 _ rfl, Q.c 4 _ rfl, Q.c 5 _ rfl, (hn.below hb).head, (hr1.below hb).c 0 _ rfl⟩
set_option maxHeartbeats 4000000 in
set_option maxRecDepth 100000 in
theorem c_PSame {w : World} {O : Om} {B C : Wb} {f : Cf} {s : AW} {m : Nat} (h : PR w O B C f s m) (hhi : ∀ j, O j ≠ 0 → j < w.heap.size) (hm : m ≤ 1000000) :
    Calls Tryz.prog 19 #[.agg #[.pointer (some ⟨B.p, 0, none⟩), .pointer (some ⟨C.p, 0, none⟩)]] w fun e w' => e = .returned (.bool true) ∧ Below w.heap.size w w' := by
  obtain ⟨an, ar, cn, cr, hsm⟩ := h.sm
  have HS := Lib.hid hsm
  have HP := Lib.hid h
  have HH := Lib.hid hhi
  have e0 : ∀ W, (Op.equalIn 10000 94 (.agg ((List.range 64).map fun j => Value.int .u64 (s.tk j)).toArray) (.agg ((List.range 64).map fun j => Value.int .u64 (s.tk j)).toArray)).run Tryz.prog W = .ok true W := fun W => eq_tk s.tk W
  obtain ⟨X, hX⟩ : ∃ X, X = ((List.range 64).map fun j => Value.int .u64 (s.tk j)).toArray := ⟨_, rfl⟩
  rw [← hX] at e0
  have HX := Lib.hid hX
  clear h hsm hhi hX
  go_enter Tryz.func19, Tryz.ntmps19
  go_wp2_with fail
  obtain ⟨W1, hW1⟩ : ∃ W1, W1 = w.alloc (.cells #[.pointer (some ⟨B.p, 0, none⟩), .pointer (some ⟨C.p, 0, none⟩)] 34) := ⟨_, rfl⟩
  have y0 : W1.cell? ⟨w.heap.size, 0, none⟩ = some (.pointer (some ⟨B.p, 0, none⟩)) := by rw [hW1]; simp
  have y1 : W1.cell? ⟨w.heap.size, 1, none⟩ = some (.pointer (some ⟨C.p, 0, none⟩)) := by rw [hW1]; simp
  have hlt : w.heap.size < W1.heap.size := by rw [hW1]; simp
  have HB1 : Hid (Below w.heap.size w W1) := Lib.hid (by rw [hW1]; exact (Below.refl w.heap.size w).alloc (Nat.le_refl _) _)
  rw [← hW1]
  clear hW1
  have l1 : B.p < W1.heap.size := by have := HP.out.p.wo.lt; omega
  have l2 : C.p < W1.heap.size := by have := HP.out.r.wo.lt; omega
  have l3 : C.c < W1.heap.size := by have := HP.out.r.ce.lt; omega
  have l4 : B.np < W1.heap.size := by obtain ⟨vn, hn, -⟩ := HP.out.p.no.ex; have := hn.lt; omega
  have l5 : C.np < W1.heap.size := by obtain ⟨vr, hr1, hr2, -⟩ := HP.out.r.no.ex; have := hr1.lt; omega
  have hP1 : Hid (∀ e : Later W1, Below w.heap.size w (via W1 e)) := Lib.hid fun e => HB1.out.trans ((via_below W1 e).mono HB1.out.size)
  have ptv : ∀ e : Later W1, (ld64 ⟨B.p, 8, none⟩).run Tryz.prog (via W1 e) = .ok X (via W1 e) := fun e => by rw [HX.out]; exact (HS.out _ (hP1.out e)).pt
  have rtv : ∀ e : Later W1, (ld64 ⟨C.p, 8, none⟩).run Tryz.prog (via W1 e) = .ok X (via W1 e) := fun e => by rw [HX.out]; exact (HS.out _ (hP1.out e)).rt
  obtain ⟨p0, p1, p2, ph, -, r0, r1, r2, rh, -, q2, q3, q4, q5, n0, m0⟩ := HS.out _ HB1.out
  refine wp_region_via (by kernel_rfl) (by kernel_rfl) ?_
  try simp only [List.append_eq, List.cons_append, List.nil_append]
  repeat (go_big_quiet_step ((first
    | (go_at_call 50; exact viaS (c_WSteps _ O B f s (HP.out.p.below HH.out (hP1.out _))))
    | (go_at_call 51; exact viaS (c_rwSteps (HP.out.r.below HH.out (hP1.out _))))
    | (go_at_call 52; exact viaB (c_Last (F := fun j => O j = 2) (Ce.below HP.out.p.ce (hP1.out _))))
    | (go_at_call 53; exact viaS (c_NCount B.np an s.nt.length cn _ (HS.out _ (hP1.out _)).n0))
    | (go_at_call 54; exact viaS (c_ICount (HP.out.p.ar.ext (S := fun _ => False) (Ext.of_below HH.out (hP1.out _)) id)))
    | (go_at_call 55; exact viaS (c_r6Count (HP.out.r.ar.ext (S := fun _ => False) (Ext.of_below HH.out (hP1.out _)) id))))))
  refine wpQuiet_nil ?_
  rintro _ ⟨e, rfl⟩
  go_wp2_with fail
  go_ret
  exact ⟨rfl, hP1.out e⟩
end Go.Proofs.YtijifjiehldcaaaGreat
