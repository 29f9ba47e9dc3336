/- Layer 5: the contract of Words. -/
import Derived.Test.YtijifjiehldcaaaGreatWs2
namespace Go.Proofs.YtijifjiehldcaaaGreat
set_option linter.unusedSimpArgs false
open Go.RowKit Go.Shelf Go.Lib Go.Sort
set_option linter.unusedVariables false

theorem next_ty (p : Value) (ty : TypeId) : Instr.next p false ty = Instr.next p false 0 := rfl
theorem rg_next {P : Program} {w : World} {m r : Nat} {L left : List (Int × Nat)} (h : Rg w m r L left) (hne : m ≠ r) :
    (left = [] ∧ ∀ ty, (Instr.next (.pointer (some ⟨r, 0, none⟩)) false ty).run P w = .ok (.tuple #[.bool false]) w) ∨
    ∃ x left' w', left.Perm (x :: left') ∧ (∀ ty, (Instr.next (.pointer (some ⟨r, 0, none⟩)) false ty).run P w = .ok (.tuple #[.bool true, .int .u64 x.1, .pointer (some ⟨x.2, 0, none⟩)]) w') ∧ Rg w' m r L left' ∧ (Instr.entry (.pointer (some ⟨r, 0, none⟩))).run P w' = .ok (.tuple #[.int .u64 x.1, .pointer (some ⟨x.2, 0, none⟩)]) w' ∧ w.grownBy w' (some r) ∧ w'.heap.size = w.heap.size := by
  rcases Rg.next (P := P) h hne 0 with ⟨h1, h2⟩ | ⟨x, l, w', h1, h2, h3⟩
  · exact .inl ⟨h1, fun ty => by rw [next_ty]; exact h2⟩
  · exact .inr ⟨x, l, w', h1, fun ty => by rw [next_ty]; exact h2, h3⟩
theorem nz_append (M : Int → Int) (a b : List (Int × Nat)) : nz M (a ++ b) = nz M a ++ nz M b := by unfold nz; simp
theorem nz_len {M : Int → Int} {L : List Wde} {Lr : List Wv} {done left : List (Int × Nat)} (hM : ∀ y, cval L y = M y) (hn : (L.map Wde.a).Nodup) (hp : (L.map wdk).Perm (done ++ left)) (hris : Ris Lr) (hlook : ∀ y, rlook Lr y = M y) (hok : ∀ x ∈ Lr, WvOk x) : (nz M done).length ≤ Lr.length := by
  have h1 := congrArg List.length (ws_sorted hM hn hp hris hlook hok)
  rw [List.length_mergeSort, nz_append, List.length_append, List.length_map] at h1
  omega
theorem nz_step {done left left' Lw : List (Int × Nat)} {x : Int × Nat} (h1 : Lw.Perm (done ++ left)) (h2 : left.Perm (x :: left')) : Lw.Perm ((done ++ [x]) ++ left') := by
  rw [List.append_assoc]
  exact h1.trans (h2.append_left done)
set_option maxHeartbeats 2000000 in
set_option maxRecDepth 100000 in
theorem c_Words {w : World} {O : Om} {g c : Nat} {M : Int → Int} {n : Int} {la : La} (h : CO w O g c M n la) (Lr : List Wv) (hris : Ris Lr) (hlook : ∀ y, rlook Lr y = M y) (hok : ∀ x ∈ Lr, WvOk x) (hm : Lr.length ≤ 1000000) :
    Calls Tryz.prog 107 #[.pointer (some ⟨c, 0, none⟩)] w (WsPost w Lr) := by
  obtain ⟨i0, hi, hz0, hz1, hz2⟩ := info_parts infoCw
  obtain ⟨L, hL, hv⟩ := Ce.ex (F := fun j => O j = g) h
  have hs := fun d : List (Int × Nat) => fun hp => ws_sorted (done := d) hv hL.na hp hris hlook hok
  rcases hL.mp with ⟨h0, h1⟩ | ⟨m, h1, h2, h3, h4, h5⟩
  · have hlr : Lr = [] := by
      have := hs [] (by rw [h0]; exact List.Perm.refl _)
      rw [show nz M [] = [] from rfl, List.mergeSort_nil] at this
      exact List.map_eq_nil_iff.1 this.symm
    subst hlr
    have r1 := run_range_nilMap (P := Tryz.prog) w 163 _ _ Tryz.underlying163
    have n1 := fun ty => run_next_nilMap (P := Tryz.prog) w ty 0 0 #[]
    clear h hL hv hs h0 hlook hok hris hi hz0 hz1 hz2
    go_enter Tryz.func107, Tryz.ntmps107
    go_wp2_with fail
    refine wp_loop_rounds 1 ?_
    rw [rounds_succ]
    go_wp2_with (first | (go_at_call 140; refine (c_SortW0 _ _ _ _).mono ?_; rintro e w' ⟨rfl, rfl⟩) | (go_at_call 143; refine (c_ClipW none 0 0 _ (Nat.le_refl _) (by unfold maxLen; omega) (fun _ => rfl)).mono ?_; rintro e w' ⟨rfl, rfl⟩))
    go_ret
    exact ⟨_, rfl, (Below.refl _ _).alloc (Nat.le_refl _) _, Arr.nil _ 2, .inl ⟨rfl, rfl⟩⟩
  · obtain ⟨w1, hrun, hrg, hbel, hsz⟩ := Rg.start (P := Tryz.prog) h2 Tryz.underlying163
    have hml := h2.lt
    have hmr : m ≠ w.heap.size := by omega
    have HL := Lib.hid hL
    have HV := Lib.hid hv
    have HS := Lib.hid hs
    have HK := Lib.hid hok
    have HR := Lib.hid hris
    have HLo := Lib.hid hlook
    have HG := Lib.hid hrg
    have HB := Lib.hid hbel
    clear h hL hv hs h2 h3 h4 h5 hok hris hlook hrg hbel
    go_enter Tryz.func107, Tryz.ntmps107
    go_wp2_with fail
    go_loopw [3] (fun s wr => ∃ o left done, o = s ∧ Rg wr m w.heap.size (L.map wdk) left ∧ (L.map wdk).Perm (done ++ left) ∧ wr.ownsRow (w.heap.size + 1) 176 2 o (nz M done).length (rowOf (wsE M) (nz M done)) ∧ Below w.heap.size w wr ∧ w.heap.size + 1 ≤ wr.heap.size ∧ (nz M done = [] → o = .slice none 0 0))
      (fun _ wr => rgLeft wr m w.heap.size)
    case atStart => exact ⟨_, L.map wdk, [], rfl, HG.out, List.Perm.refl _, World.ownsRow_nil _ _ _ _, HB.out, by omega, fun _ => rfl⟩
    case round =>
      clear hrun HG HB
      obtain ⟨o, left, done, rfl, hrg, hperm, hown, hbel, hsw, hnl0⟩ := hrel
      have HG := Lib.hid hrg
      have HP := Lib.hid hperm
      have HO := Lib.hid hown
      have HB := Lib.hid hbel
      clear hperm hown hbel
      rcases rg_next (P := Tryz.prog) hrg hmr with ⟨rfl, hnx⟩ | ⟨x, left', w2, hpk, hnx, hrg2, hen, hgr, hsz2⟩
      · clear hrg
        have hp := HP.out
        rw [List.append_nil] at hp
        have hso := HS.out done hp
        have hln : (nz M done).length = Lr.length := by have := congrArg List.length hso; rw [List.length_mergeSort, List.length_map] at this; exact this
        by_cases hd : Lr = []
        · subst hd
          have hov := hnl0 (List.length_eq_zero_iff.1 hln)
          subst hov
          clear HG HP HO HS HL HV HK HR HLo hp hso hln hnl0
          go_wp2_with (first | (go_at_call 140; refine (c_SortW0 _ _ _ _).mono ?_; rintro e w' ⟨rfl, rfl⟩) | (go_at_call 143; refine (c_ClipW none 0 0 _ (Nat.le_refl _) (by unfold maxLen; omega) (fun _ => rfl)).mono ?_; rintro e w' ⟨rfl, rfl⟩))
          go_ret
          exact ⟨_, rfl, HB.out, Arr.nil _ 2, .inl ⟨rfl, rfl⟩⟩
        · have hpos : 0 < Lr.length := List.length_pos_iff.2 hd
          obtain ⟨gg, cap, hov, hnc, hcm⟩ : ∃ gg cap, o = .slice (some ⟨gg, 0, none⟩) Lr.length cap ∧ Lr.length ≤ cap ∧ cap ≤ maxLen := by
            rcases HO.out.2 with ⟨_, hz⟩ | ⟨gg, cap, cur, hov, hgb, hgc, hnc, hcm, hcs, hct⟩
            · omega
            · exact ⟨gg, cap, by rw [hov, hln], by omega, hcm⟩
          subst hov
          have hown := HO.out
          rw [hln] at hown
          rw [← hln] at hown
          obtain ⟨hH, hgb, hgl⟩ := holdsK_own (f := wsE M) (fun _ => rfl) (nz M done) (by rw [hln]; exact hln ▸ HO.out)
          have hsrt := c_SortW M gg 0 cap (nz M done).toArray wr hH hgl (by simp; omega)
          have hsd : (nz M done).toArray.size = Lr.length := by simp [hln]
          rw [hsd] at hsrt
          have hdd : ((nz M done).toArray.toList.mergeSort fun x y => !(ltOf wsC) y x).toArray = (Lr.map Wv.a).toArray := by rw [show (nz M done).toArray.toList = nz M done from rfl, hso]
          rw [hdd] at hsrt
          have HF := Lib.hid (fun nn os => ws_post (W := sortWorldK (wsE M) 2 wr gg 0 nn (Lr.map Wv.a).toArray os) (cap := cap) HLo.out HR.out rfl (holdsK_sortWorldK_c (wsE M) 2 wr gg 0 _ _ nn os hH hgl (by simp [hln])) (sortK_below HB.out (by omega) (by have := HB.out.size; omega)) (by omega) (Nat.lt_of_lt_of_le hgl (size_sortWorldK_c (wsE M) 2 wr gg 0 nn _ os)) hd hm)
          have HSo := Lib.hid hsrt
          clear HG HP HO HS HL HV HK HR HLo HB hp hso hln hnl0 hown hH hsrt hdd hsd
          go_wp2_with (first | (go_at_call 140; refine HSo.out.mono ?_; rintro e w' ⟨rfl, nn, os, rfl⟩) | (go_at_call 143; refine (c_ClipW _ _ _ _ hnc hcm (fun h => by cases h)).mono ?_; rintro e w' ⟨rfl, rfl⟩))
          go_ret
          exact HF.out nn os
      · have hpm := nz_step HP.out hpk
        have hxm : x ∈ L.map wdk := hpm.mem_iff.2 (by simp)
        obtain ⟨d, hd, rfl⟩ := List.mem_map.1 hxm
        have hwd := HL.out.wd d hd
        have hval : M d.a = d.v := by rw [← HV.out, cval_mem HL.out.na hd]
        have hdl : d.b < w.heap.size := hwd.lt
        have cw : w2.cell? ⟨d.b, 0, none⟩ = some (.int .u64 d.v) := by
          have h1 : wr.cell? ⟨d.b, 0, none⟩ = some (.int .u64 d.v) := (HB.out.cell (p := ⟨d.b, 0, none⟩) hdl).trans hwd.cell
          rw [← h1]
          exact World.cell?_of_block (hgr.block d.b (by omega) (by simp; omega))
        have HO2 : Hid (w2.ownsRow (w.heap.size + 1) 176 2 o (nz M done).length (rowOf (wsE M) (nz M done))) := Lib.hid ((Wrote.own (S := fun k => k = w.heap.size) ((Wrote.refl _ _).grown hgr (fun k hk _ => by cases hk; rfl)) HO.out fun k hk => by have := (HO.out.lt k hk).1; omega))
        have HB2 : Hid (Below w.heap.size w w2) := Lib.hid (HB.out.grown hgr (by omega) fun k hk => by cases hk; exact Nat.le_refl _)
        have HG2 := Lib.hid hrg2
        have hln := nz_len HV.out HL.out.na HP.out HR.out HLo.out HK.out
        have hms : rgLeft wr m w.heap.size = left'.length + 1 := by rw [HG.out.left_eq, hpk.length_eq]; rfl
        have HPM := Lib.hid hpm
        dsimp only [wdk] at hnx hen HPM
        have hle2 : w.heap.size + 1 ≤ w2.heap.size := by omega
        clear hrg hrg2 hpk hpm hxm hgr HO HB HG HP hsw hsz2
        by_cases hz : d.v = 0
        · have hzz : (d.v != 0) = false := by simp [hz]
          have hnn : nz M (done ++ [(d.a, d.b)]) = nz M done := nz_snoc_neg (by show M d.a = 0; rw [hval, hz])
          have HN := Lib.hid hnn
          clear hz hnn
          go_wp2_with (go_at_call 81; refine (c_aLoad cw).mono ?_; rintro e w' ⟨rfl, rfl⟩)
          go_roundw
          case rel => exact ⟨_, left', done ++ [(d.a, d.b)], rfl, HG2.out, HPM.out, by rw [HN.out]; exact HO2.out, HB2.out, hle2, by rw [HN.out]; exact hnl0⟩
          case measure => rw [HG2.out.left_eq, hms]; omega
        · have hzz : (d.v != 0) = true := by simp [hz]
          have hnn : nz M (done ++ [(d.a, d.b)]) = nz M done ++ [d.a] := nz_snoc_pos (by show M d.a ≠ 0; rw [hval]; exact hz)
          have HN := Lib.hid hnn
          have HVl := Lib.hid hval
          clear hz hnn hval hnl0
          go_wp2_with (first
            | (go_at_call 81; refine (c_aLoad cw).mono ?_; rintro e w' ⟨rfl, rfl⟩)
            | (at_builtin; refine append_one _ rfl _ _ 192 rfl (w.heap.size + 1) 176 i0 _ 2 16 Tryz.underlying192 hi hz0 hz1 hz2 rfl (by decide) (by decide) _ _ _ rfl HO2.out [.int .u64 d.a, .int .u64 d.v] _ rfl rfl (by simp [Value.oneCell']) (by omega) hle2 ?_; intro gg cap w3 hown3 hgr3
               have HO3 := Lib.hid hown3
               have HG3 : Hid (Rg w3 m w.heap.size (L.map wdk) left') := Lib.hid (HG2.out.keep (hgr3.block m (by omega) fun e => by have := (HO2.out.lt m e.symm).1; omega) (hgr3.block w.heap.size (by omega) fun e => by have := (HO2.out.lt w.heap.size e.symm).1; omega))
               have HB3 : Hid (Below w.heap.size w w3) := Lib.hid (HB2.out.grown hgr3 (by omega) fun k hk => by have := (HO2.out.lt k hk).1; omega)
               have hsz3 := hgr3.size
               clear hown3 hgr3))
          go_roundw
          case rel => exact ⟨_, left', done ++ [(d.a, d.b)], rfl, HG3.out, HPM.out, by rw [HN.out, rowOf_snoc, List.length_append]; have := HO3.out; unfold wsE; rw [HVl.out]; exact this, HB3.out, by omega, by rw [HN.out]; intro he; simp at he⟩
          case measure => rw [HG3.out.left_eq, hms]; omega
end Go.Proofs.YtijifjiehldcaaaGreat
