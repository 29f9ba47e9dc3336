/- Layer 4: what Go's library makes of a number and its text; the library's variables that it reads. -/
import Derived.Test.YtifkfhnbkjkakaaGreatDoorZrNu
import Derived.BigCall
import Derived.BigGuard
import Derived.Lib.AppendIntMem
import Derived.Lib.AtoiErrMem
import Derived.Lib.ItoaMem
import Derived.Lib.ItoaWalk
import Derived.Lib.Walk
import Derived.Shelf.LaysM
import Derived.Shelf.Pu.ParseUintPublic10
import Derived.Shelf.Strconv.Itoa1
import Derived.Shelf.Strconv.Itoa2
namespace Go.Proofs.YtifkfhnbkjkakaaGreatDoor
set_option linter.unusedSimpArgs false
set_option linter.unusedVariables false
set_option maxHeartbeats 8000000
set_option maxRecDepth 100000
section
open Go.Shelf
theorem nu_pu_eq {α : Type} {a b : α} {o : Option α} (h : o = some a) (e : a = b := by kernel_rfl) : o = some b := h.trans (congrArg some e)
def nu_pu_ren : Go.Shelf.Ren := ⟨fun | 14 => 90 | 16 => 155 | 17 => 156 | 19 => 214 | 20 => 215 | 21 => 216 | 22 => 217 | 23 => 218 | 24 => 219 | 25 => 257 | 27 => 259 | 26 => 258 | 28 => 291 | 29 => 310 | 30 => 220 | 31 => 221 | 32 => 222 | 33 => 223 | 35 => 261 | 34 => 260 | 36 => 262 | 37 => 263 | 38 => 264 | 39 => 292 | 40 => 293 | n => n, fun | 9 => 9 | 3 => 3 | 22 => 24 | 24 => 199 | 25 => 200 | 4 => 4 | 34 => 312 | 5 => 5 | 36 => 206 | 37 => 314 | 0 => 0 | 39 => 315 | 21 => 21 | 44 => 345 | 47 => 373 | 50 => 376 | 48 => 374 | 2 => 2 | 52 => 319 | 55 => 321 | 59 => 348 | 60 => 23 | 20 => 20 | 61 => 349 | 65 => 399 | 66 => 400 | 67 => 441 | n => n, fun | 0 => 0 | 1 => 1 | 2 => 2 | 3 => 3 | 4 => 4 | n => n⟩
open _root_.Go.Proofs.Tryz in
theorem nu_pu : Go.Proofs.LaysPu.n14 Tryz.prog nu_pu_ren := {mixed := by kernel_rfl, f14 := nu_pu_eq func90, f16 := nu_pu_eq func155, f17 := nu_pu_eq func156, f19 := nu_pu_eq func214, f20 := nu_pu_eq func215, f21 := nu_pu_eq func216, f22 := nu_pu_eq func217, f23 := nu_pu_eq func218, f24 := nu_pu_eq func219, f25 := nu_pu_eq func257, f26 := nu_pu_eq func258, f27 := nu_pu_eq func259, f28 := nu_pu_eq func291, f29 := nu_pu_eq func310, f30 := nu_pu_eq func220, f31 := nu_pu_eq func221, f32 := nu_pu_eq func222, f33 := nu_pu_eq func223, f34 := nu_pu_eq func260, f35 := nu_pu_eq func261, f36 := nu_pu_eq func262, f37 := nu_pu_eq func263, f38 := nu_pu_eq func264, f39 := nu_pu_eq func292, f40 := nu_pu_eq func293, t0 := underlying0, a0 := isAgg0, z0 := sizeOf0, v0 := zeroValue0, i0 := by kernel_rfl, t2 := underlying2, a2 := isAgg2, z2 := sizeOf2, v2 := zeroValue2, i2 := by kernel_rfl, t3 := underlying3, a3 := isAgg3, z3 := sizeOf3, v3 := zeroValue3, i3 := by kernel_rfl, t4 := underlying4, a4 := isAgg4, z4 := sizeOf4, v4 := zeroValue4, i4 := by kernel_rfl, t5 := underlying5, a5 := isAgg5, z5 := sizeOf5, v5 := zeroValue5, i5 := by kernel_rfl, t9 := underlying9, a9 := isAgg9, z9 := sizeOf9, v9 := zeroValue9, i9 := by kernel_rfl, t20 := underlying20, a20 := isAgg20, z20 := sizeOf20, v20 := zeroValue20, i20 := by kernel_rfl, t21 := underlying21, a21 := isAgg21, z21 := sizeOf21, v21 := zeroValue21, i21 := by kernel_rfl, t22 := underlying24, a22 := isAgg24, z22 := sizeOf24, v22 := zeroValue24, i22 := by kernel_rfl, t24 := underlying199, a24 := isAgg199, z24 := sizeOf199, v24 := zeroValue199, i24 := by kernel_rfl, t25 := underlying200, a25 := isAgg200, z25 := sizeOf200, v25 := zeroValue200, i25 := by kernel_rfl, t34 := underlying312, a34 := isAgg312, z34 := sizeOf312, v34 := zeroValue312, i34 := by kernel_rfl, c34 := by kernel_rfl, t36 := underlying206, a36 := isAgg206, z36 := sizeOf206, v36 := zeroValue206, i36 := by kernel_rfl, t37 := underlying314, a37 := isAgg314, z37 := sizeOf314, v37 := zeroValue314, i37 := by kernel_rfl, t39 := underlying315, a39 := isAgg315, z39 := sizeOf315, v39 := zeroValue315, i39 := by kernel_rfl, t44 := underlying345, a44 := isAgg345, z44 := sizeOf345, v44 := zeroValue345, i44 := by kernel_rfl, t47 := underlying373, a47 := isAgg373, z47 := sizeOf373, v47 := zeroValue373, i47 := by kernel_rfl, t48 := underlying374, a48 := isAgg374, z48 := sizeOf374, v48 := zeroValue374, i48 := by kernel_rfl, t50 := underlying376, a50 := isAgg376, z50 := sizeOf376, v50 := zeroValue376, i50 := by kernel_rfl, t52 := underlying319, a52 := isAgg319, z52 := sizeOf319, v52 := zeroValue319, i52 := by kernel_rfl, t55 := underlying321, a55 := isAgg321, z55 := sizeOf321, v55 := zeroValue321, i55 := by kernel_rfl, t59 := underlying348, a59 := isAgg348, z59 := sizeOf348, v59 := zeroValue348, i59 := by kernel_rfl, t60 := underlying23, a60 := isAgg23, z60 := sizeOf23, v60 := zeroValue23, i60 := by kernel_rfl, t61 := underlying349, a61 := isAgg349, z61 := sizeOf349, t65 := underlying399, a65 := isAgg399, z65 := sizeOf399, v65 := zeroValue399, i65 := by kernel_rfl, t66 := underlying400, a66 := isAgg400, z66 := sizeOf400, v66 := zeroValue400, i66 := by kernel_rfl, t67 := underlying441, a67 := isAgg441, z67 := sizeOf441, v67 := zeroValue441, i67 := by kernel_rfl, g0 := by kernel_rfl, m0 := by kernel_rfl, g1 := by kernel_rfl, m1 := by kernel_rfl, g2 := by kernel_rfl, m2 := by kernel_rfl, g3 := by kernel_rfl, m3 := by kernel_rfl, g4 := by kernel_rfl, m4 := by kernel_rfl}
theorem nu_nd_eq {α : Type} {a b : α} {o : Option α} (h : o = some a) (e : a = b := by kernel_rfl) : o = some b := h.trans (congrArg some e)
def nu_nd_ren : Go.Shelf.Ren := ⟨fun | 284 => 221 | 129 => 261 | 317 => 260 | 318 => 262 | n => n, fun | 53 => 24 | 3 => 3 | 212 => 348 | 0 => 0 | 4 => 4 | 46 => 206 | 5 => 5 | 9 => 9 | n => n, fun | 17 => 2 | n => n⟩
open _root_.Go.Proofs.Tryz in
theorem nu_nd : Go.Proofs.LaysM.n284 Tryz.prog nu_nd_ren := {mixed := by kernel_rfl, f129 := nu_nd_eq func261, f284 := nu_nd_eq func221, f317 := nu_nd_eq func260, f318 := nu_nd_eq func262, t0 := underlying0, a0 := isAgg0, z0 := sizeOf0, v0 := zeroValue0, t3 := underlying3, a3 := isAgg3, z3 := sizeOf3, v3 := zeroValue3, t4 := underlying4, a4 := isAgg4, z4 := sizeOf4, v4 := zeroValue4, t5 := underlying5, a5 := isAgg5, z5 := sizeOf5, v5 := zeroValue5, t9 := underlying9, a9 := isAgg9, z9 := sizeOf9, v9 := zeroValue9, t46 := underlying206, a46 := isAgg206, z46 := sizeOf206, v46 := zeroValue206, t53 := underlying24, a53 := isAgg24, z53 := sizeOf24, v53 := zeroValue24, t212 := underlying348, a212 := isAgg348, z212 := sizeOf348, v212 := zeroValue348, g17 := by kernel_rfl, i0 := by kernel_rfl, i3 := by kernel_rfl, i4 := by kernel_rfl, i5 := by kernel_rfl, i9 := by kernel_rfl, i46 := by kernel_rfl, i53 := by kernel_rfl, i212 := by kernel_rfl, m17 := by kernel_rfl}
theorem nu_fb_eq {α : Type} {a b : α} {o : Option α} (h : o = some a) (e : a = b := by kernel_rfl) : o = some b := h.trans (congrArg some e)
def nu_fb_ren : Go.Shelf.Ren := ⟨fun | 285 => 222 | n => n, fun | 37 => 314 | 53 => 24 | 3 => 3 | 4 => 4 | 51 => 23 | 9 => 9 | 5 => 5 | 0 => 0 | n => n, fun | n => n⟩
open _root_.Go.Proofs.Tryz in
theorem nu_fb : Go.Proofs.Lays.n285 Tryz.prog nu_fb_ren := {mixed := by kernel_rfl, f285 := nu_fb_eq func222, t0 := underlying0, a0 := isAgg0, z0 := sizeOf0, v0 := zeroValue0, t3 := underlying3, a3 := isAgg3, z3 := sizeOf3, v3 := zeroValue3, t4 := underlying4, a4 := isAgg4, z4 := sizeOf4, v4 := zeroValue4, t5 := underlying5, a5 := isAgg5, z5 := sizeOf5, v5 := zeroValue5, t9 := underlying9, a9 := isAgg9, z9 := sizeOf9, v9 := zeroValue9, t37 := underlying314, a37 := isAgg314, z37 := sizeOf314, v37 := zeroValue314, t51 := underlying23, a51 := isAgg23, z51 := sizeOf23, v51 := zeroValue23, t53 := underlying24, a53 := isAgg24, z53 := sizeOf24, v53 := zeroValue24}
theorem nu_sm_eq {α : Type} {a b : α} {o : Option α} (h : o = some a) (e : a = b := by kernel_rfl) : o = some b := h.trans (congrArg some e)
def nu_sm_ren : Go.Shelf.Ren := ⟨fun | 283 => 220 | n => n, fun | 3 => 3 | 9 => 9 | 4 => 4 | n => n, fun | n => n⟩
open _root_.Go.Proofs.Tryz in
theorem nu_sm : Go.Proofs.Lays.n283 Tryz.prog nu_sm_ren := {mixed := by kernel_rfl, f283 := nu_sm_eq func220, t3 := underlying3, a3 := isAgg3, z3 := sizeOf3, v3 := zeroValue3, t4 := underlying4, a4 := isAgg4, z4 := sizeOf4, v4 := zeroValue4, t9 := underlying9, a9 := isAgg9, z9 := sizeOf9, v9 := zeroValue9}
end
section
open Go.RowKit Go.Sort
structure Va (w : World) (O : Om) : Prop where
 r0 : O 1 = 0
 r1 : 1 < w.heap.size
 r : ∃ tp p, w.cell? ⟨1, 0, none⟩ = some (.iface tp p)
 t0 : O 2 = 0
 t1 : 2 < w.heap.size
 t : Lib.TabIs Tryz.prog w "internal/strconv.uint64pow10" .u64 Lib.pow10Tab
theorem gPow : Tryz.prog.globalNamed "internal/strconv.uint64pow10" = some 2 := by kernel_rfl
theorem tab_block {w w' : World} (h : Lib.TabIs Tryz.prog w "internal/strconv.uint64pow10" .u64 Lib.pow10Tab) (e : w'.heap[2]? = w.heap[2]?) : Lib.TabIs Tryz.prog w' "internal/strconv.uint64pow10" .u64 Lib.pow10Tab := by
 unfold Lib.TabIs World.var? at h ⊢
 rw [gPow] at h ⊢
 simp only [Option.bind_some] at h ⊢
 rw [e]
 exact h
section
variable {S : Nat → Prop} {O O' : Om} {w w' : World}
theorem Va.ext (h : Va w O) (e : Ext S O w O' w') : Va w' O' :=
 ⟨(e.lo _ h.r1).trans h.r0, Nat.lt_of_lt_of_le h.r1 e.size, by obtain ⟨tp, p, hc⟩ := h.r; exact ⟨tp, p, (e.wr.cell (p := ⟨_, 0, none⟩) h.r1 (fun k => k.2 h.r0)).trans hc⟩, (e.lo _ h.t1).trans h.t0, Nat.lt_of_lt_of_le h.t1 e.size, tab_block h.t (e.wr.block _ h.t1 fun k => k.2 h.t0)⟩
theorem Va.below (h : Va w O) (hb : Below w.heap.size w w') : Va w' O :=
 ⟨h.r0, Nat.lt_of_lt_of_le h.r1 hb.size, by obtain ⟨tp, p, hc⟩ := h.r; exact ⟨tp, p, (hb.cell (p := ⟨_, 0, none⟩) h.r1).trans hc⟩, h.t0, Nat.lt_of_lt_of_le h.t1 hb.size, tab_block h.t (hb.block _ h.t1)⟩
end
theorem c_small (i : Nat) (hi : i < 100) (w : World) : Calls Tryz.prog 220 #[.int .i64 i] w fun e w' => e = .returned (.string ⟨(Lib.decDigits i).toArray⟩) ∧ w' = w := Any.internal_strconv_small nu_sm i hi w
theorem c_numDigits (u : Nat) (h1 : 1 ≤ u) (h2 : u < 18446744073709551616) (w : World) (htab : Lib.TabIs Tryz.prog w "internal/strconv.uint64pow10" .u64 Lib.pow10Tab) : Calls Tryz.prog 221 #[.int .u64 u] w fun e w' => e = .returned (.int .i64 (Lib.nDigits u)) ∧ w' = w := Any.internal_strconv_numDigits nu_nd u h1 h2 w htab
theorem c_formatBase10 (blk off cap u : Nat) (d : Array UInt8) (w : World) (hH : Holds (fun (b : UInt8) => Value.int .u8 (b.toNat : Int)) w blk off d) (hu : u < 10 ^ d.size) (hu64 : u < 18446744073709551616) (hsz : d.size < 4611686018427387904) :
 Calls Tryz.prog 222 #[.slice (some ⟨blk, off, none⟩) d.size cap, .int .u64 u] w fun e w' => e = .returned (.tuple #[]) ∧ ∃ (n v' : Nat) (dk : Array UInt8), w' = (putRow (fun (b : UInt8) => Value.int .u8 (b.toNat : Int)) w blk off dk).drewN n ∧ Lib.FmtInv d.size u 0 v' dk := Any.internal_strconv_formatBase10 nu_fb blk off cap u d w hH hu hu64 hsz
theorem c_ParseU_ok (s : ByteArray) (hmax : s.size ≤ 9223372036854775806) (u : Nat) (h : Lib.parseUintB 64 s.data.toList = .ok u) (w : World) : Calls Tryz.prog 90 #[.string s, .int .i64 10, .int .i64 64] w fun e w' => e = .returned (.tuple #[.int .u64 u, .nilIface]) ∧ Below w.heap.size w w' :=
 (Any.strconv_ParseUint_10_at64_ok nu_pu s hmax u h w).mono fun e w' h => ⟨h.1, by rcases h.2 with rfl | rfl; exact Below.refl _ _; exact Lib.bytesWorld_below _ _ _⟩
theorem c_ParseU_range (s : ByteArray) (hlim : s.size ≤ 281474976710656) (h : Lib.parseUintB 64 s.data.toList = .range) (tp : TypeId) (p : Value) (w : World) (hv : w.cell? ⟨1, 0, none⟩ = some (.iface tp p)) : Calls Tryz.prog 90 #[.string s, .int .i64 10, .int .i64 64] w fun e w' => ∃ N, e = .returned (.tuple #[.int .u64 18446744073709551615, .iface 315 (.pointer (some ⟨N, 0, none⟩))]) ∧ Below w.heap.size w w' :=
 (Any.strconv_ParseUint_10_at64_range nu_pu s hlim h (.iface tp p) w hv (Or.inr ⟨tp, p, rfl⟩)).mono fun e w' h => by obtain ⟨N, h1, -, -, h4⟩ := h; exact ⟨N, h1, h4⟩
theorem c_iFormatUint (u : Nat) (hu64 : u < 18446744073709551616) (w : World) (htab : Lib.TabIs Tryz.prog w "internal/strconv.uint64pow10" .u64 Lib.pow10Tab) :
 Calls Tryz.prog 157 #[.int .u64 u, .int .i64 10] w fun e w' => e = .returned (.string ⟨(Lib.decDigits u).toArray⟩) ∧ Below w.heap.size w w' := by
 by_cases hs : u < 100
 · have HS := Lib.hid (fun W => c_small u hs W)
   have d0 : decide ((u : Int) < 100) = true := by simp; omega
   have e0 : IntKind.i64.wrap (u : Int) = u := by rw [IntKind.wrap_i64]; omega
   clear hs
   go_enter Tryz.func157, Tryz.ntmps157
   go_wp2_with fail
   refine (HS.out _).mono ?_
   rintro e w' ⟨rfl, rfl⟩
   go_wp2_with fail
   go_ret
   exact ⟨rfl, Below.refl _ _⟩
 · have hu1 : 1 ≤ u := by omega
   have hnd20 : Lib.nDigits u ≤ 20 := by have := Lib.numDigits_eq u hu1 hu64; split at this <;> omega
   have hal : (Tryz.prog).arrayLen 319 = 24 := by kernel_rfl
   have d0 : decide ((u : Int) < 100) = false := by simp; omega
   have hsl : ∀ W, (Instr.sliceAt 319 (.pointer (some ⟨w.heap.size, 0, none⟩)) none (some (.int .i64 (Lib.nDigits u : Int))) none).run Tryz.prog W = .ok (.slice (some ⟨w.heap.size, 0, none⟩) (Lib.nDigits u) 24) W := fun W => by
    rw [run_sliceAt_array_h W 319 ⟨w.heap.size, 0, none⟩ (by kernel_rfl) .i64 (Lib.nDigits u : Int) (by omega) (by rw [hal]; omega)]
    go_simp
   have hH0 := Lib.holds_zero0 w 319 (Lib.nDigits u) (by omega)
   have hfmt := c_formatBase10 w.heap.size 0 24 u (Array.replicate (Lib.nDigits u) 0) (w.alloc (.cells Lib.zeros24 319)) hH0 (by rw [Array.size_replicate]; exact Lib.lt_pow_nDigits u) hu64 (by rw [Array.size_replicate]; omega)
   rw [Array.size_replicate] at hfmt
   have HF := Lib.hid hfmt
   have HH0 := Lib.hid hH0
   have HND := Lib.hid (c_numDigits u hu1 hu64 _ (Lib.tabIs_alloc htab (.cells Lib.zeros24 319)))
   clear hH0 hal hfmt
   go_enter Tryz.func157, Tryz.ntmps157
   go_wp2_with fail
   refine HND.out.mono ?_
   rintro e w' ⟨rfl, rfl⟩
   go_wp2_with fail
   refine HF.out.mono ?_
   rintro e w' ⟨rfl, k, v', dk, rfl, hF⟩
   have hcv : (convert 314 9 (.slice (some ⟨w.heap.size, 0, none⟩) (Lib.nDigits u) 24)).run Tryz.prog ((putRow (fun (b : UInt8) => Value.int .u8 (b.toNat : Int)) (w.alloc (.cells Lib.zeros24 319)) w.heap.size 0 dk).drewN k) = .ok (.string ⟨(Lib.decDigits u).toArray⟩) ((putRow (fun (b : UInt8) => Value.int .u8 (b.toNat : Int)) (w.alloc (.cells Lib.zeros24 319)) w.heap.size 0 dk).drewN k) := by
    have h := run_convert_bytes_back (P := Tryz.prog) ((putRow (fun (b : UInt8) => Value.int .u8 (b.toNat : Int)) (w.alloc (.cells Lib.zeros24 319)) w.heap.size 0 dk).drewN k) 314 9 5 ⟨w.heap.size, 0, none⟩ 24 (Lib.decDigits u) Tryz.underlying314 Tryz.underlying5 Tryz.underlying9 (fun j hj => by
     rw [Lib.row_is_numeral hF j hj, Lib.add_plain, World.cell?_drewN]
     exact cell?_putRow (fun (b : UInt8) => Value.int .u8 (b.toNat : Int)) _ w.heap.size 0 _ dk HH0.out (by rw [hF.size, Array.size_replicate]) j (by rw [hF.size]; rw [Lib.decDigits_length] at hj; exact hj))
    rw [Lib.decDigits_length] at h
    exact h
   obtain ⟨os, eo⟩ := Lib.fin_at w (.cells Lib.zeros24 319) dk k 0
   have HB := Lib.hid (show Below w.heap.size w ((putRow (fun (b : UInt8) => Value.int .u8 (b.toNat : Int)) (w.alloc (.cells Lib.zeros24 319)) w.heap.size 0 dk).drewN k) by rw [eo]; exact Lib.below_grow w.heap.size w (Nat.le_refl _) k os)
   clear eo hF HF HND HH0 hsl
   have hsl : ∀ W, (Instr.sliceAt 319 (.pointer (some ⟨w.heap.size, 0, none⟩)) none (some (.int .i64 (Lib.nDigits u : Int))) none).run Tryz.prog W = .ok (.slice (some ⟨w.heap.size, 0, none⟩) (Lib.nDigits u) 24) W := fun W => by
    have hal : (Tryz.prog).arrayLen 319 = 24 := by kernel_rfl
    rw [run_sliceAt_array_h W 319 ⟨w.heap.size, 0, none⟩ (by kernel_rfl) .i64 (Lib.nDigits u : Int) (by omega) (by rw [hal]; omega)]
    go_simp
   go_wp2_with fail
   go_ret
   exact ⟨rfl, HB.out⟩
theorem c_nuText (n : Int) (n0 : 0 ≤ n) (n1 : n < 18446744073709551616) {w : World} {O : Om} (V : Va w O) : Calls Tryz.prog 41 #[.int .u64 n] w fun e w' => e = .returned (.string (nuText n)) ∧ Below w.heap.size w w' := by
 obtain ⟨u, rfl⟩ : ∃ u : Nat, n = u := ⟨n.toNat, by omega⟩
 have HF := Lib.hid (c_iFormatUint u (by omega) w V.t)
 rw [nuText_eq u (by omega)]
 have HG : Hid (Calls Tryz.prog 91 #[.int .u64 u, .int .i64 10] w fun e w' => e = .returned (.string ⟨(Lib.decDigits u).toArray⟩) ∧ Below w.heap.size w w') := Lib.hid (by
  go_enter Tryz.func91, Tryz.ntmps91
  go_wp2_with fail
  refine HF.out.mono ?_
  rintro e w' ⟨rfl, hb⟩
  have HB := Lib.hid hb
  clear hb
  go_wp2_with fail
  go_ret
  exact ⟨rfl, HB.out⟩)
 clear V n0 n1 HF
 go_enter Tryz.func41, Tryz.ntmps41
 go_wp2_with fail
 refine HG.out.mono ?_
 rintro e w' ⟨rfl, hb⟩
 have HB := Lib.hid hb
 clear hb
 go_wp2_with fail
 go_ret
 exact ⟨rfl, HB.out⟩
theorem c_nuParse (v : ByteArray) (hv : v.size ≤ maxLen) {w : World} {O : Om} (V : Va w O) : Calls Tryz.prog 38 #[.string v] w fun e w' => e = .returned (.tuple #[.int .u64 ((nuParse v).getD 0), .bool (nuParse v).isSome]) ∧ Below w.heap.size w w' := by
 have HN := Lib.hid (c_nuNumber v w hv)
 have HV := Lib.hid (And.intro V hv)
 clear V hv
 cases hok : nuOk v with
 | false =>
   rw [hok] at HN
   rw [nuParse_no v hok]
   go_enter Tryz.func38, Tryz.ntmps38
   go_wp2_with fail
   refine HN.out.mono ?_
   rintro e w1 ⟨rfl, hb⟩
   have HB := Lib.hid hb
   clear hb
   go_wp2_with fail
   exact bodyPost_ret (v := .tuple #[.int .u64 0, .bool false]) (by simp [results, Tryz.results38, go_sem]) rfl ⟨rfl, HB.out⟩
 | true =>
   rw [hok] at HN
   have HPB := Lib.hid (nuParseB v hok)
   have hsz : v.size ≤ 281474976710656 := by
    unfold nuOk at hok
    rw [Bool.and_eq_true, Bool.and_eq_true, decide_eq_true_eq, decide_eq_true_eq] at hok
    omega
   cases hp : nuParse v with
   | some n =>
     have hn := nuParse_some v n hp
     have HPU := Lib.hid (fun W => c_ParseU_ok v (by omega) (nuVal v.data.toList) (by have := HPB.out; rw [hp] at this; exact this) W)
     rw [← hn.1] at HPU
     clear hn
     go_enter Tryz.func38, Tryz.ntmps38
     go_wp2_with fail
     refine HN.out.mono ?_
     rintro e w1 ⟨rfl, hb⟩
     have HB := Lib.hid hb
     clear hb
     go_wp2_with fail
     refine (HPU.out _).mono ?_
     rintro e w2 ⟨rfl, hb⟩
     have HB2 := Lib.hid (HB.out.trans (hb.mono HB.out.size))
     clear hb
     go_wp2_with fail
     exact bodyPost_ret (v := .tuple #[.int .u64 n, .bool true]) (by simp [results, Tryz.results38, go_sem]) rfl ⟨rfl, HB2.out⟩
   | none =>
     go_enter Tryz.func38, Tryz.ntmps38
     go_wp2_with fail
     refine HN.out.mono ?_
     rintro e w1 ⟨rfl, hb⟩
     obtain ⟨tp, p, hr⟩ := (HV.out.1.below hb).r
     have HPU := Lib.hid (c_ParseU_range v hsz (by have := HPB.out; rw [hp] at this; exact this) tp p w1 hr)
     have HB := Lib.hid hb
     clear hb hr
     go_wp2_with fail
     refine HPU.out.mono ?_
     rintro e w2 ⟨N, rfl, hb⟩
     have HB2 := Lib.hid (HB.out.trans (hb.mono HB.out.size))
     clear hb
     go_wp2_with fail
     exact bodyPost_ret (v := .tuple #[.int .u64 0, .bool false]) (by simp [results, Tryz.results38, go_sem]) rfl ⟨rfl, HB2.out⟩
end
end Go.Proofs.YtifkfhnbkjkakaaGreatDoor
