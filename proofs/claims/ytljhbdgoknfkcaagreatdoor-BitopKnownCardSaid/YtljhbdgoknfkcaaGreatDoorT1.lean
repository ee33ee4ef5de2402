/- Contracts of strconv.FormatInt and FormatUint at base 10, over the table that they read: whatever the number. -/
import Derived.Test.YtljhbdgoknfkcaaGreatDoorI1
import Derived.Test.YtljhbdgoknfkcaaGreatDoorShelf
import Derived.Lib.AppendIntMem
import Derived.Lib.ItoaMem
import Derived.WalkKit
import Derived.Lib.Hide
import Derived.Test.YtljhbdgoknfkcaaGreatDoorK1
namespace Go.Proofs.YtljhbdgoknfkcaaGreatDoor
open Go Go.RowKit Go.Sort
set_option linter.unusedVariables false
set_option linter.unusedSimpArgs false
set_option maxRecDepth 100000

abbrev Tab (w : World) : Prop := Lib.TabIs Tryz.prog w "internal/strconv.uint64pow10" .u64 Lib.pow10Tab
/-- The table lies where the program has laid it. -/
def tabF : Facts := ⟨fun _ _ _ => False, fun b p => b = 0 ∧ p = fun ob => ∃ T fz, ob = .cells (Lib.pow10Tab.map fun z => Value.int .u64 z).toArray T fz⟩
theorem glob_tab : Tryz.prog.globalNamed "internal/strconv.uint64pow10" = some 0 := by kernel_rfl
theorem tab_of {w : World} (h : Sat tabF w) : Tab w := by
  obtain ⟨ob, h1, T, fz, rfl⟩ := h.2 _ _ ⟨rfl, rfl⟩
  unfold Tab Lib.TabIs World.var?
  rw [glob_tab]
  simp only [Option.bind_some, h1]
theorem sat_tab {w : World} (h : Tab w) : Sat tabF w := by
  refine ⟨fun b o x hx => hx.elim, fun b p hp => ?_⟩
  obtain ⟨rfl, rfl⟩ := hp
  unfold Tab Lib.TabIs World.var? at h
  rw [glob_tab] at h
  simp only [Option.bind_some] at h
  split at h
  · rename_i cs T fz hc
    cases h
    exact ⟨_, hc, T, fz, rfl⟩
  · cases h
theorem below_grow_drew (w : World) (k : Nat) (os : Array Obj) : Below w.heap.size w (grow (w.drewN k) os) := by
  refine ⟨rfl, rfl, rfl, by simp [grow], fun i hi => ?_⟩
  simp [grow, Array.getElem?_append_left, hi]

theorem fmtInt_d (n : Int) (h : -9223372036854775808 ≤ n ∧ n ≤ 9223372036854775807) : Den Tryz.prog 129 #[.int .i64 n, .int .i64 10] tabF (.string ⟨(Lib.itoa n).toArray⟩) :=
  ⟨fun W hs => (Tryz.strconv_FormatInt_10 n h.1 h.2 W (tab_of hs)).mono fun e w' ⟨h1, k, os, h2⟩ => ⟨h1, h2 ▸ below_grow_drew W k os⟩⟩

set_option maxHeartbeats 6400000 in
theorem ifmtUint_c (u : Nat) (hu64 : u < 18446744073709551616) (w : World) (htab : Tab w) : Calls Tryz.prog 214 #[.int .u64 u, .int .i64 10] w fun e w' => e = .returned (.string ⟨(Lib.decDigits u).toArray⟩) ∧ ∃ k os, w' = grow (w.drewN k) os := by
  by_cases hs : u < 100
  · have hw : IntKind.i64.wrap (u : Int) = u := by rw [IntKind.wrap_i64]; omega
    go_enter Tryz.func214, Tryz.ntmps214
    go_wp2_with (go_at_call 247; refine (Tryz.internal_strconv_small u hs _).mono ?_; rintro e w' ⟨rfl, rfl⟩)
    go_ret
    refine ⟨rfl, 0, #[], by simp [World.drewN_zero]⟩
  · have hu1 : 1 ≤ u := by omega
    have hnd20 : Lib.nDigits u ≤ 20 := by have := Lib.numDigits_eq u hu1 hu64; split at this <;> omega
    have hal : Tryz.prog.arrayLen 210 = 24 := by kernel_rfl
    have hsl1 : ∀ W, (Instr.sliceAt 210 (.pointer (some ⟨w.heap.size, 0, none⟩)) none (some (.int .i64 (Lib.nDigits u : Int))) none).run Tryz.prog W = .ok (.slice (some ⟨w.heap.size, 0, none⟩) (Lib.nDigits u) 24) W := fun W => by
      rw [run_sliceAt_array_h W 210 ⟨w.heap.size, 0, none⟩ (by kernel_rfl) .i64 (Lib.nDigits u : Int) (by omega) (by rw [hal]; omega)]
      rw [hal, show Tryz.prog.elem 210 = 5 by kernel_rfl]
      go_simp
    have hH0 := Lib.holds_zero0 w 210 (Lib.nDigits u) (by omega)
    have hfmt := Tryz.internal_strconv_formatBase10 w.heap.size 0 24 u (Array.replicate (Lib.nDigits u) 0) (w.alloc (.cells Lib.zeros24 210)) hH0 (by rw [Array.size_replicate]; exact Lib.lt_pow_nDigits u) hu64 (by rw [Array.size_replicate]; omega)
    rw [Array.size_replicate] at hfmt
    have HH0 := Lib.hid hH0
    clear hH0 hal
    go_enter Tryz.func214, Tryz.ntmps214
    go_wp2_with (first
      | (go_at_call 248; refine (Tryz.internal_strconv_numDigits u hu1 hu64 _ (Lib.tabIs_alloc htab _)).mono ?_; rintro e w' ⟨rfl, rfl⟩))
    go_at_call 249
    refine hfmt.mono ?_
    rintro e w' ⟨rfl, k, v', dk, rfl, hF⟩
    have hcv : (convert 101 9 (.slice (some ⟨w.heap.size, 0, none⟩) (Lib.nDigits u) 24)).run Tryz.prog ((putRow (fun (b : UInt8) => Value.int .u8 (b.toNat : Int)) (w.alloc (.cells Lib.zeros24 210)) w.heap.size 0 dk).drewN k) = .ok (.string ⟨(Lib.decDigits u).toArray⟩) ((putRow (fun (b : UInt8) => Value.int .u8 (b.toNat : Int)) (w.alloc (.cells Lib.zeros24 210)) w.heap.size 0 dk).drewN k) := by
      have h := run_convert_bytes_back (P := Tryz.prog) ((putRow (fun (b : UInt8) => Value.int .u8 (b.toNat : Int)) (w.alloc (.cells Lib.zeros24 210)) w.heap.size 0 dk).drewN k) 101 9 5 ⟨w.heap.size, 0, none⟩ 24 (Lib.decDigits u) Tryz.underlying101 Tryz.underlying5 Tryz.underlying9 (fun j hj => by
        rw [Lib.row_is_numeral hF j hj, Lib.add_plain, World.cell?_drewN]
        exact cell?_putRow (fun (b : UInt8) => Value.int .u8 (b.toNat : Int)) _ w.heap.size 0 _ dk HH0.out (by rw [hF.size, Array.size_replicate]) j (by rw [hF.size]; rw [Lib.decDigits_length] at hj; exact hj))
      rw [Lib.decDigits_length] at h
      exact h
    go_wp2
    go_ret
    obtain ⟨os, eo⟩ := Lib.fin_at w (.cells Lib.zeros24 210) dk k 0
    exact ⟨rfl, k, os, eo⟩
theorem fmtUint_d (u : Nat) (hu64 : u < 18446744073709551616) : Den Tryz.prog 130 #[.int .u64 u, .int .i64 10] tabF (.string ⟨(Lib.decDigits u).toArray⟩) := by
  have D : Den Tryz.prog 214 #[.int .u64 u, .int .i64 10] tabF (.string ⟨(Lib.decDigits u).toArray⟩) :=
    ⟨fun W hs => (ifmtUint_c u hu64 W (tab_of hs)).mono fun e w' ⟨h1, k, os, h2⟩ => ⟨h1, h2 ▸ below_grow_drew W k os⟩⟩
  refine den_of_body (args := [.int .u64 u, .int .i64 10]) hmix Tryz.func130 ?_
  (repeat' ((conv => whnf); first | refine CallN.mk _ D ?_ | refine AdN.mk _ _ rfl ?_ | refine DrawN.a (Ob.mk (by decide +kernel) ?_) | refine DrawN.c (Ob.mk (by decide +kernel) ?_) | refine DrawN.b (Ob.mk (by decide +kernel) ?_) | refine Ob.mk (by kernel_rfl) ?_ | (refine Br.mk (fun h => ?_) (fun h => ?_) <;> (first | (exfalso; exact Bool.false_ne_true h) | (exfalso; exact Bool.false_ne_true h.symm) | skip)) | refine SeqN.go ?_)); all_goals (conv => whnf)
  all_goals rfl
/-! Contract of a value's text, over the table that it reads: whatever the value. -/
theorem decDigits_len {u : Nat} (h : u < 18446744073709551616) : (Lib.decDigits u).length ≤ 20 := by
  rw [Lib.decDigits_length]
  by_cases h0 : u = 0
  · subst h0; rw [Lib.nDigits_small (by decide)]; decide
  · have := Lib.numDigits_eq u (by omega) h; split at this <;> omega
theorem itoa_len {n : Int} (h : IS n) : (Lib.itoa n).length ≤ 21 := by
  unfold Lib.itoa
  have h1 := h.1
  have h2 := h.2
  split
  · have := decDigits_len (u := n.natAbs) (by omega); simp; omega
  · have := decDigits_len (u := n.toNat) (by omega); omega
/-- A number's text. -/
def itoaB (n : Int) : ByteArray := ⟨(Lib.itoa n).toArray⟩
def decB (n : Int) : ByteArray := ⟨(Lib.decDigits n.toNat).toArray⟩
theorem itoaB_size {n : Int} (h : IS n) : (itoaB n).size ≤ 21 := by have := itoa_len h; simpa [itoaB, ByteArray.size] using this
theorem decB_size {n : Int} (h : IU n) : (decB n).size ≤ 20 := by
  have h1 := h.1
  have h2 := h.2
  have := decDigits_len (u := n.toNat) (by omega); simpa [decB, ByteArray.size] using this
theorem fmtI {n : Int} (h : IS n) : Den Tryz.prog 129 #[.int .i64 n, .int .i64 10] tabF (.string (itoaB n)) := fmtInt_d n h
theorem fmtU {n : Int} (h : IU n) : Den Tryz.prog 130 #[.int .u64 n, .int .i64 10] tabF (.string (decB n)) := by
  have h1 := h.1
  have h2 := h.2
  have := fmtUint_d n.toNat (by omega)
  rwa [show ((n.toNat : Nat) : Int) = n by omega] at this
def vtext (x : VV) : ByteArray :=
  if veq x vbot then ⟨#[110, 111, 110, 101]⟩
  else if x.m = 0 then itoaB x.lo
  else if x.m > 1 then (⟨#[91]⟩ ++ itoaB x.lo ++ ⟨#[44, 32]⟩ ++ itoaB x.hi ++ ⟨#[93]⟩) ++ (⟨#[32]⟩ ++ decB x.r ++ ⟨#[32, 109, 111, 100, 32]⟩ ++ decB x.m)
  else ⟨#[91]⟩ ++ itoaB x.lo ++ ⟨#[44, 32]⟩ ++ itoaB x.hi ++ ⟨#[93]⟩
theorem z1 : (ByteArray.mk #[91]).size = 1 := rfl
theorem z2 : (ByteArray.mk #[44, 32]).size = 2 := rfl
theorem z3 : (ByteArray.mk #[93]).size = 1 := rfl
theorem z4 : (ByteArray.mk #[32]).size = 1 := rfl
theorem z5 : (ByteArray.mk #[32, 109, 111, 100, 32]).size = 5 := rfl
set_option maxHeartbeats 1000000 in
theorem vText_d (x : VV) (h : InV x) : Den Tryz.prog 53 #[VVal x] tabF (.string (vtext (vmake x))) := by
  refine den_of_body (args := [VVal x]) hmix Tryz.func53 ?_
  have hm := vmake_in h
  have I1 := fmtI hm.lo
  have I2 := fmtI hm.hi
  have U1 := fmtU hm.r
  have U2 := fmtU hm.m
  (repeat' ((conv => whnf); first | refine CallN.any _ (vReduced_d x h) ?_ | refine CallN.any _ vBottom_d ?_ | refine CallN.mk _ I1 ?_ | refine CallN.mk _ I2 ?_ | refine CallN.mk _ U1 ?_ | refine CallN.mk _ U2 ?_ | refine Ob.mk (by simp only [ByteArray.size_append, z1, z2, z3, z4, z5]; have := itoaB_size hm.lo; have := itoaB_size hm.hi; have := decB_size hm.m; have := decB_size hm.r; omega) ?_ | refine AdN.mk _ _ rfl ?_ | refine DrawN.a (Ob.mk (by decide +kernel) ?_) | refine DrawN.c (Ob.mk (by decide +kernel) ?_) | refine DrawN.b (Ob.mk (by decide +kernel) ?_) | refine Ob.mk (by kernel_rfl) ?_ | (refine Br.mk (fun h => ?_) (fun h => ?_) <;> (first | (exfalso; exact Bool.false_ne_true h) | (exfalso; exact Bool.false_ne_true h.symm) | skip)) | refine SeqN.go ?_)); all_goals (conv => whnf)
  all_goals (clear I1 I2 U1 U2; first | rfl | grind [retV, vtext, veq, vbot])
end Go.Proofs.YtljhbdgoknfkcaaGreatDoor
