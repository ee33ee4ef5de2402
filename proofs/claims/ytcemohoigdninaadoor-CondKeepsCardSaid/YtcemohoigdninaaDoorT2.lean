/- Contract of a value's text, over the table that it reads: whatever the value. -/
import Derived.Test.YtcemohoigdninaaDoorT1
import Derived.Test.YtcemohoigdninaaDoorK1
namespace Go.Proofs.YtcemohoigdninaaDoor
open Go Go.RowKit Go.Sort
set_option linter.unusedVariables false
set_option linter.unusedSimpArgs false
set_option maxRecDepth 100000

theorem decDigits_len {u : Nat} (h : u < 18446744073709551616) : (Lib.decDigits u).length ≤ 20 := by
  rw [Lib.decDigits_length]
  by_cases h0 : u = 0
  · subst h0; rw [Lib.nDigits_small (by decide)]; decide
  · have := Lib.numDigits_eq u (by omega) h; split at this <;> omega
theorem itoa_len {n : Int} (h : IS n) : (Lib.itoa n).length ≤ 21 := by
  unfold Lib.itoa
  have h1 := h.1
  have h2 := h.2
  split
  · have := decDigits_len (u := n.natAbs) (by omega); simp; omega
  · have := decDigits_len (u := n.toNat) (by omega); omega
/-- A number's text. -/
def itoaB (n : Int) : ByteArray := ⟨(Lib.itoa n).toArray⟩
def decB (n : Int) : ByteArray := ⟨(Lib.decDigits n.toNat).toArray⟩
theorem itoaB_size {n : Int} (h : IS n) : (itoaB n).size ≤ 21 := by have := itoa_len h; simpa [itoaB, ByteArray.size] using this
theorem decB_size {n : Int} (h : IU n) : (decB n).size ≤ 20 := by
  have h1 := h.1
  have h2 := h.2
  have := decDigits_len (u := n.toNat) (by omega); simpa [decB, ByteArray.size] using this
theorem fmtI {n : Int} (h : IS n) : Den Tryd.prog 77 #[.int .i64 n, .int .i64 10] tabF (.string (itoaB n)) := fmtInt_d n h
theorem fmtU {n : Int} (h : IU n) : Den Tryd.prog 78 #[.int .u64 n, .int .i64 10] tabF (.string (decB n)) := by
  have h1 := h.1
  have h2 := h.2
  have := fmtUint_d n.toNat (by omega)
  rwa [show ((n.toNat : Nat) : Int) = n by omega] at this
def vtext (x : VV) : ByteArray :=
  if veq x vbot then ⟨#[110, 111, 110, 101]⟩
  else if x.m = 0 then itoaB x.lo
  else if x.m > 1 then (⟨#[91]⟩ ++ itoaB x.lo ++ ⟨#[44, 32]⟩ ++ itoaB x.hi ++ ⟨#[93]⟩) ++ (⟨#[32]⟩ ++ decB x.r ++ ⟨#[32, 109, 111, 100, 32]⟩ ++ decB x.m)
  else ⟨#[91]⟩ ++ itoaB x.lo ++ ⟨#[44, 32]⟩ ++ itoaB x.hi ++ ⟨#[93]⟩
theorem z1 : (ByteArray.mk #[91]).size = 1 := rfl
theorem z2 : (ByteArray.mk #[44, 32]).size = 2 := rfl
theorem z3 : (ByteArray.mk #[93]).size = 1 := rfl
theorem z4 : (ByteArray.mk #[32]).size = 1 := rfl
theorem z5 : (ByteArray.mk #[32, 109, 111, 100, 32]).size = 5 := rfl
set_option maxHeartbeats 1000000 in
theorem vText_d (x : VV) (h : InV x) : Den Tryd.prog 24 #[VVal x] tabF (.string (vtext (vmake x))) := by
  refine den_of_body (args := [VVal x]) hmix Tryd.func24 ?_
  have hm := vmake_in h
  have I1 := fmtI hm.lo
  have I2 := fmtI hm.hi
  have U1 := fmtU hm.r
  have U2 := fmtU hm.m
  (repeat' ((conv => whnf); first | refine CallN.any _ (vReduced_d x h) ?_ | refine CallN.any _ vBottom_d ?_ | refine CallN.mk _ I1 ?_ | refine CallN.mk _ I2 ?_ | refine CallN.mk _ U1 ?_ | refine CallN.mk _ U2 ?_ | refine Ob.mk (by simp only [ByteArray.size_append, z1, z2, z3, z4, z5]; have := itoaB_size hm.lo; have := itoaB_size hm.hi; have := decB_size hm.m; have := decB_size hm.r; omega) ?_ | refine AdN.mk _ _ rfl ?_ | refine DrawN.a (Ob.mk (by decide +kernel) ?_) | refine DrawN.b (Ob.mk (by decide +kernel) ?_) | refine Ob.mk (by kernel_rfl) ?_ | (refine Br.mk (fun h => ?_) (fun h => ?_) <;> (first | (exfalso; exact Bool.false_ne_true h) | (exfalso; exact Bool.false_ne_true h.symm) | skip)) | refine SeqN.go ?_)); all_goals (conv => whnf)
  all_goals (clear I1 I2 U1 U2; first | rfl | grind [retV, vtext, veq, vbot])
end Go.Proofs.YtcemohoigdninaaDoor
