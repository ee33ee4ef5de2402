/- Closed runs: what the examples of chapter 15 come to, over the tables that they read. -/
import Derived.Test.YtmcjdbkjiedolaaGreatDoorUB

namespace Go.Proofs.YtmcjdbkjiedolaaGreatDoor
open Go Go.RowKit Go.Sort
set_option maxRecDepth 1000000
theorem hmixU : Tryz.prog.follows .mixedOrders = true := by kernel_rfl
def kwV : List Value := [.string ⟨#[97, 114, 114, 97, 121]⟩, .string ⟨#[99, 97, 108, 108]⟩, .string ⟨#[101, 108, 115, 101]⟩, .string ⟨#[105, 102]⟩, .string ⟨#[105, 110]⟩, .string ⟨#[109, 97, 105, 110]⟩, .string ⟨#[111, 117, 116, 112, 117, 116]⟩, .string ⟨#[112, 114, 111, 99]⟩, .string ⟨#[112, 117, 98, 108, 105, 99]⟩, .string ⟨#[115, 101, 99, 114, 101, 116]⟩, .string ⟨#[115, 107, 105, 112]⟩, .string ⟨#[118, 97, 114]⟩, .string ⟨#[119, 104, 105, 108, 101]⟩]
def sgV : List Value := [.string ⟨#[124, 124]⟩, .string ⟨#[38, 38]⟩, .string ⟨#[61, 61]⟩, .string ⟨#[33, 61]⟩, .string ⟨#[60, 61]⟩, .string ⟨#[62, 61]⟩, .string ⟨#[60, 60]⟩, .string ⟨#[62, 62]⟩, .string ⟨#[60]⟩, .string ⟨#[62]⟩, .string ⟨#[61]⟩, .string ⟨#[43]⟩, .string ⟨#[45]⟩, .string ⟨#[42]⟩, .string ⟨#[47]⟩, .string ⟨#[37]⟩, .string ⟨#[38]⟩, .string ⟨#[124]⟩, .string ⟨#[94]⟩, .string ⟨#[33]⟩, .string ⟨#[126]⟩, .string ⟨#[40]⟩, .string ⟨#[41]⟩, .string ⟨#[123]⟩, .string ⟨#[125]⟩, .string ⟨#[91]⟩, .string ⟨#[93]⟩, .string ⟨#[44]⟩, .string ⟨#[59]⟩]
def envG : List (Nat × List Value) := [(0, kwV), (2, sgV)]
/-- The tables lie where the program has laid them. -/
def envF : Facts := ⟨fun _ _ _ => False, fun b p => ∃ xs, (b, xs) ∈ envG ∧ p = fun ob => ∃ T fz, ob = .cells ⟨xs⟩ T fz⟩
theorem envF_set {W : World} (h : Sat envF W) : U.gSet envG W := fun x hx => by
  obtain ⟨ob, h1, T, fz, h2⟩ := h.2 x.1 _ ⟨x.2, hx, rfl⟩
  exact ⟨T, fz, by rw [h1, h2]⟩
/-- EnvNone, whatever the call. -/
theorem envNone_d (x0 x1 x2 x3 : Int) : Den Tryz.prog 4 #[.agg #[.int .i64 x0, .int .i64 x1, .int .i64 x2, .int .i64 x3]] envF (.bool true) :=
  U.den_of_run hmixU envG rfl (fun W h => envF_set h) rfl 100000 60 fun Ts => by kernel_rfl
end Go.Proofs.YtmcjdbkjiedolaaGreatDoor
