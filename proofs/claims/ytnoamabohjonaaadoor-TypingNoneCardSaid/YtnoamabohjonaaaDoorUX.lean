/- TypingNone: what the examples of chapter 12 come to, over the table that they read. -/
import Derived.Test.YtnoamabohjonaaaDoorUD

namespace Go.Proofs.YtnoamabohjonaaaDoor
open Go Go.RowKit Go.Sort
set_option maxRecDepth 1000000
theorem hmixU : Tryd.prog.follows .mixedOrders = true := by kernel_rfl
def kwV : List Value := [.string ⟨#[97, 114, 114, 97, 121]⟩, .string ⟨#[99, 97, 108, 108]⟩, .string ⟨#[101, 108, 115, 101]⟩, .string ⟨#[105, 102]⟩, .string ⟨#[105, 110]⟩, .string ⟨#[109, 97, 105, 110]⟩, .string ⟨#[111, 117, 116, 112, 117, 116]⟩, .string ⟨#[112, 114, 111, 99]⟩, .string ⟨#[112, 117, 98, 108, 105, 99]⟩, .string ⟨#[115, 101, 99, 114, 101, 116]⟩, .string ⟨#[115, 107, 105, 112]⟩, .string ⟨#[118, 97, 114]⟩, .string ⟨#[119, 104, 105, 108, 101]⟩]
def kwG : List (Nat × List Value) := [(0, kwV)]
/-- The table lies where the program has laid it. -/
def kwF : Facts := ⟨fun _ _ _ => False, fun b p => ∃ xs, (b, xs) ∈ kwG ∧ p = fun ob => ∃ T fz, ob = .cells ⟨xs⟩ T fz⟩
theorem kwF_set {W : World} (h : Sat kwF W) : U.gSet kwG W := fun x hx => by
  obtain ⟨ob, h1, T, fz, h2⟩ := h.2 x.1 _ ⟨x.2, hx, rfl⟩
  exact ⟨T, fz, by rw [h1, h2]⟩
/-- TypingNone, whatever the name and the node. -/
theorem typingNone_d (z : ByteArray) (x : Int) : Den Tryd.prog 3 #[.string z, .int .i64 x] kwF (.bool true) :=
  U.den_of_runX hmixU kwG rfl (fun W h => kwF_set h) rfl 100000 60 60 fun Ts => by kernel_rfl
end Go.Proofs.YtnoamabohjonaaaDoor
