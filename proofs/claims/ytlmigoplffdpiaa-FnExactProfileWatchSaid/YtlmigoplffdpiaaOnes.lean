/- Contract: bits.OnesCount of small numbers. -/
import Derived.Test.YtlmigoplffdpiaaBase
import Derived.Laws.BitsAllLaws
import Derived.Laws.BitsLemmas
import Derived.IntWalk
namespace Go.Proofs.Ytlmigoplffdpiaa
open Go.RowKit

def on1 (x : Int) : Int := IntKind.u64.wrap (bits .and .u64 (x / 2) 6148914691236517205 + bits .and .u64 x 6148914691236517205)
def on2 (y : Int) : Int := IntKind.u64.wrap (bits .and .u64 (y / 4) 3689348814741910323 + bits .and .u64 y 3689348814741910323)
def on3 (y : Int) : Int := bits .and .u64 (IntKind.u64.wrap (y / 16 + y)) 1085102592571150095
def on4 (y : Int) : Int := IntKind.u64.wrap (y + y / 256)
def on5 (y : Int) : Int := IntKind.u64.wrap (y + y / 65536)
def on6 (y : Int) : Int := IntKind.u64.wrap (y + y / 4294967296)
def onesX (x : Int) : Int := bits .and .i64 (wrap64 (on6 (on5 (on4 (on3 (on2 (on1 x))))))) 127
/-- The number of ones among the first n bits. -/
def popN (x : Nat) : Nat → Nat
  | 0 => 0
  | n + 1 => popN x n + (if x.testBit n then 1 else 0)
theorem ones_all : ∀ a : Fin 64, ∀ b : Fin 64, onesX ((64 * a.val + b.val : Nat) : Int) = (popN (64 * a.val + b.val) 12 : Int) := by decide +kernel
theorem ones64_any (x : Nat) (w : World) (hx : x < 4096) :
    Calls Try.prog 35 #[.int .u64 x] w fun e w' => e = .returned (.int .i64 (popN x 12 : Int)) ∧ w = w' := by
  have h0 : (0 : Int) ≤ (x : Int) := by omega
  have h1 : (x : Int) ≤ 4095 := by omega
  have HX := Lib.hid (show onesX (x : Int) = (popN x 12 : Int) by
    have h := ones_all ⟨x / 64, by omega⟩ ⟨x % 64, by omega⟩
    simp only at h
    rw [show 64 * (x / 64) + x % 64 = x by omega] at h
    exact h)
  go_enter Try.func35, Try.ntmps35
  go_wp2
  go_ret
  refine ⟨?_, rfl⟩
  rw [← HX.out]
  rfl

theorem ones_any (x : Nat) (w : World) (hx : x < 4096) :
    Calls Try.prog 21 #[.int .u64 x] w fun e w' => e = .returned (.int .i64 (popN x 12 : Int)) ∧ w = w' := by
  have HO := Lib.hid (ones64_any x w hx)
  clear hx
  go_enter Try.func21, Try.ntmps21
  go_wp2_with (go_at_call 35; refine HO.out.mono ?_; rintro e w' ⟨rfl, rfl⟩)
  go_ret
  exact ⟨rfl, rfl⟩

end Go.Proofs.Ytlmigoplffdpiaa
