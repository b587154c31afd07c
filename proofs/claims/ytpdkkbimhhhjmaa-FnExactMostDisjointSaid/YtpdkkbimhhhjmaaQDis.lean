/- Contracts for AreDisjoint and IsClass, of the reference and of the program; conditions: stated in each. -/
import Derived.Test.YtpdkkbimhhhjmaaW5
import Derived.Test.YtpdkkbimhhhjmaaW7
import Derived.Test.YtpdkkbimhhhjmaaP3
namespace Go.Proofs.Ytpdkkbimhhhjmaa
open Go.RowKit
set_option maxHeartbeats 400000
set_option linter.unusedSimpArgs false
set_option linter.unusedVariables false

/-- the code of a system and of a set of blocks -/
noncomputable def setCode (v : Int) (xs : List Blk) (ls : List Int) : Int := if isSysB v xs = true then (if risesB ls xs.length = true then 0 else 2) else 1
theorem setCode_zero {v : Int} {xs : List Blk} {ls : List Int} (h : setCode v xs ls = 0) : isSysB v xs = true ∧ risesB ls xs.length = true := by
  unfold setCode at h; (repeat' split at h) <;> simp_all

theorem l05Bits_any (b : Blk) (w : World) (hg : goodB 15 b = true) :
    Calls Try.prog 104 #[.agg #[.int .i64 b.1, .int .i64 b.2.1, .int .i64 b.2.2]] w fun e w' => e = .returned (.int .i64 (maskB b : Nat)) ∧ Below w.heap.size w w' := by
  obtain ⟨h0, h1, h2, h3⟩ := good_bd hg
  obtain ⟨x, y, z⟩ := b
  dsimp only at *
  obtain ⟨X, rfl⟩ := Int.eq_ofNat_of_zero_le h0
  obtain ⟨Y, rfl⟩ := Int.eq_ofNat_of_zero_le (by omega : 0 ≤ y)
  obtain ⟨Z, rfl⟩ := Int.eq_ofNat_of_zero_le (by omega : 0 ≤ z)
  have hp : ∀ n : Nat, n < 15 → 2 ^ n < 32768 := fun n hn => Nat.pow_lt_pow_right (by omega) hn
  have hx := hp X (by omega); have hy := hp Y (by omega); have hz := hp Z (by omega)
  have HM : Hid ((maskB ((X : Int), (Y : Int), (Z : Int)) : Nat) = 2 ^ X + 2 ^ Y + 2 ^ Z) := rfl
  generalize maskB _ = M at *
  have HX := Lib.hid hx; have HY := Lib.hid hy; have HZ := Lib.hid hz
  clear hp hx hy hz hg
  go_enter Try.func104, Try.ntmps104
  go_wp2
  go_ret
  refine ⟨ret_int ?_, below_alloc _ _⟩
  have hx := HX.out; have hy := HY.out; have hz := HZ.out
  have ex : ∀ n : Nat, ((2 : Int) ^ n) = ((2 ^ n : Nat) : Int) := fun n => by push_cast; rfl
  rw [HM.out, ex, ex, ex]
  generalize 2 ^ X = a at *
  generalize 2 ^ Y = b at *
  generalize 2 ^ Z = c at *
  go_unwrap
  push_cast
  rfl

end Go.Proofs.Ytpdkkbimhhhjmaa
