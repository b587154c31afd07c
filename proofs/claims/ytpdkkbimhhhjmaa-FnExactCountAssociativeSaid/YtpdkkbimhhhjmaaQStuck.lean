/- Contracts for IsStuck, of the reference and of the program; conditions: stated in each. -/
import Derived.Test.YtpdkkbimhhhjmaaW9
import Derived.Deep.RegionHeld3
namespace Go.Proofs.Ytpdkkbimhhhjmaa
open Go.RowKit
set_option maxHeartbeats 400000
set_option maxRecDepth 100000
set_option linter.unusedSimpArgs false
set_option linter.unusedVariables false

theorem grid_any (v : Int) (A : Option Addr) (c : Nat) (xs : List Blk) (w : World) (hA : Bl w A xs) (hl : xs.length ≤ 1048576) (hs : isSys v xs) :
    Calls Try.prog 73 #[.agg #[.int .i64 v, .slice A xs.length c]] w fun e w' => ∃ g, e = .returned (.pointer (some ⟨g, 0, none⟩)) ∧ w.heap.size ≤ g ∧ Gr w' g (gridN xs xs.length) ∧ Below w.heap.size w w' := by
  have hg : ∀ j, j < xs.length → goodB 15 (nth xs j) = true := fun j hj => good_mono (hs.2.2.1 j hj).1 hs.1.2
  have HG := Lib.hid hg; have HF := Lib.hid hs.2.2.2
  clear hg hs
  have HA := Lib.hid hA; clear hA; have HR := Lib.hid (Row.box w 30 (.int .i64 v) (.slice A xs.length c)); have HW := Lib.hid (Since.refl w); go_enter Try.func73, Try.ntmps73; go_wp2_with fail; replace HA := Lib.hid (HA.out.below (below_alloc _ (.cells #[.int .i64 v, .slice A xs.length c] 30))); replace HW := Lib.hid (HW.out.below (below_alloc _ (.cells #[.int .i64 v, .slice A xs.length c] 30)))
  refine (gridOf_any A c xs _ HA.out hl HG.out).mono ?_
  rintro e w_ ⟨ptr, rfl, hb, hgr⟩
  obtain ⟨g, rfl, hle, hGr⟩ := hgr HF.out
  have HGr := Lib.hid hGr; have HLE := Lib.hid hle
  clear hgr hGr hle
  have HSZ := Lib.hid HW.out.size
  replace HW := Lib.hid (HW.out.below hb); clear hb
  go_wp2
  go_ret
  exact ⟨g, rfl, Nat.le_trans HSZ.out HLE.out, HGr.out, HW.out⟩

/-- IsStuck's answer -/
noncomputable def stuckR (v : Int) (xs : List Blk) : Bool × Int := if isSysB v xs = true then (((triL (freeB xs) v.toNat).length : Int) == 0, 0) else (false, 1)

end Go.Proofs.Ytpdkkbimhhhjmaa
