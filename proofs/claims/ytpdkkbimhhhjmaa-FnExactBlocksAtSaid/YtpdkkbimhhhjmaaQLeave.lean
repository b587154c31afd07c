/- Contracts for LeaveDegrees, of the reference and of the program; conditions: stated in each. -/
import Derived.Test.YtpdkkbimhhhjmaaW11
import Derived.Test.YtpdkkbimhhhjmaaW7
import Derived.Test.YtpdkkbimhhhjmaaM4
import Derived.Test.YtpdkkbimhhhjmaaM5
import Derived.Test.YtpdkkbimhhhjmaaP7
import Derived.Deep.AppendLies
namespace Go.Proofs.Ytpdkkbimhhhjmaa
open Go.RowKit
set_option maxHeartbeats 400000
set_option maxRecDepth 100000
set_option linter.unusedSimpArgs false
set_option linter.unusedVariables false

theorem infoList : (Try.prog.info? 34).map (fun i => (i.zero, i.size, i.bytes)) = some (some (.slice none 0 0), 1, 24) := by kernel_rfl
/-- the leave's degrees of the first k points -/
def leL (xs : List Blk) (n : Nat) (k : Nat) : List Int := (List.range k).map fun i : Nat => (n : Int) - 1 - 2 * ((nums (atP (i : Int)) xs).length : Int)
theorem leL_len (xs : List Blk) (n k : Nat) : (leL xs n k).length = k := by simp [leL]
theorem leL_succ (xs : List Blk) (n k : Nat) : leL xs n (k + 1) = leL xs n k ++ [(n : Int) - 1 - 2 * ((nums (atP (k : Int)) xs).length : Int)] := by simp [leL, List.range_succ]
noncomputable def leaveR (v : Int) (xs : List Blk) : List Int × Int := if isSysB v xs = true then (leL xs v.toNat v.toNat, 0) else ([], 1)
theorem leaveR_bd (v : Int) (xs : List Blk) : (leaveR v xs).1.length ≤ 15 := by
  unfold leaveR; split
  · rename_i h; have := (isSysB_iff.1 h).1; rw [leL_len]; omega
  · simp

theorem l01At_any (v : Int) (A : Option Addr) (c : Nat) (xs : List Blk) (p : Int) (w : World) (hA : Bl w A xs) (hl : xs.length ≤ 1048576) :
    Calls Try.prog 60 #[.agg #[.int .i64 v, .slice A xs.length c], .int .i64 p] w (LP1 w (nums (atP p) xs)) := by
  obtain ⟨ni0, hni, hni0, hni1, hni2⟩ := info_parts infoInt'
  have HA := Lib.hid (hA.below (below_alloc w (.cells #[.int .i64 v, .slice A xs.length c] 30)))
  have HR := Lib.hid (Row.box w 30 (.int .i64 v) (.slice A xs.length c))
  have HW := Lib.hid (below_alloc w (.cells #[.int .i64 v, .slice A xs.length c] 30))
  have HSZ : Hid ((w.alloc (.cells #[.int .i64 v, .slice A xs.length c] 30)).heap.size = w.heap.size + 1) := World.size_alloc _ _
  clear hA
  go_enter Try.func60, Try.ntmps60
  go_wp2
  generalize w.alloc _ = W at *
  go_loopw [5, 6] (fun u i wr => ∃ k : Nat, k ≤ xs.length ∧ i = .int .i64 k ∧ Hid (Below W.heap.size W wr ∧ wr.ownsRow W.heap.size 2 1 u (numsN (atP p) xs k).length ((numsN (atP p) xs k).map (Value.int .i64)))) (fun _ i _ => xs.length - (intOf i).toNat)
  case atStart => exact ⟨0, by omega, rfl, below_alloc _ _, by rw [← HSZ.out]; exact own_empty _ _ _⟩
  case round =>
    obtain ⟨k, hk, rfl, HC⟩ := hrel
    obtain ⟨c0, c1⟩ := (HR.out.below HC.out.1).c2
    have hsz := (HR.out.below HC.out.1).lt
    have hnl := numsN_len (atP p) xs k
    have HN : Hid (numsN (atP p) xs (k + 1) = numsN (atP p) xs k ++ (if atP p (nth xs k) then [(k : Int)] else [])) := rfl
    by_cases hlt : k < xs.length
    · obtain ⟨b1, o1, hA1, hb1, p0, p1, p2⟩ := (HA.out.below HC.out.1).at_ hlt
      subst hA1
      cases h1 : hasB (nth xs k) p
      · go_wp2_with fail
        refine (with_is h1 _).mono ?_
        rintro e w1 ⟨rfl, hb⟩
        have HB2 : Hid (Below W.heap.size W w1) := below_up HC.out.1 hb
        have HO : Hid (w1.ownsRow W.heap.size 2 1 u5 (numsN (atP p) xs k).length ((numsN (atP p) xs k).map (Value.int .i64))) := own_below HC.out.2 hb
        clear hb
        go_wp2
        go_roundw
        case rel => exact ⟨k + 1, by omega, by go_num, HB2.out, by rw [HN.out, if_neg (by unfold atP; simp [h1]), List.append_nil]; exact HO.out⟩
        case measure => simp [intOf]; omega
      · go_wp2_with fail
        refine (with_is h1 _).mono ?_
        rintro e w1 ⟨rfl, hb⟩
        have HB2 : Hid (Below W.heap.size W w1) := below_up HC.out.1 hb
        have HO : Hid (w1.ownsRow W.heap.size 2 1 u5 (numsN (atP p) xs k).length ((numsN (atP p) xs k).map (Value.int .i64))) := own_below HC.out.2 hb
        clear hb
        have hbw_ := HB2.out.size; go_wp2_with (at_builtin; refine wpList_append_own _ rfl _ _ 34 rfl (W).heap.size 2 ni0 (.int .i64 0) 1 8 Try.underlying34 hni hni0 hni1 hni2 rfl (by decide) _ _ _ rfl (HO.out.alloc _) ⟨(w1).heap.size, 0, none⟩ 1 1 [.int .i64 (k)] rfl rfl (cells_new _ _ _) (by simp [Value.oneCell']) (by unfold maxLen; omega) (by omega) (by simp; omega) ?_; intro v2 w2 hown2 hg2 _); have HO2 := Lib.hid hown2; have HB3 : Hid (Below (W).heap.size (W) w2) := (HB2.out.alloc HB2.out.size _).grown hg2 (by simp; omega) (own_block HO.out); clear hown2 hg2 hbw_
        go_wp2
        go_roundw
        case rel => exact ⟨k + 1, by omega, by go_num, HB3.out, by rw [HN.out, if_pos (by unfold atP; exact h1)]; simpa using HO2.out⟩
        case measure => simp [intOf]; omega
    · obtain rfl : k = xs.length := by omega
      go_wp2
      go_ret
      exact LP1.mk (own_base HC.out.2 HW.out.size) rfl (below_up HW.out HC.out.1)

end Go.Proofs.Ytpdkkbimhhhjmaa
