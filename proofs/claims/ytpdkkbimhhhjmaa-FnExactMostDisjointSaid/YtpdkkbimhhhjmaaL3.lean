/- Contracts of the law's own small functions: mark and held over blocks and systems; conditions: stated in each. -/
import Derived.Test.YtpdkkbimhhhjmaaL2
namespace Go.Proofs.Ytpdkkbimhhhjmaa
open Go.RowKit
set_option maxHeartbeats 400000
set_option linter.unusedSimpArgs false
set_option linter.unusedVariables false

theorem markBlockS_any (A : Option Addr) (n c : Nat) (k0 : Int) (w : World) (hA : Wr w 72 A (n * 3)) (hn : n ≤ 268435456) (h0 : 0 ≤ k0) (h1 : k0 ≤ 1073741824) :
    Calls Try.prog 65 #[.slice A n c, .int .i64 k0] w fun e w' => e = .returned (.int .i64 (k0 + n * 3)) ∧ Mk w' 72 A (n * 3) k0 ∧ w.grownBy w' (A.map Addr.block) := by
  rcases hA with hz | ⟨g, cur0, rfl, hR0, hm0⟩
  · obtain rfl : n = 0 := by omega
    clear hz
    go_enter Try.func65, Try.ntmps65
    go_wp2
    go_rounds 1
    go_ret
    exact ⟨ret_int (by simp), .inl rfl, grown_refl _ _⟩
  · have HR0 := Lib.hid hR0; have HM0 := Lib.hid hm0; clear hR0 hm0
    go_enter Try.func65, Try.ntmps65
    go_wp2
    go_loopw [1, 5] (fun s i wr => ∃ k : Nat, k ≤ n ∧ i = .int .i64 k ∧ s = .int .i64 (k0 + (k * 3 : Nat)) ∧ Hid (w.grownBy wr (some g) ∧ ∃ cur, Row wr g 72 cur ∧ n * 3 ≤ cur.size ∧ ∀ j, j < k * 3 → cur[j]? = some (.int .i64 (k0 + j)))) (fun _ i _ => n - (intOf i).toNat)
    case atStart => exact ⟨0, by omega, rfl, by simp, grown_refl _ _, cur0, HR0.out, HM0.out, fun j hj => by omega⟩
    case round =>
      obtain ⟨k, hk, rfl, rfl, HC⟩ := hrel
      by_cases hlt : k < n
      · go_wp2
        obtain ⟨wo, rfl⟩ : ∃ wo : World, wo = wr := ⟨_, rfl⟩
        go_loopw [1, 6] (fun s i wr => ∃ m : Nat, m ≤ 3 ∧ i = .int .i64 m ∧ s = .int .i64 (k0 + (k * 3 + m : Nat)) ∧ Hid (w.grownBy wr (some g) ∧ ∃ cur, Row wr g 72 cur ∧ n * 3 ≤ cur.size ∧ ∀ j, j < k * 3 + m → cur[j]? = some (.int .i64 (k0 + j)))) (fun _ i _ => 3 - (intOf i).toNat)
        case atStart => exact ⟨0, by omega, rfl, rfl, HC⟩
        case round =>
          obtain ⟨m, hm, rfl, rfl, HC⟩ := hrel
          by_cases hlt2 : m < 3
          · obtain ⟨hb, cur, hR, hcs, hat⟩ := HC.out
            obtain ⟨u0, q0⟩ := hR.cellAt (i := k * 3 + m) (by omega)
            have f0 := hR.frozen (k * 3 + m)
            have HB := Lib.hid hb; have HR := Lib.hid hR; have HCS := Lib.hid hcs; have HAT := Lib.hid hat
            clear hb hR hcs hat HC
            go_wp2
            go_roundw
            case rel =>
              refine ⟨m + 1, by omega, by go_num, by simp; omega, grown_set HB.out _ _, _, HR.out.set _ _, by simpa using HCS.out, fun j hj => ?_⟩
              rw [Array.getElem?_setIfInBounds]
              by_cases hjk : k * 3 + m = j
              · subst hjk
                rw [if_pos rfl, if_pos (by have := HCS.out; omega)]
                first | rfl | simp
              · rw [if_neg hjk]; exact HAT.out j (by omega)
            case measure => simp [intOf]; omega
          · obtain rfl : m = 3 := by omega
            go_wp2
            go_roundw
            case rel => exact ⟨k + 1, by omega, by go_num, by simp; omega, HC.out.1, HC.out.2.elim fun cur h => ⟨cur, h.1, h.2.1, fun j hj => h.2.2 j (by omega)⟩⟩
            case measure => simp [intOf]; omega
      · obtain rfl : k = n := by omega
        go_wp2
        go_ret
        obtain ⟨hb, cur, hR, hcs, hat⟩ := HC.out
        exact ⟨ret_int (by simp), .inr ⟨g, cur, rfl, hR, hcs, hat⟩, hb⟩

theorem markSystem_any (v : Int) (A : Option Addr) (n c : Nat) (k0 : Int) (w : World) (hA : Wr w 72 A (n * 3)) (hn : n ≤ 268435456) (h0 : 0 ≤ k0) (h1 : k0 ≤ 1073741824) :
    Calls Try.prog 23 #[.agg #[.int .i64 v, .slice A n c], .int .i64 k0] w fun e w' => e = .returned (.int .i64 (k0 + n * 3)) ∧ Mk w' 72 A (n * 3) k0 ∧ w.grownBy w' (A.map Addr.block) := by
  have HA := Lib.hid hA; clear hA
  go_enter Try.func23, Try.ntmps23
  go_wp2_with (go_at_call 65; refine (markBlockS_any A n c k0 _ (HA.out.below (below_alloc _ _)) hn h0 h1).mono ?_; rintro e w1 ⟨rfl, hm, hg⟩)
  have HM := Lib.hid hm; have HG := Lib.hid hg; clear hm hg
  go_ret
  exact ⟨ret_int rfl, HM.out, grown_trans (grown_below (below_alloc _ _) _) HG.out⟩

end Go.Proofs.Ytpdkkbimhhhjmaa
