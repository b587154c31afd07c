/- Contracts: gridOf, areBlocks, IsSystem, System.grid; conditions: stated in each. -/
import Derived.Test.YtpdkkbimhhhjmaaW4
import Derived.Test.YtpdkkbimhhhjmaaW3
namespace Go.Proofs.Ytpdkkbimhhhjmaa
open Go.RowKit
set_option maxHeartbeats 400000

def GridOut (w w' : World) (xs : List Blk) (ptr : Option Addr) : Prop :=
  Below w.heap.size w w' ∧ (fits xs → ∃ g, ptr = some ⟨g, 0, none⟩ ∧ w.heap.size ≤ g ∧ Gr w' g (gridN xs xs.length))

theorem gridOf_any (A : Option Addr) (c : Nat) (xs : List Blk) (w : World) (hA : Bl w A xs) (hl : xs.length ≤ 1048576) (hgd : ∀ k, k < xs.length → goodB 15 (nth xs k) = true) :
    Calls Try.prog 117 #[.slice A xs.length c] w fun e w' => ∃ ptr, e = .returned (.tuple #[.pointer ptr, .bool (fitsB xs)]) ∧ GridOut w w' xs ptr := by
  have HA := Lib.hid hA; have HGD := Lib.hid hgd; clear hA hgd
  go_enter Try.func117, Try.ntmps117
  go_wp2_with (go_at_call 133; refine (newGrid_any _).mono ?_; rintro e w0 ⟨g, rfl, hG, hle, hb0⟩)
  have HG := Lib.hid hG; have HB := Lib.hid hb0; clear hG hb0
  go_loopw [10] (fun i wr => ∃ k : Nat, k ≤ xs.length ∧ i = .int .i64 k ∧ Hid (Below w.heap.size w wr ∧ Gr wr g (gridN xs k) ∧ ∀ i, i < k → ∀ j, j < i → comI (nth xs i) (nth xs j) ≤ 1)) (fun i _ => xs.length - (intOf i).toNat)
  case atStart => exact ⟨0, by omega, rfl, HB.out, HG.out, fun i hi => by omega⟩
  case round =>
    obtain ⟨k, hk, rfl, HC⟩ := hrel
    by_cases hlt : k < xs.length
    · obtain ⟨b1, o1, hA1, hb1, p0, p1, p2⟩ := (HA.out.below HC.out.1).at_ hlt
      subst hA1
      have hgk := Lib.hid (HGD.out k hlt)
      have HL : Hid (leftB (gridN xs k) (nth xs k) = true ↔ ∀ j, j < k → comI (nth xs k) (nth xs j) ≤ 1) := left_iff (fun j hj => HGD.out j (by omega)) hgk.out
      by_cases hc : leftB (gridN xs k) (nth xs k) = true
      · go_wp2_with fail
        refine (isLeft_any g (gridN xs k) (nth xs k) _ (HC.out.2.1.below (below_alloc _ _)) hgk.out).mono ?_
        rintro e w1 ⟨rfl, hb1'⟩
        have q0 : w1.cell? ⟨wr.heap.size, 0, none⟩ = some (.int .i64 (nth xs k).1) := (hb1'.cell (p := ⟨wr.heap.size, 0, none⟩) (by simp)).trans (by simp [go_sem])
        have q1 : w1.cell? ⟨wr.heap.size, 1, none⟩ = some (.int .i64 (nth xs k).2.1) := (hb1'.cell (p := ⟨wr.heap.size, 1, none⟩) (by simp)).trans (by simp [go_sem])
        have q2 : w1.cell? ⟨wr.heap.size, 2, none⟩ = some (.int .i64 (nth xs k).2.2) := (hb1'.cell (p := ⟨wr.heap.size, 2, none⟩) (by simp)).trans (by simp [go_sem])
        have HB1 : Hid (Below wr.heap.size wr w1) := below_up (below_alloc _ _) hb1'
        clear hb1'
        go_wp2_with fail
        refine (put_true g (gridN xs k) (nth xs k) _ (HC.out.2.1.below HB1.out) hgk.out).mono ?_
        rintro e w2 ⟨rfl, hG2, hgr2⟩
        have HG2 := Lib.hid hG2; have HGR2 := Lib.hid hgr2; clear hG2 hgr2
        go_wp2
        go_roundw
        case rel =>
          refine ⟨k + 1, by omega, by go_num, ?_, HG2.out, fun i hi => ?_⟩
          · refine (below_up HC.out.1 HB1.out).grown HGR2.out (Nat.le_trans HC.out.1.size HB1.out.size) (fun j hj => ?_)
            injection hj with hj; omega
          · by_cases hik : i < k
            · exact HC.out.2.2 i hik
            · obtain rfl : i = k := by omega
              exact HL.out.1 hc
        case measure => simp [intOf]; omega
      · have hc' : leftB (gridN xs k) (nth xs k) = false := by simpa using hc
        have HN : Hid (¬ ∀ j, j < k → comI (nth xs k) (nth xs j) ≤ 1) := fun h => hc (HL.out.2 h)
        clear hc
        go_wp2_with fail
        refine (isLeft_any g (gridN xs k) (nth xs k) _ (HC.out.2.1.below (below_alloc _ _)) hgk.out).mono ?_
        rintro e w1 ⟨rfl, hb1'⟩
        have HB1 : Hid (Below wr.heap.size wr w1) := below_up (below_alloc _ _) hb1'
        clear hb1'
        go_wp2
        go_ret2
        have hnf : ¬ fits xs := fun h => HN.out fun j hj => h k hlt j hj
        refine ⟨none, ?_, below_up HC.out.1 HB1.out, fun h => absurd h hnf⟩
        rw [fitsB_false hnf]; rfl
    · obtain rfl : k = xs.length := by omega
      go_wp2
      go_ret2
      obtain ⟨hb, hG, hf⟩ := HC.out
      refine ⟨_, ?_, hb, fun _ => ⟨g, rfl, hle, hG⟩⟩
      rw [fitsB_true hf]; rfl

theorem areBlocks_any (v : Int) (A : Option Addr) (c : Nat) (xs : List Blk) (w : World) (hA : Bl w A xs) (hl : xs.length ≤ 1048576) :
    Calls Try.prog 106 #[.int .i64 v, .slice A xs.length c] w fun e w' => e = .returned (.bool (isSysB v xs)) ∧ Below w.heap.size w w' := by
  have HA := Lib.hid hA; clear hA
  have hnot : ¬ ((3 ≤ v ∧ v ≤ 15) ∧ xs.length ≤ 35) → isSysB v xs = false := fun h => isSysB_false fun hs => h ⟨hs.1, hs.2.1⟩
  by_cases hv : 3 ≤ v ∧ v ≤ 15
  · by_cases h35 : xs.length ≤ 35
    · clear hnot
      have hv0 : 0 ≤ v := by omega
      have hv1 : v ≤ 1048576 := by omega
      go_enter Try.func106, Try.ntmps106
      go_wp2_with (go_at_call 56; refine (within_any _ _ _ _).mono ?_; rintro e w' ⟨rfl, rfl⟩)
      go_loopw [19] (fun i wr => ∃ k : Nat, k ≤ xs.length ∧ i = .int .i64 k ∧ Below w.heap.size w wr ∧ Hid (∀ j, j < k → goodB v (nth xs j) = true ∧ (0 < j → befB (nth xs (j - 1)) (nth xs j) = true))) (fun i _ => xs.length - (intOf i).toNat)
      case atStart => exact ⟨0, by omega, rfl, Below.refl _ _, fun i hi => by omega⟩
      case round =>
        obtain ⟨k, hk, rfl, hb, HC⟩ := hrel
        have HB := Lib.hid hb; clear hb
        by_cases hlt : k < xs.length
        · obtain ⟨b1, o1, hA1, hb1, p0, p1, p2⟩ := (HA.out.below HB.out).at_ hlt
          subst hA1
          have hbx := Box.new wr (nth xs k) 72
          have hba := below_alloc wr (.cells #[.int .i64 (nth xs k).1, .int .i64 (nth xs k).2.1, .int .i64 (nth xs k).2.2] 72)
          by_cases hg : goodB v (nth xs k) = true
          · by_cases hk0 : 0 < k
            · obtain ⟨b2, o2, hA2, hb2, s0, s1, s2⟩ := (HA.out.below HB.out).at_ (k := k - 1) (by omega)
              simp only [Option.some.injEq, Addr.mk.injEq] at hA2
              obtain ⟨rfl, rfl, -⟩ := hA2
              have hcm : decide (cmpB (nth xs (k - 1)) (nth xs k) ≥ 0) = !befB (nth xs (k - 1)) (nth xs k) := cmpB_bef _ _
              have HCM := Lib.hid hcm; clear hcm
              have cb := cmpB_bd (nth xs (k - 1)) (nth xs k)
              have HBX := Lib.hid hbx; have HBA := Lib.hid hba; clear hbx hba
              by_cases hf : befB (nth xs (k - 1)) (nth xs k) = true
              all_goals
                have hcn : cmpB (nth xs (k - 1)) (nth xs k) < 0 ↔ befB (nth xs (k - 1)) (nth xs k) = true := by
                  have := HCM.out
                  rw [Bool.eq_iff_iff] at this
                  simp only [decide_eq_true_eq, Bool.not_eq_true'] at this
                  cases h : befB (nth xs (k - 1)) (nth xs k) <;> simp [h] at this ⊢ <;> omega
                have HCN := Lib.hid hcn; clear hcn
              · have hlt0 : cmpB (nth xs (k - 1)) (nth xs k) < 0 := HCN.out.2 hf
                go_wp2
                have q0 := HBX.out.2 0 (by omega)
                have q1 := HBX.out.2 1 (by omega)
                have q2 := HBX.out.2 2 (by omega)
                simp only [el, if_true, if_false, Nat.one_ne_zero, Nat.reduceEqDiff] at q0 q1 q2
                have t0 := (HBA.out.cell (p := ⟨b1, o1 + k * 3, none⟩) hb1).trans p0
                have t3 := (HBA.out.cell (p := ⟨b1, o1 + (k - 1) * 3, none⟩) hb1).trans s0
                have t4 := (HBA.out.cell (p := ⟨b1, o1 + (k - 1) * 3 + 1, none⟩) hb1).trans s1
                have t5 := (HBA.out.cell (p := ⟨b1, o1 + (k - 1) * 3 + 2, none⟩) hb1).trans s2
                have z1 := HBX.out.1
                have z2 : b1 < _ := Nat.lt_of_lt_of_le hb1 HBA.out.size
                generalize wr.alloc _ = W at *
                refine wp_region_ge_lit (by kernel_rfl) (by kernel_rfl) ?_; (repeat (go_big_quiet_step (first | (go_at_call 130; exact ge_call (isBlock_any (nth xs k) v _ hv0 hv1)) | (go_at_call 131; exact ge_call (compare_any (nth xs (k - 1)) (nth xs k) _))))); refine wpQuiet_nil ?_
                rintro w1 ⟨x, rfl⟩
                go_wp2
                go_roundw
                case rel =>
                  refine ⟨k + 1, by omega, by go_num, below_up HB.out (below_up HBA.out (ge_below _ _)), fun j hj => ?_⟩
                  by_cases hjk : j < k
                  · exact HC.out j hjk
                  · obtain rfl : j = k := by omega
                    exact ⟨hg, fun _ => hf⟩
                case measure => simp [intOf]; omega
              · have hlt0 : 0 ≤ cmpB (nth xs (k - 1)) (nth xs k) := by
                  have := HCN.out
                  rcases Int.lt_or_le (cmpB (nth xs (k - 1)) (nth xs k)) 0 with h | h
                  · exact absurd (this.1 h) hf
                  · exact h
                go_wp2
                have q0 := HBX.out.2 0 (by omega)
                have q1 := HBX.out.2 1 (by omega)
                have q2 := HBX.out.2 2 (by omega)
                simp only [el, if_true, if_false, Nat.one_ne_zero, Nat.reduceEqDiff] at q0 q1 q2
                have t0 := (HBA.out.cell (p := ⟨b1, o1 + k * 3, none⟩) hb1).trans p0
                have t3 := (HBA.out.cell (p := ⟨b1, o1 + (k - 1) * 3, none⟩) hb1).trans s0
                have t4 := (HBA.out.cell (p := ⟨b1, o1 + (k - 1) * 3 + 1, none⟩) hb1).trans s1
                have t5 := (HBA.out.cell (p := ⟨b1, o1 + (k - 1) * 3 + 2, none⟩) hb1).trans s2
                have z1 := HBX.out.1
                have z2 : b1 < _ := Nat.lt_of_lt_of_le hb1 HBA.out.size
                generalize wr.alloc _ = W at *
                refine wp_region_ge_lit (by kernel_rfl) (by kernel_rfl) ?_; (repeat (go_big_quiet_step (first | (go_at_call 130; exact ge_call (isBlock_any (nth xs k) v _ hv0 hv1)) | (go_at_call 131; exact ge_call (compare_any (nth xs (k - 1)) (nth xs k) _))))); refine wpQuiet_nil ?_
                rintro w1 ⟨x, rfl⟩
                go_wp2
                go_ret
                exact ⟨ret_bool (isSysB_false fun h => absurd (HCN.out.2 ((h.2.2.1 k hlt).2 hk0)) (by omega)).symm, below_up HB.out (below_up HBA.out (ge_below _ _))⟩
            · obtain rfl : k = 0 := by omega
              rw [Nat.zero_mul, Nat.add_zero] at p0 p1 p2
              have HBX := Lib.hid hbx; have HBA := Lib.hid hba; clear hbx hba
              go_wp2
              have q0 := HBX.out.2 0 (by omega)
              have q1 := HBX.out.2 1 (by omega)
              have q2 := HBX.out.2 2 (by omega)
              simp only [el, if_true, if_false, Nat.one_ne_zero, Nat.reduceEqDiff] at q0 q1 q2
              have z1 := HBX.out.1
              generalize wr.alloc _ = W at *
              refine wp_region_ge_lit (by kernel_rfl) (by kernel_rfl) ?_; (repeat (go_big_quiet_step (first | (go_at_call 130; exact ge_call (isBlock_any (nth xs 0) v _ hv0 hv1))))); refine wpQuiet_nil ?_
              rintro w1 ⟨x, rfl⟩
              go_wp2
              go_roundw
              case rel =>
                refine ⟨1, by omega, rfl, below_up HB.out (below_up HBA.out (ge_below _ _)), fun j hj => ?_⟩
                obtain rfl : j = 0 := by omega
                exact ⟨hg, fun h => by omega⟩
              case measure => simp [intOf]; omega
          · have hg' : goodB v (nth xs k) = false := by simpa using hg
            have HBX := Lib.hid hbx; have HBA := Lib.hid hba; clear hbx hba hg
            go_wp2
            have q0 := HBX.out.2 0 (by omega)
            have q1 := HBX.out.2 1 (by omega)
            have q2 := HBX.out.2 2 (by omega)
            simp only [el, if_true, if_false, Nat.one_ne_zero, Nat.reduceEqDiff] at q0 q1 q2
            have z1 := HBX.out.1
            generalize wr.alloc _ = W at *
            refine wp_region_ge_lit (by kernel_rfl) (by kernel_rfl) ?_; (repeat (go_big_quiet_step (first | (go_at_call 130; exact ge_call (isBlock_any (nth xs k) v _ hv0 hv1))))); refine wpQuiet_nil ?_
            rintro w1 ⟨x, rfl⟩
            go_wp2
            go_ret
            exact ⟨ret_bool (isSysB_false fun h => by have := (h.2.2.1 k hlt).1; rw [hg'] at this; cases this).symm, below_up HB.out (below_up HBA.out (ge_below _ _))⟩
        · obtain rfl : k = xs.length := by omega
          have hgd : ∀ k, k < xs.length → goodB 15 (nth xs k) = true := fun k hk => good_mono (HC.out k hk).1 hv.2
          have HGD := Lib.hid hgd; clear hgd
          go_wp2_with (go_at_call 117; refine (gridOf_any A c xs _ (HA.out.below HB.out) hl HGD.out).mono ?_; rintro e w' ⟨ptr, rfl, hgo⟩)
          go_ret
          refine ⟨ret_bool ?_, below_up HB.out hgo.1⟩
          rw [Bool.eq_iff_iff, fitsB_iff, isSysB_iff]
          exact ⟨fun h => ⟨hv, h35, HC.out, h⟩, fun h => h.2.2.2⟩
    · have h35' : 35 < xs.length := by omega
      have hr := hnot (fun h => h35 h.2)
      clear hnot h35
      go_enter Try.func106, Try.ntmps106
      go_wp2_with (go_at_call 56; refine (within_any _ _ _ _).mono ?_; rintro e w' ⟨rfl, rfl⟩)
      go_ret
      exact ⟨ret_bool hr.symm, Below.refl _ _⟩
  · have hr := hnot (fun h => hv h.1)
    have hv' : decide (3 ≤ v ∧ v ≤ 15) = false := by simpa using hv
    clear hnot hv
    go_enter Try.func106, Try.ntmps106
    go_wp2_with (go_at_call 56; refine (within_any _ _ _ _).mono ?_; rintro e w' ⟨rfl, rfl⟩)
    go_ret
    exact ⟨ret_bool hr.symm, Below.refl _ _⟩

theorem IsSystem_any (v : Int) (A : Option Addr) (c : Nat) (xs : List Blk) (w : World) (hA : Bl w A xs) (hl : xs.length ≤ 1048576) :
    Calls Try.prog 55 #[.agg #[.int .i64 v, .slice A xs.length c]] w fun e w' => e = .returned (.bool (isSysB v xs)) ∧ Below w.heap.size w w' := by
  have HA := Lib.hid hA; clear hA
  go_enter Try.func55, Try.ntmps55
  go_wp2_with (go_at_call 106; refine (areBlocks_any v A c xs _ (HA.out.below (below_alloc _ _)) hl).mono ?_; rintro e w' ⟨rfl, hb⟩)
  go_ret
  exact ⟨ret_bool rfl, below_up (below_alloc _ _) hb⟩

end Go.Proofs.Ytpdkkbimhhhjmaa
