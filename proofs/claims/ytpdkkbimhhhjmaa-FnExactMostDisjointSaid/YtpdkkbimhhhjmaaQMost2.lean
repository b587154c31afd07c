/- Contracts for MostDisjoint, of the reference and of the program; conditions: stated in each. -/
import Derived.Test.YtpdkkbimhhhjmaaQCnt
import Derived.Test.YtpdkkbimhhhjmaaW22
namespace Go.Proofs.Ytpdkkbimhhhjmaa
open Go.RowKit
set_option maxHeartbeats 400000
set_option maxRecDepth 100000
set_option linter.unusedSimpArgs false
set_option linter.unusedVariables false

noncomputable def mostR (v : Int) (xs : List Blk) : List Int × Int := if isSysB v xs = true then (bestK xs 5, 0) else ([], 1)
theorem way_nil (v : Int) (xs : List Blk) : Way v xs [] 0 0 := ⟨fun k hk => by simp at hk, fun i hi => by simp at hi, rfl, rfl⟩
theorem best_is {v : Int} {xs : List Blk} (hs : isSys v xs) : bestK xs 5 = mostF [] (allL xs 5 []) := best_all hs (by have := hs.1; omega) (Nat.le_refl _)
theorem mostR_bd (v : Int) (xs : List Blk) : (mostR v xs).1.length ≤ 15 := by
  unfold mostR; split
  · rename_i h
    have hs := isSysB_iff.1 h
    have : (bestK xs 5).length ≤ 5 := by
      rw [best_is hs]
      exact mostF_le (by simp) fun l hl => by have := (all_bd hs.2.2.1 5 [] (way_nil v xs).1 (way_nil v xs).2.1 l hl).2.1; simpa using this
    show (bestK xs 5).length ≤ 15
    omega
  · simp

theorem specMost_any (v : Int) (A : Option Addr) (c : Nat) (xs : List Blk) (w : World) (hA : Bl w A xs) (hl : xs.length ≤ 1048576) :
    Calls Try.prog 39 #[.agg #[.int .i64 v, .slice A xs.length c]] w (LP w (mostR v xs).1 (mostR v xs).2) := by
  cases hs : isSysB v xs
  · have HN : Hid (mostR v xs = ([], 1)) := by unfold Hid mostR; simp [hs]
    generalize mostR v xs = R at *
    have HA := Lib.hid hA; clear hA; have HR := Lib.hid (Row.box w 30 (.int .i64 v) (.slice A xs.length c)); have HW := Lib.hid (Since.refl w); go_enter Try.func39, Try.ntmps39; go_wp2_with fail; replace HA := Lib.hid (HA.out.below (below_alloc _ (.cells #[.int .i64 v, .slice A xs.length c] 30))); replace HW := Lib.hid (HW.out.below (below_alloc _ (.cells #[.int .i64 v, .slice A xs.length c] 30)))
    refine (l01Is_any v A c xs _ HA.out hl).mono ?_; rw [hs]; rintro e w_ ⟨rfl, hb⟩; replace HW := Lib.hid (HW.out.below hb); clear hb
    go_wp2
    go_ret2
    exact LP.nil (by rw [HN.out]) (by rw [HN.out]) HW.out
  · have HN : Hid (mostR v xs = (bestK xs 5, 0)) := by unfold Hid mostR; simp [hs]
    have HS := Lib.hid (isSysB_iff.1 hs)
    have HBI := Lib.hid (best_is HS.out)
    have hv := HS.out.1
    generalize mostR v xs = R at *
    have HA := Lib.hid hA; clear hA; have HR := Lib.hid (Row.box w 30 (.int .i64 v) (.slice A xs.length c)); have HW := Lib.hid (Since.refl w); go_enter Try.func39, Try.ntmps39; go_wp2_with fail; replace HA := Lib.hid (HA.out.below (below_alloc _ (.cells #[.int .i64 v, .slice A xs.length c] 30))); replace HW := Lib.hid (HW.out.below (below_alloc _ (.cells #[.int .i64 v, .slice A xs.length c] 30)))
    refine (l01Is_any v A c xs _ HA.out hl).mono ?_; rw [hs]; rintro e w_ ⟨rfl, hb⟩; replace HA := Lib.hid (HA.out.below hb); replace HW := Lib.hid (HW.out.below hb); replace HR := Lib.hid (HR.out.below hb); clear hb; (try clear c0 c1); obtain ⟨c0, c1⟩ := HR.out.c2
    go_wp2_with fail
    have HE1 : Hid (Ro (w_.alloc (.cells #[] 2)) w_.heap.size (.slice (some ⟨w_.heap.size, 0, none⟩) 0 0) []) := own_empty _ _ _
    have HE2 : Hid (Ro ((w_.alloc (.cells #[] 2)).alloc (.cells #[] 2)) w_.heap.size (.slice (some ⟨w_.heap.size + 1, 0, none⟩) 0 0) []) := by
      have h : Ro ((w_.alloc (.cells #[] 2)).alloc (.cells #[] 2)) (w_.alloc (.cells #[] 2)).heap.size (.slice (some ⟨(w_.alloc (.cells #[] 2)).heap.size, 0, none⟩) 0 0) [] := own_empty _ _ _
      rw [World.size_alloc] at h
      exact own_base h (Nat.le_succ _)
    have HB2 := Lib.hid (below_up (below_alloc w_ (.cells #[] 2)) (below_alloc (w_.alloc (.cells #[] 2)) (.cells #[] 2)))
    refine (l05Most_any v A c xs HS.out 5 w_.heap.size [] [] (.slice (some ⟨w_.heap.size, 0, none⟩) 0 0) (.slice (some ⟨w_.heap.size + 1, 0, none⟩) 0 0) 0 0 _ (by simp; omega) (by simp) (way_nil v xs) (by simp) HB2.out.size (HA.out.below HB2.out) (HE1.out.below (below_alloc _ _)) HE2.out).mono ?_
    rintro e w3 ⟨u, rfl, hR, hb⟩
    have HO := Lib.hid (own_base hR HW.out.size)
    have HW3 := Lib.hid (HW.out.below (below_up HB2.out hb)); clear hR hb
    go_wp2
    go_ret2
    exact LP.mk HO.out (by rw [HN.out, HBI.out]) (by rw [HN.out]) HW3.out

theorem implMost_any (v : Int) (A : Option Addr) (c : Nat) (xs : List Blk) (w : World) (hA : Bl w A xs) (hl : xs.length ≤ 1048576) :
    Calls Try.prog 40 #[.agg #[.int .i64 v, .slice A xs.length c]] w (LP w (mostR v xs).1 (mostR v xs).2) := by
  cases hs : isSysB v xs
  · have HN : Hid (mostR v xs = ([], 1)) := by unfold Hid mostR; simp [hs]
    generalize mostR v xs = R at *
    have HA := Lib.hid hA; clear hA; have HR := Lib.hid (Row.box w 30 (.int .i64 v) (.slice A xs.length c)); have HW := Lib.hid (Since.refl w); go_enter Try.func40, Try.ntmps40; go_wp2_with fail; replace HA := Lib.hid (HA.out.below (below_alloc _ (.cells #[.int .i64 v, .slice A xs.length c] 30))); replace HW := Lib.hid (HW.out.below (below_alloc _ (.cells #[.int .i64 v, .slice A xs.length c] 30)))
    refine (IsSystem_any v A c xs _ HA.out hl).mono ?_; rw [hs]; rintro e w_ ⟨rfl, hb⟩; replace HW := Lib.hid (HW.out.below hb); clear hb
    go_wp2
    go_ret2
    exact LP.nil (by rw [HN.out]) (by rw [HN.out]) HW.out
  · have HN : Hid (mostR v xs = (bestK xs 5, 0)) := by unfold Hid mostR; simp [hs]
    have HS := Lib.hid (isSysB_iff.1 hs)
    have hv := HS.out.1
    generalize mostR v xs = R at *
    have HA := Lib.hid hA; clear hA; have HR := Lib.hid (Row.box w 30 (.int .i64 v) (.slice A xs.length c)); have HW := Lib.hid (Since.refl w); go_enter Try.func40, Try.ntmps40; go_wp2_with fail; replace HA := Lib.hid (HA.out.below (below_alloc _ (.cells #[.int .i64 v, .slice A xs.length c] 30))); replace HW := Lib.hid (HW.out.below (below_alloc _ (.cells #[.int .i64 v, .slice A xs.length c] 30)))
    refine (IsSystem_any v A c xs _ HA.out hl).mono ?_; rw [hs]; rintro e w_ ⟨rfl, hb⟩; replace HA := Lib.hid (HA.out.below hb); replace HW := Lib.hid (HW.out.below hb); replace HR := Lib.hid (HR.out.below hb); clear hb; (try clear c0 c1); obtain ⟨c0, c1⟩ := HR.out.c2
    go_wp2
    clear c0 c1
    go_loopw [4, 5] (fun u i wr => ∃ k : Nat, 1 ≤ k ∧ k ≤ 6 ∧ i = .int .i64 k ∧ Hid (Below w_.heap.size w_ wr ∧ Ro wr w.heap.size u (bestK xs (k - 1)))) (fun _ i _ => 6 - (intOf i).toNat)
    case atStart => exact ⟨1, by omega, by omega, rfl, Below.refl _ _, World.ownsRow_nil _ _ _ _⟩
    case round =>
      obtain ⟨k, hk1, hk6, rfl, HC⟩ := hrel
      obtain ⟨c0, c1⟩ := (HR.out.below HC.out.1).c2
      have hsz := (HR.out.below HC.out.1).lt
      by_cases hlt : k ≤ 5
      · have HBK : Hid (bestK xs k = match disL xs k [] with | [] => bestK xs (k - 1) | l :: _ => l) := by
          obtain ⟨j, rfl⟩ : ∃ j, k = j + 1 := ⟨k - 1, by omega⟩
          rfl
        go_wp2_with fail
        refine (disTop_any v A c xs k _ (HA.out.below HC.out.1) HS.out hlt).mono ?_
        rintro e w3 ⟨u, rfl, hL, hb⟩
        obtain ⟨B, e, rfl⟩ := hL.slice
        have HL := Lib.hid hL; clear hL
        have HB3 := Lib.hid (below_up HC.out.1 hb)
        have HO3 := Lib.hid (HC.out.2.below hb)
        have HSW : Hid (w.heap.size ≤ wr.heap.size) := Nat.le_trans HW.out.size HC.out.1.size
        clear hb
        cases hd : disL xs k [] with
        | nil =>
          rw [hd] at HL HBK
          have HBK2 : Hid (bestK xs k = bestK xs (k - 1)) := HBK
          clear c0 c1
          go_wp2
          go_roundw
          case rel => exact ⟨k + 1, by omega, by omega, by go_num, HB3.out, by rw [Nat.add_sub_cancel, HBK2.out]; exact HO3.out⟩
          case measure => simp [intOf]; omega
        | cons l L =>
          rw [hd] at HL HBK
          have HBK2 : Hid (bestK xs k = l) := HBK
          obtain ⟨g, r, rfl, hgl, hcell, hR⟩ := HL.out.at_ (k := 0) (by simp)
          have e1 : nthLL (l :: L) 0 = l := rfl
          rw [e1] at hR
          obtain ⟨C, f, rfl⟩ := own_slice hR
          have HR2 := Lib.hid (own_base hR HSW.out)
          clear c0 c1 hR e1
          have hpos : 0 < (l :: L).length := by simp
          have hbd : (l :: L).length ≤ 1000000000 := by
            rw [← hd]
            have h1 := dis_bd HS.out.2.1 k []
            have h35 : 35 ^ k ≤ 35 ^ 5 := Nat.pow_le_pow_right (by omega) hlt
            have h5 : 35 ^ 5 = 52521875 := by decide
            omega
          generalize (l :: L).length = LN at *
          go_wp2
          go_roundw
          case rel => exact ⟨k + 1, by omega, by omega, by go_num, HB3.out, by rw [Nat.add_sub_cancel, HBK2.out]; exact HR2.out⟩
          case measure => simp [intOf]; omega
      · obtain rfl : k = 6 := by omega
        go_wp2
        go_ret2
        exact LP.mk HC.out.2 (by rw [HN.out]) (by rw [HN.out]) (HW.out.below HC.out.1)

end Go.Proofs.Ytpdkkbimhhhjmaa
