/- Contracts for TurnOf, of the reference and of the program; conditions: stated in each. -/
import Derived.Test.YtpdkkbimhhhjmaaQTab1
namespace Go.Proofs.Ytpdkkbimhhhjmaa
open Go.RowKit
set_option maxHeartbeats 400000
set_option maxRecDepth 100000
set_option linter.unusedSimpArgs false
set_option linter.unusedVariables false

theorem specTurn_any (v : Int) (A : Option Addr) (c : Nat) (xs : List Blk) (a : Int) (w : World) (hA : Bl w A xs) (hl : xs.length ≤ 1048576) :
    Calls Try.prog 48 #[.agg #[.int .i64 v, .slice A xs.length c], .int .i64 a] w (LP w (turnR v xs a).1 (turnR v xs a).2) := by
  have HN : Hid (turnR v xs a = if elCode v xs (v - 1) [a] ≠ 0 then ([], elCode v xs (v - 1) [a]) else (tabR (prodI xs) v.toNat a.toNat, 0)) := rfl
  generalize turnR v xs a = R at *
  have HI := Lib.hid (Il.new1 w (.cells #[.int .i64 v, .slice A xs.length c] 30) [a] 2)
  have HV : Hid (isSysB v xs = true → 0 ≤ v ∧ v ≤ 100) := fun h => by have := (isSysB_iff.1 h).1; omega
  by_cases h1 : elCode v xs (v - 1) [a] = 0
  · obtain ⟨hs, hin, _⟩ := elCode_zero h1
    have hin2 := in_one hin
    have hv := (isSysB_iff.1 hs).1
    have HS := Lib.hid (isSysB_iff.1 hs)
    have H := Lib.hid h1; clear h1 hin hs
    obtain ⟨n, rfl⟩ := Int.eq_ofNat_of_zero_le (by omega : 0 ≤ v)
    obtain ⟨a, rfl⟩ := Int.eq_ofNat_of_zero_le hin2.1
    go_enter Try.func48, Try.ntmps48
    have HA := Lib.hid hA; clear hA; have HR := Lib.hid (Row.box w 30 (.int .i64 n) (.slice A xs.length c)); have HW := Lib.hid (Since.refl w)
    replace HA := Lib.hid (HA.out.below (below_alloc _ (.cells #[.int .i64 n, .slice A xs.length c] 30))); replace HW := Lib.hid (HW.out.below (below_alloc _ (.cells #[.int .i64 n, .slice A xs.length c] 30)))
    go_wp2_with fail
    replace HA := Lib.hid (HA.out.below (below_alloc _ (.cells #[.int .i64 a] 2))); replace HW := Lib.hid (HW.out.below (below_alloc _ (.cells #[.int .i64 a] 2))); replace HR := Lib.hid (HR.out.below (below_alloc _ (.cells #[.int .i64 a] 2))); (try clear c0 c1); obtain ⟨c0, c1⟩ := HR.out.c2
    refine (l09Points_any n A c xs n (some ⟨w.heap.size + 1, 0, none⟩) 1 [(a : Int)] _ HA.out hl HI.out (by simp) HV.out).mono ?_; rw [H.out]; rintro e w_ ⟨rfl, hb⟩; replace HA := Lib.hid (HA.out.below hb); replace HW := Lib.hid (HW.out.below hb); replace HR := Lib.hid (HR.out.below hb); clear hb; (try clear c0 c1); obtain ⟨c0, c1⟩ := HR.out.c2
    go_wp2_with fail
    refine (l09Table_any n A c xs _ HA.out hl HS.out).mono ?_
    rintro e W ⟨u, hs, rfl, hL, hb⟩
    have HSZ : Hid (w.heap.size ≤ w_.heap.size) := HW.out.size
    replace HW := Lib.hid (HW.out.below hb); clear hb
    obtain ⟨gu, cu, rfl, hgb, hgl⟩ := hL.form (by omega)
    obtain ⟨hcell, _, _⟩ := hL.at_ (k := a) (by omega)
    have hR := hL.2.1 a (by omega)
    obtain ⟨gr, cr, hhk, _, hgrl, _⟩ := hR.form (by rw [tabR_len]; omega)
    rw [tabR_len] at hhk
    rw [hhk] at hcell hR
    have HRo := Lib.hid hR
    have HLen : Hid ((tabR (prodI xs) n a).length = n) := tabR_len _ _ _
    clear hR hhk hL
    go_wp2_with fail
    refine (l01Own_any _ _ (tabR (prodI xs) n a) _ HRo.out (by rw [HLen.out]; omega)).mono ?_
    rintro e w3 ⟨r, rfl, hr, hb⟩
    have HO := Lib.hid (own_base hr HW.out.size)
    clear hr
    replace HW := Lib.hid (HW.out.below hb); clear hb
    go_wp2
    go_ret2
    exact LP.mk HO.out (by rw [HN.out, if_neg (by simp [H.out])]; rfl) (by rw [HN.out, if_neg (by simp [H.out])]) HW.out
  · have h1' : (elCode v xs (v - 1) [a] != 0) = true := by simpa using h1
    have h1'' : (elCode v xs (v - 1) [a] == 0) = false := by simpa using h1
    have H := Lib.hid h1; clear h1
    have HA := Lib.hid hA; clear hA; have HR := Lib.hid (Row.box w 30 (.int .i64 v) (.slice A xs.length c)); have HW := Lib.hid (Since.refl w); go_enter Try.func48, Try.ntmps48; go_wp2_with fail; replace HA := Lib.hid (HA.out.below (below_alloc _ (.cells #[.int .i64 v, .slice A xs.length c] 30))); replace HW := Lib.hid (HW.out.below (below_alloc _ (.cells #[.int .i64 v, .slice A xs.length c] 30)))
    replace HA := Lib.hid (HA.out.below (below_alloc _ (.cells #[.int .i64 a] 2))); replace HW := Lib.hid (HW.out.below (below_alloc _ (.cells #[.int .i64 a] 2))); replace HR := Lib.hid (HR.out.below (below_alloc _ (.cells #[.int .i64 a] 2))); (try clear c0 c1); obtain ⟨c0, c1⟩ := HR.out.c2
    refine (l09Points_any v A c xs v (some ⟨w.heap.size + 1, 0, none⟩) 1 [a] _ HA.out hl HI.out (by simp) HV.out).mono ?_; rintro e w_ ⟨rfl, hb⟩; replace HW := Lib.hid (HW.out.below hb); clear hb
    go_wp2
    go_ret2
    exact LP.nil (by rw [HN.out, if_pos H.out]) (by rw [HN.out, if_pos H.out]) HW.out

theorem turn_any (n a : Nat) (g : Nat) (G : Nat → Int) (A : Option Addr) (c l : Nat) (w : World) (hG : Gr w g G) (hn : n ≤ 15) (ha : a < n) :
    Calls Try.prog 100 #[.agg #[.int .i64 n, .slice A l c], .pointer (some ⟨g, 0, none⟩), .int .i64 a] w fun e w' => ∃ u, e = .returned u ∧ Ro w' w.heap.size u (tabR (prodG G) n a) ∧ Below w.heap.size w w' := by
  obtain ⟨ni0, hni, hni0, hni1, hni2⟩ := info_parts infoInt'
  have HG := Lib.hid (hG.below (below_alloc w (.cells #[.int .i64 n, .slice A l c] 30)))
  have HR := Lib.hid (Row.box w 30 (.int .i64 n) (.slice A l c))
  have HW := Lib.hid (below_alloc w (.cells #[.int .i64 n, .slice A l c] 30))
  clear hG
  go_enter Try.func100, Try.ntmps100
  obtain ⟨c0, c1⟩ := HR.out.c2
  go_wp2
  clear c0 c1
  generalize w.alloc _ = W at *
  go_loopw [7, 11] (fun u i wr => ∃ k : Nat, k ≤ n ∧ i = .int .i64 k ∧ Hid (Below W.heap.size W wr ∧ Ro wr W.heap.size u (tabR (prodG G) k a))) (fun _ i _ => n - (intOf i).toNat)
  case atStart => exact ⟨0, by omega, rfl, Below.refl _ _, World.ownsRow_nil _ _ _ _⟩
  case round =>
    obtain ⟨k, hk, rfl, HC⟩ := hrel
    have HN : Hid (tabR (prodG G) (k + 1) a = tabR (prodG G) k a ++ [prodG G a k]) := tabR_succ _ _ _
    have hll := tabR_len (prodG G) k a
    by_cases hlt : k < n
    · go_wp2_with fail
      refine (product_any g G a k _ (HG.out.below HC.out.1) (by omega) (by omega)).mono ?_
      rintro e w' ⟨rfl, rfl⟩
      have HB2 := Lib.hid HC.out.1
      have HO : Hid (wr.ownsRow W.heap.size 2 1 u7 (tabR (prodG G) k a).length ((tabR (prodG G) k a).map (Value.int .i64))) := HC.out.2
      have hbw_ := HB2.out.size; go_wp2_with (at_builtin; refine wpList_append_own _ rfl _ _ 34 rfl (W).heap.size 2 ni0 (.int .i64 0) 1 8 Try.underlying34 hni hni0 hni1 hni2 rfl (by decide) _ _ _ rfl (HO.out.alloc _) ⟨(wr).heap.size, 0, none⟩ 1 1 [.int .i64 (prodG G a k)] rfl rfl (cells_new _ _ _) (by simp [Value.oneCell']) (by unfold maxLen; omega) (by omega) (by simp; omega) ?_; intro v2 w2 hown2 hg2 _); have HO2 := Lib.hid hown2; have HB3 : Hid (Below (W).heap.size (W) w2) := (HB2.out.alloc HB2.out.size _).grown hg2 (by simp; omega) (own_block HO.out); clear hown2 hg2 hbw_
      go_wp2
      go_roundw
      case rel => exact ⟨k + 1, by omega, by go_num, HB3.out, by rw [HN.out]; have h2 := HO2.out; unfold Ro; simpa using h2⟩
      case measure => simp [intOf]; omega
    · obtain rfl : k = n := by omega
      go_wp2
      go_ret
      exact ⟨u7, rfl, own_base HC.out.2 HW.out.size, below_up HW.out HC.out.1⟩

theorem implTurn_any (v : Int) (A : Option Addr) (c : Nat) (xs : List Blk) (a : Int) (w : World) (hA : Bl w A xs) (hl : xs.length ≤ 1048576) :
    Calls Try.prog 49 #[.agg #[.int .i64 v, .slice A xs.length c], .int .i64 a] w (LP w (turnR v xs a).1 (turnR v xs a).2) := by
  have HN : Hid (turnR v xs a = if elCode v xs (v - 1) [a] ≠ 0 then ([], elCode v xs (v - 1) [a]) else (tabR (prodI xs) v.toNat a.toNat, 0)) := rfl
  generalize turnR v xs a = R at *
  have HI := Lib.hid (Il.new1 w (.cells #[.int .i64 v, .slice A xs.length c] 30) [a] 2)
  have hm : wrap64 (v - 1) = v - 1 ∨ isSysB v xs = false := by
    cases hs : isSysB v xs
    · exact .inr rfl
    · have := (isSysB_iff.1 hs).1; left; go_unwrap
  have he : elCode v xs (wrap64 (v - 1)) [a] = elCode v xs (v - 1) [a] := by
    rcases hm with h | h
    · rw [h]
    · exact elCode_bad h
  have HEQ := Lib.hid he
  clear hm he
  by_cases h1 : elCode v xs (v - 1) [a] = 0
  · obtain ⟨hs, hin, _⟩ := elCode_zero h1
    have hin2 := in_one hin
    have HS := Lib.hid (isSysB_iff.1 hs)
    have hv := HS.out.1
    have H := Lib.hid h1; clear h1 hin hs
    obtain ⟨n, rfl⟩ := Int.eq_ofNat_of_zero_le (by omega : 0 ≤ v)
    obtain ⟨a, rfl⟩ := Int.eq_ofNat_of_zero_le hin2.1
    have HT : Hid (tabR (prodG (gridN xs xs.length)) n a = tabR (prodI xs) n a) := List.map_congr_left fun b hb => grid_prod HS.out (by omega) (List.mem_range.1 hb)
    go_enter Try.func49, Try.ntmps49
    have HA := Lib.hid hA; clear hA; have HR := Lib.hid (Row.box w 30 (.int .i64 n) (.slice A xs.length c)); have HW := Lib.hid (Since.refl w)
    replace HA := Lib.hid (HA.out.below (below_alloc _ (.cells #[.int .i64 n, .slice A xs.length c] 30))); replace HW := Lib.hid (HW.out.below (below_alloc _ (.cells #[.int .i64 n, .slice A xs.length c] 30)))
    go_wp2_with fail
    replace HA := Lib.hid (HA.out.below (below_alloc _ (.cells #[.int .i64 a] 2))); replace HW := Lib.hid (HW.out.below (below_alloc _ (.cells #[.int .i64 a] 2))); replace HR := Lib.hid (HR.out.below (below_alloc _ (.cells #[.int .i64 a] 2))); (try clear c0 c1); obtain ⟨c0, c1⟩ := HR.out.c2
    refine (elementsCode_any n A c xs _ (some ⟨w.heap.size + 1, 0, none⟩) 1 [(a : Int)] _ HA.out hl HI.out (by simp)).mono ?_; rw [H.out]; rintro e w_ ⟨rfl, hb⟩; replace HA := Lib.hid (HA.out.below hb); replace HW := Lib.hid (HW.out.below hb); replace HR := Lib.hid (HR.out.below hb); clear hb; (try clear c0 c1); obtain ⟨c0, c1⟩ := HR.out.c2
    go_wp2
    have HKEEP := Lib.hid (And.intro c0 c1)
    clear c0 c1
    go_region_held3 (fun w' => w'.cell? ⟨w.heap.size, 0, none⟩ = some (.int .i64 n) ∧ w'.cell? ⟨w.heap.size, 1, none⟩ = some (.slice A xs.length c)) (first | exact HKEEP.out) (first
      | (go_at_call 73
         refine (grid_any n A c xs _ (HA.out.below (below_drew _)) hl HS.out).mono ?_
         rintro e w1 ⟨g, rfl, hle, hGr, hb⟩
         have HGr := Lib.hid hGr
         replace HW := Lib.hid (HW.out.below (below_up (below_drew _) hb))
         replace HR := Lib.hid (HR.out.below (below_up (below_drew _) hb))
         replace HKEEP := Lib.hid HR.out.c2
         clear hb hGr hle)
      | (go_at_call 100
         refine (turn_any n a g _ A c xs.length _ HGr.out (by omega) (by omega)).mono ?_
         rw [HT.out]
         rintro e w2 ⟨u, rfl, hr, hb⟩
         have HO := Lib.hid (own_base hr HW.out.size)
         replace HW := Lib.hid (HW.out.below hb)
         replace HKEEP := Lib.hid (HR.out.below hb).c2
         clear hr hb))
    all_goals
      go_wp2
      go_ret2
      exact LP.mk HO.out (by rw [HN.out, if_neg (by simp [H.out])]; rfl) (by rw [HN.out, if_neg (by simp [H.out])]) HW.out
  · have h1' : (elCode v xs (v - 1) [a] != 0) = true := by simpa using h1
    have h1'' : (elCode v xs (v - 1) [a] == 0) = false := by simpa using h1
    have H := Lib.hid h1; clear h1
    have HA := Lib.hid hA; clear hA; have HR := Lib.hid (Row.box w 30 (.int .i64 v) (.slice A xs.length c)); have HW := Lib.hid (Since.refl w); go_enter Try.func49, Try.ntmps49; go_wp2_with fail; replace HA := Lib.hid (HA.out.below (below_alloc _ (.cells #[.int .i64 v, .slice A xs.length c] 30))); replace HW := Lib.hid (HW.out.below (below_alloc _ (.cells #[.int .i64 v, .slice A xs.length c] 30)))
    replace HA := Lib.hid (HA.out.below (below_alloc _ (.cells #[.int .i64 a] 2))); replace HW := Lib.hid (HW.out.below (below_alloc _ (.cells #[.int .i64 a] 2))); replace HR := Lib.hid (HR.out.below (below_alloc _ (.cells #[.int .i64 a] 2))); (try clear c0 c1); obtain ⟨c0, c1⟩ := HR.out.c2
    refine (elementsCode_any v A c xs _ (some ⟨w.heap.size + 1, 0, none⟩) 1 [a] _ HA.out hl HI.out (by simp)).mono ?_
    first | rw [HEQ.out] | skip
    rintro e w_ ⟨rfl, hb⟩
    replace HW := Lib.hid (HW.out.below hb); clear hb
    go_wp2
    go_ret2
    exact LP.nil (by rw [HN.out, if_pos H.out]) (by rw [HN.out, if_pos H.out]) HW.out

end Go.Proofs.Ytpdkkbimhhhjmaa
