/- Contract for CountAssociative, of the program; conditions: stated in it. -/
import Derived.Test.YtpdkkbimhhhjmaaQTab3
import Derived.Deep.CutRange
namespace Go.Proofs.Ytpdkkbimhhhjmaa
open Go.RowKit
set_option maxHeartbeats 400000
set_option maxRecDepth 100000
set_option linter.unusedSimpArgs false
set_option linter.unusedVariables false

set_option maxHeartbeats 40000000 in
theorem implAss_any (v : Int) (A : Option Addr) (c : Nat) (xs : List Blk) (w : World) (hA : Bl w A xs) (hl : xs.length ≤ 1048576) :
    Calls Try.prog 47 #[.agg #[.int .i64 v, .slice A xs.length c]] w fun e w' => e = .returned (.tuple #[.int .i64 (asR v xs).1, .int .i64 (asR v xs).2]) ∧ Below w.heap.size w w' := by
  have HN : Hid (asR v xs = if elCode v xs 0 [] ≠ 0 then (0, elCode v xs 0 []) else (((cntT (v.toNat + 1) (assB (loopI xs v)) : Nat) : Int), 0)) := rfl
  generalize asR v xs = R at *
  by_cases h1 : elCode v xs 0 [] = 0
  · obtain ⟨hs, hin, hf⟩ := elCode_zero h1
    have HS := Lib.hid (isSysB_iff.1 hs); have HF := Lib.hid hf
    have hv := HS.out.1
    have H := Lib.hid h1; clear h1 hin hs hf
    obtain ⟨n, rfl⟩ := Int.eq_ofNat_of_zero_le (by omega : 0 ≤ v)
    have HRR : Hid (R = (((cntT (n + 1) (assB (loopI xs n)) : Nat) : Int), 0)) := by unfold Hid; rw [HN.out, if_neg (by simp [H.out])]; rfl
    clear HN
    go_enter Try.func47, Try.ntmps47
    have HA := Lib.hid hA; clear hA; have HR := Lib.hid (Row.box w 30 (.int .i64 n) (.slice A xs.length c)); have HW := Lib.hid (Since.refl w)
    replace HA := Lib.hid (HA.out.below (below_alloc _ (.cells #[.int .i64 n, .slice A xs.length c] 30))); replace HW := Lib.hid (HW.out.below (below_alloc _ (.cells #[.int .i64 n, .slice A xs.length c] 30)))
    go_wp2_with fail
    refine (elementsNone_any n A c xs _ HA.out hl).mono ?_; rw [H.out]; rintro e w_ ⟨rfl, hb⟩; replace HA := Lib.hid (HA.out.below hb); replace HW := Lib.hid (HW.out.below hb); replace HR := Lib.hid (HR.out.below hb); clear hb; (try clear c0 c1); obtain ⟨c0, c1⟩ := HR.out.c2
    go_wp2
    have hsw := HR.out.lt
    go_cut [5, 6] from 12 to 15 (fun a b wx => ∃ q r g, a = .pointer (some ⟨q, 0, none⟩) ∧ b = .pointer (some ⟨r, 0, none⟩) ∧ Hid (Below w_.heap.size w_ wx ∧ wx.cell? ⟨q, 0, none⟩ = some (.pointer (some ⟨g, 0, none⟩)) ∧ wx.cell? ⟨r, 0, none⟩ = some (.int .i64 n) ∧ Gr wx g (gridN xs xs.length) ∧ q < wx.heap.size ∧ r < wx.heap.size))
    case first =>
      go_region_with (go_at_call 73
                      refine (grid_any n A c xs _ (HA.out.below (by (repeat' (first | (with_reducible exact Below.refl _ _) | (with_reducible assumption) | (with_reducible refine below_drewN ?_ _) | (with_reducible refine Below.drew ?_) | (with_reducible refine Below.alloc ?_ ?_ _) | (with_reducible refine Below.setCell ?_ ?_ _) | go_size)))) hl HS.out).mono ?_
                      rintro e w1 ⟨g, rfl, hle, hGr, hb⟩
                      have HGr := Lib.hid hGr
                      have HW1 : Below w_.heap.size w_ w1 := below_up (by (repeat' (first | (with_reducible exact Below.refl _ _) | (with_reducible assumption) | (with_reducible refine below_drewN ?_ _) | (with_reducible refine Below.drew ?_) | (with_reducible refine Below.alloc ?_ ?_ _) | (with_reducible refine Below.setCell ?_ ?_ _) | go_size))) hb
                      have hszr := hb.size
                      have hgl := hGr.lt
                      obtain ⟨e0, e1⟩ := (HR.out.below (below_up (by (repeat' (first | (with_reducible exact Below.refl _ _) | (with_reducible assumption) | (with_reducible refine below_drewN ?_ _) | (with_reducible refine Below.drew ?_) | (with_reducible refine Below.alloc ?_ ?_ _) | (with_reducible refine Below.setCell ?_ ?_ _) | go_size))) hb)).c2
                      have hsx := (HR.out.below (below_up (by (repeat' (first | (with_reducible exact Below.refl _ _) | (with_reducible assumption) | (with_reducible refine below_drewN ?_ _) | (with_reducible refine Below.drew ?_) | (with_reducible refine Below.alloc ?_ ?_ _) | (with_reducible refine Below.setCell ?_ ?_ _) | go_size))) hb)).lt
                      obtain ⟨hoc, hof⟩ := old_cells hb
                      have k0 := hoc w_.heap.size 0
                      (try simp [go_sem] at k0)
                      have f0 := hof w_.heap.size 0
                      (try simp [go_sem] at f0)
                      have k1 := hoc (w_.heap.size + 1) 0
                      (try simp [go_sem] at k1)
                      have f1 := hof (w_.heap.size + 1) 0
                      (try simp [go_sem] at f1)
                      (try simp at hszr)
                      (try simp at hle)
                      (try (have z0 := Nat.lt_of_lt_of_le (Nat.lt_succ_self w_.heap.size) hszr))
                      (try (have z0 := Nat.lt_of_lt_of_le (Nat.lt_trans (Nat.lt_succ_self w_.heap.size) (Nat.lt_succ_self (w_.heap.size + 1))) hszr))
                      (try (have z1 := Nat.lt_of_lt_of_le (Nat.lt_succ_self (w_.heap.size + 1)) hszr))
                      clear hoc hof hGr hb)
      all_goals
        go_wp2_with fail
        go_meet
        refine ⟨_, _, g, rfl, rfl, ?_, ?_, ?_, ?_, ?_, ?_⟩
        · (repeat' (first | (with_reducible exact Below.refl _ _) | (with_reducible assumption) | (with_reducible refine below_drewN ?_ _) | (with_reducible refine Below.drew ?_) | (with_reducible refine Below.alloc ?_ ?_ _) | (with_reducible refine Below.setCell ?_ ?_ _) | go_size))
        · simp [go_sem, *]
        · simp [go_sem, *]
        · show _ = some _
          repeat' (first | exact HGr.out | refine (Below.heap_setCell _ _ _ _ (by (try simp); (try omega))).trans ?_ | refine (heap_alloc_old _ _ (by (try simp); (try omega))).trans ?_)
        · simp <;> omega
        · simp <;> omega
    case rest =>
    obtain ⟨q, r, g, rfl, rfl, HQ⟩ := hcut
    obtain ⟨k0, k1⟩ := Lib.hid (And.intro HQ.out.2.1 HQ.out.2.2.1) |>.out
    have hrl := HQ.out.2.2.2.2.2
    have hw : (n : Int) + 1 ≤ 16 := by omega
    go_wp2_with fail
    refine (countTriples_any (n + 1) 98 #[] #[.pointer (some ⟨q, 0, none⟩), .pointer (some ⟨r, 0, none⟩)] (assB (loopI xs n)) _ (by omega) (fun args w => by kernel_rfl)
      (fun W a b c ha hb hc hbW => by
        have l1 := loop_bd HS.out HF.out (a := a) (b := b) (by omega) (by omega)
        have l2 := loop_bd HS.out HF.out (a := b) (b := c) (by omega) (by omega)
        rw [← grid_loop HS.out ha hb] at l1
        rw [← grid_loop HS.out hb hc] at l2
        have h := ass_any q r g n (gridN xs xs.length) a b c W ((hbW.cell (p := ⟨q, 0, none⟩) HQ.out.2.2.2.2.1).trans HQ.out.2.1) ((hbW.cell (p := ⟨r, 0, none⟩) HQ.out.2.2.2.2.2).trans HQ.out.2.2.1) (HQ.out.2.2.2.1.below hbW) (by omega) (by omega) (by omega) ha hb hc
        rw [assB_loop HS.out HF.out ha hb hc] at h
        exact h)).mono ?_
    rintro e w3 ⟨rfl, hb⟩
    have HW3 := Lib.hid (HW.out.below (below_up HQ.out.1 hb)); clear hb
    go_wp2
    go_ret2
    exact ⟨by rw [HRR.out]; rfl, HW3.out⟩
  · have h1' : (elCode v xs 0 [] != 0) = true := by simpa using h1
    have h1'' : (elCode v xs 0 [] == 0) = false := by simpa using h1
    have H := Lib.hid h1; clear h1
    have HA := Lib.hid hA; clear hA; have HR := Lib.hid (Row.box w 30 (.int .i64 v) (.slice A xs.length c)); have HW := Lib.hid (Since.refl w); go_enter Try.func47, Try.ntmps47; go_wp2_with fail; replace HA := Lib.hid (HA.out.below (below_alloc _ (.cells #[.int .i64 v, .slice A xs.length c] 30))); replace HW := Lib.hid (HW.out.below (below_alloc _ (.cells #[.int .i64 v, .slice A xs.length c] 30)))
    refine (elementsNone_any v A c xs _ HA.out hl).mono ?_; rintro e w_ ⟨rfl, hb⟩; replace HW := Lib.hid (HW.out.below hb); clear hb
    go_wp2
    go_ret2
    exact ⟨by rw [HN.out, if_pos H.out]; rfl, HW.out⟩

end Go.Proofs.Ytpdkkbimhhhjmaa
