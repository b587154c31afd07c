/- Contracts for IsDistributive, of the reference and of the program; conditions: stated in each. -/
import Derived.Test.YtpdkkbimhhhjmaaQTab3
import Derived.Deep.CutRange
namespace Go.Proofs.Ytpdkkbimhhhjmaa
open Go.RowKit
set_option maxHeartbeats 400000
set_option maxRecDepth 100000
set_option linter.unusedSimpArgs false
set_option linter.unusedVariables false

noncomputable def dsR (v : Int) (xs : List Blk) : Bool × Int := if elCode v xs 0 [] ≠ 0 then (false, elCode v xs 0 []) else (disB (prodI xs) v.toNat, 0)

theorem specDst_any (v : Int) (A : Option Addr) (c : Nat) (xs : List Blk) (w : World) (hA : Bl w A xs) (hl : xs.length ≤ 1048576) :
    Calls Try.prog 30 #[.agg #[.int .i64 v, .slice A xs.length c]] w fun e w' => e = .returned (.tuple #[.bool (dsR v xs).1, .int .i64 (dsR v xs).2]) ∧ Below w.heap.size w w' := by
  have HN : Hid (dsR v xs = if elCode v xs 0 [] ≠ 0 then (false, elCode v xs 0 []) else (disB (prodI xs) v.toNat, 0)) := rfl
  generalize dsR v xs = R at *
  by_cases h1 : elCode v xs 0 [] = 0
  · obtain ⟨hs, hin, hf⟩ := elCode_zero h1
    have HS := Lib.hid (isSysB_iff.1 hs); have HF := Lib.hid hf
    have hv := HS.out.1
    have H := Lib.hid h1; clear h1 hin hs hf
    obtain ⟨n, rfl⟩ := Int.eq_ofNat_of_zero_le (by omega : 0 ≤ v)
    have HBD : Hid (∀ a b : Nat, a < n → b < n → 0 ≤ prodI xs a b ∧ prodI xs a b < n) := fun a b ha hb => prod_bd HS.out HF.out (by omega) (by omega)
    go_enter Try.func30, Try.ntmps30
    have HA := Lib.hid hA; clear hA; have HR := Lib.hid (Row.box w 30 (.int .i64 n) (.slice A xs.length c)); have HW := Lib.hid (Since.refl w)
    replace HA := Lib.hid (HA.out.below (below_alloc _ (.cells #[.int .i64 n, .slice A xs.length c] 30))); replace HW := Lib.hid (HW.out.below (below_alloc _ (.cells #[.int .i64 n, .slice A xs.length c] 30)))
    go_wp2_with fail
    refine (l03Whole_any n A c xs _ HA.out hl).mono ?_; rw [H.out]; rintro e w_ ⟨rfl, hb⟩; replace HA := Lib.hid (HA.out.below hb); replace HW := Lib.hid (HW.out.below hb); replace HR := Lib.hid (HR.out.below hb); clear hb; (try clear c0 c1); obtain ⟨c0, c1⟩ := HR.out.c2
    go_wp2_with fail
    refine (l09Table_any n A c xs _ HA.out hl HS.out).mono ?_
    rintro e W ⟨u, hs, rfl, hL, hb⟩
    replace HW := Lib.hid (HW.out.below hb); clear hb
    obtain ⟨g, cu, rfl, hgb, hgl⟩ := hL.form (by omega)
    have HT := Lib.hid (hL.tb (by omega))
    have HRR : Hid (R = (disB (prodI xs) n, 0)) := by unfold Hid; rw [HN.out, if_neg (by simp [H.out])]; rfl
    clear hL HN hgl c0 c1 HBD hgb
    have HOP : Hid (∀ a b : Nat, a < n → b < n → 0 ≤ prodI xs a b ∧ prodI xs a b < n) := fun a b ha hb => prod_bd HS.out HF.out (by omega) (by omega)
    generalize hop : prodI xs = op at *
    go_wp2
    go_loopw [6] (fun i wr => ∃ k : Nat, k ≤ n ∧ i = .int .i64 k ∧ Hid (Below W.heap.size W wr ∧ ∀ a b c : Nat, a < k → b < n → c < b → op a (op b c) = op (op a b) (op a c))) (fun i _ => n - (intOf i).toNat)
    case atStart => exact ⟨0, by omega, rfl, Below.refl _ _, fun a b c ha => by omega⟩
    case round =>
      obtain ⟨k, hk, rfl, HC⟩ := hrel
      by_cases hlt : k < n
      · go_wp2
        obtain ⟨wo, rfl⟩ : ∃ wo : World, wo = wr := ⟨_, rfl⟩
        go_loopw [7] (fun i wr => ∃ j : Nat, j ≤ n ∧ i = .int .i64 j ∧ Hid (Below W.heap.size W wr ∧ ∀ b c : Nat, b < j → c < b → op k (op b c) = op (op k b) (op k c))) (fun i _ => n - (intOf i).toNat)
        case atStart => exact ⟨0, by omega, rfl, HC.out.1, fun b c hb => by omega⟩
        case round =>
          obtain ⟨j, hj, rfl, HD⟩ := hrel
          by_cases hlt2 : j < n
          · go_wp2
            obtain ⟨wo, rfl⟩ : ∃ wo : World, wo = wr := ⟨_, rfl⟩
            go_loopw [8] (fun i wr => ∃ d : Nat, d ≤ j ∧ i = .int .i64 d ∧ Hid (Below W.heap.size W wr ∧ ∀ c : Nat, c < d → op k (op j c) = op (op k j) (op k c))) (fun i _ => j - (intOf i).toNat)
            case atStart => exact ⟨0, by omega, rfl, HD.out.1, fun c hc => by omega⟩
            case round =>
              obtain ⟨d, hd, rfl, HE⟩ := hrel
              by_cases hlt3 : d < j
              · have hTw := HT.out.below HE.out.1
                have hab := HOP.out k j hlt hlt2
                have hbc := HOP.out j d hlt2 (by omega)
                have hac := HOP.out k d hlt (by omega)
                obtain ⟨x, hx⟩ := Int.eq_ofNat_of_zero_le hab.1
                obtain ⟨y, hy⟩ := Int.eq_ofNat_of_zero_le hbc.1
                obtain ⟨z, hz⟩ := Int.eq_ofNat_of_zero_le hac.1
                have hxm : x < n := by omega
                have hym : y < n := by omega
                have hzm : z < n := by omega
                have hdn : d < n := by omega
                obtain ⟨p1, o1, d1, hp1, q1, r1⟩ := hTw.2 k hlt
                obtain ⟨p2, o2, d2, hp2, q2, r2⟩ := hTw.2 j hlt2
                obtain ⟨p3, o3, d3, hp3, q3, r3⟩ := hTw.2 x hxm
                have t1 := r1 j hlt2
                have t2 := r1 y hym
                have t3 := r2 d hdn
                have t4 := r1 d hdn
                have t5 := r3 z hzm
                have HX := Lib.hid hx; have HY := Lib.hid hy; have HZ := Lib.hid hz
                rw [hx] at t1
                rw [hy] at t3
                rw [hz] at t4
                have hB : ((op k y != op x z) = false) ∨ ((op k y != op x z) = true) := by cases h : (op k y != op x z) <;> simp
                clear hab hbc hac hx hy hz r1 r2 r3 hTw
                go_wp2
                have HKEEP := Lib.hid (And.intro q1 (And.intro q2 (And.intro q3 (And.intro t1 (And.intro t2 (And.intro t3 (And.intro t4 t5)))))))
                clear q1 q2 q3 t1 t2 t3 t4 t5
                go_region_held3 (fun w' => w'.cell? ⟨g, k, none⟩ = some (.slice (some ⟨p1, o1, none⟩) n d1) ∧ w'.cell? ⟨g, j, none⟩ = some (.slice (some ⟨p2, o2, none⟩) n d2) ∧ w'.cell? ⟨g, x, none⟩ = some (.slice (some ⟨p3, o3, none⟩) n d3) ∧ w'.cell? ⟨p1, o1 + j, none⟩ = some (.int .i64 (x : Int)) ∧ w'.cell? ⟨p1, o1 + y, none⟩ = some (.int .i64 (op k y)) ∧ w'.cell? ⟨p2, o2 + d, none⟩ = some (.int .i64 (y : Int)) ∧ w'.cell? ⟨p1, o1 + d, none⟩ = some (.int .i64 (z : Int)) ∧ w'.cell? ⟨p3, o3 + z, none⟩ = some (.int .i64 (op x z))) (first | exact HKEEP.out) (fail)
                rcases hB with hB | hB
                · go_wp2
                  go_roundw
                  case rel =>
                    refine ⟨d + 1, by omega, by go_num, below_up HE.out.1 (below_drew _), fun c hc => ?_⟩
                    by_cases hcd : c < d
                    · exact HE.out.2 c hcd
                    · obtain rfl : c = d := by omega
                      rw [HX.out, HY.out, HZ.out]
                      simpa using hB
                  case measure => simp [intOf]; omega
                · go_wp2
                  go_ret2
                  refine ⟨?_, HW.out.below (below_up HE.out.1 (below_drew _))⟩
                  rw [HRR.out, disB_false (fun h => ?_)]
                  · rfl
                  · have := h k j d hlt hlt2 hlt3
                    rw [HX.out, HY.out, HZ.out] at this
                    rw [this] at hB
                    simp at hB
              · obtain rfl : d = j := by omega
                go_wp2
                go_roundw
                case rel =>
                  refine ⟨d + 1, by omega, by go_num, HE.out.1, fun b c hb hc => ?_⟩
                  by_cases hbd : b < d
                  · exact HD.out.2 b c hbd hc
                  · obtain rfl : b = d := by omega
                    exact HE.out.2 c hc
                case measure => simp [intOf]; omega
          · obtain rfl : j = n := by omega
            go_wp2
            go_roundw
            case rel =>
              refine ⟨k + 1, by omega, by go_num, HD.out.1, fun a b c ha hb hc => ?_⟩
              by_cases hak : a < k
              · exact HC.out.2 a b c hak hb hc
              · obtain rfl : a = k := by omega
                exact HD.out.2 b c hb hc
            case measure => simp [intOf]; omega
      · obtain rfl : k = n := by omega
        go_wp2
        go_ret2
        refine ⟨?_, HW.out.below HC.out.1⟩
        rw [HRR.out, disB_true HC.out.2]; rfl
  · have h1' : (elCode v xs 0 [] != 0) = true := by simpa using h1
    have h1'' : (elCode v xs 0 [] == 0) = false := by simpa using h1
    have H := Lib.hid h1; clear h1
    have HA := Lib.hid hA; clear hA; have HR := Lib.hid (Row.box w 30 (.int .i64 v) (.slice A xs.length c)); have HW := Lib.hid (Since.refl w); go_enter Try.func30, Try.ntmps30; go_wp2_with fail; replace HA := Lib.hid (HA.out.below (below_alloc _ (.cells #[.int .i64 v, .slice A xs.length c] 30))); replace HW := Lib.hid (HW.out.below (below_alloc _ (.cells #[.int .i64 v, .slice A xs.length c] 30)))
    refine (l03Whole_any v A c xs _ HA.out hl).mono ?_; rintro e w_ ⟨rfl, hb⟩; replace HW := Lib.hid (HW.out.below hb); clear hb
    go_wp2
    go_ret2
    exact ⟨by rw [HN.out, if_pos H.out]; rfl, HW.out⟩

theorem dstCl_any (r g n : Nat) (G : Nat → Int) (a b c : Nat) (w : World) (hr : w.cell? ⟨r, 0, none⟩ = some (.pointer (some ⟨g, 0, none⟩))) (hG : Gr w g G) (hn : n ≤ 15)
    (h : ∀ a b : Nat, a < n → b < n → a ≠ b → 0 ≤ G (a * 15 + b) ∧ G (a * 15 + b) < n) (ha : a < n) (hb : b < n) (hc : c < n) :
    Calls Try.prog 78 #[.int .i64 (a : Int), .int .i64 (b : Int), .int .i64 (c : Int), .pointer (some ⟨r, 0, none⟩)] w fun e w' => e = .returned (.bool (prodG G a (prodG G b c) == prodG G (prodG G a b) (prodG G a c))) ∧ Below w.heap.size w w' := by
  have hab := prodG_bd h ha hb
  have hbc := prodG_bd h hb hc
  have hac := prodG_bd h ha hc
  clear h
  have HG := Lib.hid hG; have HR := Lib.hid hr; clear hG hr
  go_enter Try.func78, Try.ntmps78
  go_wp2
  go_region_held3 (fun w' => w'.cell? ⟨r, 0, none⟩ = some (.pointer (some ⟨g, 0, none⟩))) (first | exact HR.out) (first
    | (go_at_call 79
       refine (product_any g G _ _ _ (HG.out.below (below_drew _)) (by omega) (by omega)).mono ?_
       rintro e w' ⟨rfl, rfl⟩))
  go_wp2
  go_ret
  exact ⟨rfl, below_drew _⟩
def dstB (op : Int → Int → Int) (a b c : Nat) : Bool := op a (op b c) == op (op a b) (op a c)
theorem dstB_prod {n : Nat} {xs : List Blk} (hs : isSys n xs) (hf : fullB n xs = true) {a b c : Nat} (ha : a < n) (hb : b < n) (hc : c < n) :
    (prodG (gridN xs xs.length) a (prodG (gridN xs xs.length) b c) == prodG (gridN xs xs.length) (prodG (gridN xs xs.length) a b) (prodG (gridN xs xs.length) a c)) = dstB (prodI xs) a b c := by
  unfold dstB
  have h1 := prod_bd hs hf (a := a) (b := b) (by omega) (by omega)
  have h2 := prod_bd hs hf (a := b) (b := c) (by omega) (by omega)
  have h3 := prod_bd hs hf (a := a) (b := c) (by omega) (by omega)
  rw [grid_prod hs ha hb, grid_prod hs hb hc, grid_prod hs ha hc]
  obtain ⟨x, hx⟩ := Int.eq_ofNat_of_zero_le h1.1
  obtain ⟨y, hy⟩ := Int.eq_ofNat_of_zero_le h2.1
  obtain ⟨z, hz⟩ := Int.eq_ofNat_of_zero_le h3.1
  rw [hx, hy, hz, grid_prod hs ha (by omega), grid_prod hs (by omega) (by omega)]

set_option maxHeartbeats 8000000 in
theorem implDst_any (v : Int) (A : Option Addr) (c : Nat) (xs : List Blk) (w : World) (hA : Bl w A xs) (hl : xs.length ≤ 1048576) :
    Calls Try.prog 31 #[.agg #[.int .i64 v, .slice A xs.length c]] w fun e w' => e = .returned (.tuple #[.bool (dsR v xs).1, .int .i64 (dsR v xs).2]) ∧ Below w.heap.size w w' := by
  have HN : Hid (dsR v xs = if elCode v xs 0 [] ≠ 0 then (false, elCode v xs 0 []) else (disB (prodI xs) v.toNat, 0)) := rfl
  generalize dsR v xs = R at *
  by_cases h1 : elCode v xs 0 [] = 0
  · obtain ⟨hs, hin, hf⟩ := elCode_zero h1
    have HS := Lib.hid (isSysB_iff.1 hs); have HF := Lib.hid hf
    have hv := HS.out.1
    have H := Lib.hid h1; clear h1 hin hs hf
    obtain ⟨n, rfl⟩ := Int.eq_ofNat_of_zero_le (by omega : 0 ≤ v)
    have HRR : Hid (R = (disB (prodI xs) n, 0)) := by unfold Hid; rw [HN.out, if_neg (by simp [H.out])]; rfl
    have HCN : Hid ((cntT n (dstB (prodI xs)) == n * (n * n)) = disB (prodI xs) n) := disB_cnt (prod_symm xs) (fun a => by simp [prodI])
    have hle := cntT_le n (dstB (prodI xs))
    have hm : 0 ≤ (n : Int) * n ∧ (n : Int) * n ≤ 225 ∧ 0 ≤ (n : Int) * n * n ∧ (n : Int) * n * n ≤ 3375 := by
      have hh : ∀ n : Nat, n ≤ 15 → 0 ≤ (n : Int) * n ∧ (n : Int) * n ≤ 225 ∧ 0 ≤ (n : Int) * n * n ∧ (n : Int) * n * n ≤ 3375 := by decide +kernel
      exact hh n (by omega)
    have HE : Hid (((n * (n * n) : Nat) : Int) = (n : Int) * n * n) := by unfold Hid; push_cast; rw [Int.mul_assoc]
    clear HN
    generalize hN : cntT n (dstB (prodI xs)) = N at *
    go_enter Try.func31, Try.ntmps31
    have HA := Lib.hid hA; clear hA; have HR := Lib.hid (Row.box w 30 (.int .i64 n) (.slice A xs.length c)); have HW := Lib.hid (Since.refl w)
    replace HA := Lib.hid (HA.out.below (below_alloc _ (.cells #[.int .i64 n, .slice A xs.length c] 30))); replace HW := Lib.hid (HW.out.below (below_alloc _ (.cells #[.int .i64 n, .slice A xs.length c] 30)))
    go_wp2_with fail
    refine (elementsNone_any n A c xs _ HA.out hl).mono ?_; rw [H.out]; rintro e w_ ⟨rfl, hb⟩; replace HA := Lib.hid (HA.out.below hb); replace HW := Lib.hid (HW.out.below hb); replace HR := Lib.hid (HR.out.below hb); clear hb; (try clear c0 c1); obtain ⟨c0, c1⟩ := HR.out.c2
    go_wp2
    have hsw := HR.out.lt
    go_cut [5, 6] from 12 to 15 (fun a b wx => ∃ q g, a = .pointer (some ⟨q, 0, none⟩) ∧ b = .int .i64 n ∧ Hid (Below w_.heap.size w_ wx ∧ wx.cell? ⟨q, 0, none⟩ = some (.pointer (some ⟨g, 0, none⟩)) ∧ Gr wx g (gridN xs xs.length) ∧ q < wx.heap.size))
    case first =>
      go_region_with (go_at_call 73
                      refine (grid_any n A c xs _ (HA.out.below (by (repeat' (first | (with_reducible exact Below.refl _ _) | (with_reducible assumption) | (with_reducible refine below_drewN ?_ _) | (with_reducible refine Below.drew ?_) | (with_reducible refine Below.alloc ?_ ?_ _) | (with_reducible refine Below.setCell ?_ ?_ _) | go_size)))) hl HS.out).mono ?_
                      rintro e w1 ⟨g, rfl, hle, hGr, hb⟩
                      have HGr := Lib.hid hGr
                      have HW1 : Hid (Below w_.heap.size w_ w1) := below_up (by (repeat' (first | (with_reducible exact Below.refl _ _) | (with_reducible assumption) | (with_reducible refine below_drewN ?_ _) | (with_reducible refine Below.drew ?_) | (with_reducible refine Below.alloc ?_ ?_ _) | (with_reducible refine Below.setCell ?_ ?_ _) | go_size))) hb
                      have hszr := hb.size
                      have hgl := hGr.lt
                      obtain ⟨e0, e1⟩ := (HR.out.below (below_up (by (repeat' (first | (with_reducible exact Below.refl _ _) | (with_reducible assumption) | (with_reducible refine below_drewN ?_ _) | (with_reducible refine Below.drew ?_) | (with_reducible refine Below.alloc ?_ ?_ _) | (with_reducible refine Below.setCell ?_ ?_ _) | go_size))) hb)).c2
                      have hsx := (HR.out.below (below_up (by (repeat' (first | (with_reducible exact Below.refl _ _) | (with_reducible assumption) | (with_reducible refine below_drewN ?_ _) | (with_reducible refine Below.drew ?_) | (with_reducible refine Below.alloc ?_ ?_ _) | (with_reducible refine Below.setCell ?_ ?_ _) | go_size))) hb)).lt
                      obtain ⟨hoc, hof⟩ := old_cells hb
                      have k0 := hoc w_.heap.size 0
                      (try simp [go_sem] at k0)
                      have f0 := hof w_.heap.size 0
                      (try simp [go_sem] at f0)
                      (try simp at hszr)
                      (try simp at hle)
                      (try (have z0 := Nat.lt_of_lt_of_le (Nat.lt_succ_self w_.heap.size) hszr))
                      clear hoc hof hGr hb)
      all_goals
        go_wp2_with fail
        go_meet
        first
        | exact ⟨w1.heap.size, g, rfl, rfl, HW1.out.alloc HW1.out.size _, (Row.new w1 _ #[.pointer (some ⟨g, 0, none⟩)]).cell 0, HGr.out.below (below_alloc _ _), by simp⟩
        | exact ⟨w_.heap.size, g, rfl, rfl, HW1.out.setCell (p := ⟨w_.heap.size, 0, none⟩) (Nat.le_refl _) _, World.cell?_setCell_same _ _ _ k0, (Below.heap_setCell w1 ⟨w_.heap.size, 0, none⟩ _ g (fun e => by simp at e; omega)).trans HGr.out, by simpa [World.setCell] using z0⟩
    case rest =>
    obtain ⟨q, g, rfl, rfl, HQ⟩ := hcut
    go_wp2_with fail
    refine (countTriples_any n 78 #[] #[.pointer (some ⟨q, 0, none⟩)] (dstB (prodI xs)) _ (by omega) (fun args w => by kernel_rfl)
      (fun W a b c ha hb hc hbW => by
        have h := dstCl_any q g n (gridN xs xs.length) a b c W ((hbW.cell (p := ⟨q, 0, none⟩) HQ.out.2.2.2).trans HQ.out.2.1) (HQ.out.2.2.1.below hbW) (by omega) (grid_bd HS.out HF.out) ha hb hc
        rw [dstB_prod HS.out HF.out ha hb hc] at h
        exact h)).mono ?_
    rw [hN]
    rintro e w3 ⟨rfl, hb⟩
    have HW3 := Lib.hid (HW.out.below (below_up HQ.out.1 hb)); clear hb
    go_wp2
    go_ret2
    refine ⟨?_, HW3.out⟩
    rw [HRR.out]
    refine ret_bi ?_ rfl
    show _ = disB (prodI xs) n
    rw [← HCN.out, Bool.eq_iff_iff, beq_iff_eq, beq_iff_eq, ← HE.out]
    omega
  · have h1' : (elCode v xs 0 [] != 0) = true := by simpa using h1
    have h1'' : (elCode v xs 0 [] == 0) = false := by simpa using h1
    have H := Lib.hid h1; clear h1
    have HA := Lib.hid hA; clear hA; have HR := Lib.hid (Row.box w 30 (.int .i64 v) (.slice A xs.length c)); have HW := Lib.hid (Since.refl w); go_enter Try.func31, Try.ntmps31; go_wp2_with fail; replace HA := Lib.hid (HA.out.below (below_alloc _ (.cells #[.int .i64 v, .slice A xs.length c] 30))); replace HW := Lib.hid (HW.out.below (below_alloc _ (.cells #[.int .i64 v, .slice A xs.length c] 30)))
    refine (elementsNone_any v A c xs _ HA.out hl).mono ?_; rintro e w_ ⟨rfl, hb⟩; replace HW := Lib.hid (HW.out.below hb); clear hb
    go_wp2
    go_ret2
    exact ⟨by rw [HN.out, if_pos H.out]; rfl, HW.out⟩

end Go.Proofs.Ytpdkkbimhhhjmaa
