/- Plain laws and contracts, part 15; conditions: stated in each. -/
import Derived.Test.YtbknpflbafjblaaB2
import Derived.Test.YtbknpflbafjblaaB14
set_option linter.unusedSimpArgs false
set_option linter.unusedVariables false
/- The contract of the program's list of Pasch; conditions: stated in it. -/
namespace Go.Proofs.Ytbknpflbafjblaa
open Go.RowKit
set_option maxHeartbeats 2000000
set_option maxRecDepth 100000
set_option linter.unusedSimpArgs false
set_option linter.unusedVariables false

/-- a row of n headers -/
def PLP (w : World) (base n : Nat) (u : Value) : Prop := ∃ hs : List Value, w.ownsRow base 42 1 u n hs
theorem PLP.below {w w' : World} {base n : Nat} {u : Value} (h : PLP w base n u) (hb : Below w.heap.size w w') : PLP w' base n u := h.imp fun hs hh => own_below hh hb
theorem Bl.new4 (w : World) (a b c d : Blk) (t : TypeId) : Bl (w.alloc (.cells #[.int .i64 a.1, .int .i64 a.2.1, .int .i64 a.2.2, .int .i64 b.1, .int .i64 b.2.1, .int .i64 b.2.2, .int .i64 c.1, .int .i64 c.2.1, .int .i64 c.2.2, .int .i64 d.1, .int .i64 d.2.1, .int .i64 d.2.2] t)) (some ⟨w.heap.size, 0, none⟩) [a, b, c, d] := by
  refine Bl.row (Row.new w t _) fun k hk => ?_
  obtain rfl | rfl | rfl | rfl : k = 0 ∨ k = 1 ∨ k = 2 ∨ k = 3 := by simp at hk; omega
  · exact ⟨rfl, rfl, rfl⟩
  · exact ⟨rfl, rfl, rfl⟩
  · exact ⟨rfl, rfl, rfl⟩
  · exact ⟨rfl, rfl, rfl⟩
theorem isPasch4_any {v : Int} {xs : List Blk} (hs : isSys v xs) {i j k m : Nat} (hi : i < xs.length) (hj : j < xs.length) (hk : k < xs.length) (hm : m < xs.length) {r : Bool} (hr : paB xs [(i : Int), j, k, m] = r) (A : Option Addr) (c : Nat) (w : World) (hA : Bl w A [nth xs i, nth xs j, nth xs k, nth xs m]) :
    Calls Try.prog 162 #[.slice A 4 c] w fun e w' => e = .returned (.bool r) ∧ Below w.heap.size w w' := by
  rw [← hr, ← paB_pts hs hi hj hk hm]
  refine isPasch_any A c [nth xs i, nth xs j, nth xs k, nth xs m] w hA (Nat.le_refl _) fun q hq => ?_
  have g := fun i hi => good_mono (hs.2.2.1 i hi).1 hs.1.2
  obtain rfl | rfl | rfl | rfl : q = 0 ∨ q = 1 ∨ q = 2 ∨ q = 3 := by simp at hq; omega
  · exact g i hi
  · exact g j hj
  · exact g k hk
  · exact g m hm
theorem paschs_any (v : Int) (A : Option Addr) (c : Nat) (xs : List Blk) (hs : isSys v xs) (w : World) (hA : Bl w A xs) :
    Calls Try.prog 131 #[.agg #[.int .i64 v, .slice A xs.length c]] w fun e w' => ∃ u, e = .returned u ∧ PLP w' w.heap.size (psA xs).length u ∧ Below w.heap.size w w' := by
  obtain ⟨li0, hli, hli0, hli1, hli2⟩ := info_parts infoList'
  have hx35 := hs.2.1
  have HS := Lib.hid hs
  have HX := Lib.hid (below_alloc w (.cells #[.int .i64 v, .slice A xs.length c] 30))
  have HA := Lib.hid (hA.below HX.out)
  have HR := Lib.hid (Row.box w 30 (.int .i64 v) (.slice A xs.length c))
  -- the counts
  have HN1 : Hid (∀ i, (colL (pr1 xs) (i + 1)).length = (colL (pr1 xs) i).length + (colL (pr2 xs i) xs.length).length) := fun i => by rw [colL, List.length_append]; rfl
  have HN2 : Hid (∀ i j, (colL (pr2 xs i) (j + 1)).length = (colL (pr2 xs i) j).length + if i < j ∧ meetB (nth xs i) (nth xs j) = true then (colL (pr3 xs i j) xs.length).length else 0) := fun i j => by
    rw [colL, List.length_append]; congr 1; conv => lhs; unfold pr2
    split <;> rfl
  have HN3 : Hid (∀ i j k, (colL (pr3 xs i j) (k + 1)).length = (colL (pr3 xs i j) k).length + if j < k ∧ meetB (nth xs i) (nth xs k) = true ∧ meetB (nth xs j) (nth xs k) = true then (colL (pr4 xs i j k) xs.length).length else 0) := fun i j k => by
    rw [colL, List.length_append]; congr 1; conv => lhs; unfold pr3
    split <;> rfl
  have HN4 : Hid (∀ i j k m, (colL (pr4 xs i j k) (m + 1)).length = (colL (pr4 xs i j k) m).length + if k < m ∧ paB xs [(i : Int), j, k, m] = true then 1 else 0) := fun i j k m => by
    rw [colL, List.length_append]; congr 1; conv => lhs; unfold pr4
    split <;> rfl
  have HZ1 : Hid ((colL (pr1 xs) 0).length = 0) := rfl
  have HZ2 : Hid (∀ i, (colL (pr2 xs i) (i + 1)).length = 0) := fun i => by rw [colL_nil (i + 1) fun j hj => by unfold pr2; rw [if_neg (by omega)]]; rfl
  have HZ3 : Hid (∀ i j, (colL (pr3 xs i j) (j + 1)).length = 0) := fun i j => by rw [colL_nil (j + 1) fun k hk => by unfold pr3; rw [if_neg (by omega)]]; rfl
  have HZ4 : Hid (∀ i j k, (colL (pr4 xs i j k) (k + 1)).length = 0) := fun i j k => by rw [colL_nil (k + 1) fun m hm => by unfold pr4; rw [if_neg (by omega)]]; rfl
  have HL1 : Hid (∀ i, (colL (pr1 xs) i).length ≤ i * 42875) := fun i => colL_len (pr1_len hx35) i
  have HL2 : Hid (∀ i j, (colL (pr2 xs i) j).length ≤ j * 1225) := fun i j => colL_len (pr2_len hx35 i) j
  have HL3 : Hid (∀ i j k, (colL (pr3 xs i j) k).length ≤ k * 35) := fun i j k => colL_len (pr3_len hx35 i j) k
  have HL4 : Hid (∀ i j k m, (colL (pr4 xs i j k) m).length ≤ m * 1) := fun i j k m => colL_len (pr4_len xs i j k) m
  show Calls Try.prog _ _ w fun e w' => ∃ u, e = .returned u ∧ PLP w' w.heap.size (colL (pr1 xs) xs.length).length u ∧ Below w.heap.size w w'
  generalize hc1 : (fun i => (colL (pr1 xs) i).length) = C1 at *
  generalize hc2 : (fun i j => (colL (pr2 xs i) j).length) = C2 at *
  generalize hc3 : (fun i j k => (colL (pr3 xs i j) k).length) = C3 at *
  generalize hc4 : (fun i j k m => (colL (pr4 xs i j k) m).length) = C4 at *
  have e1 : ∀ i, (colL (pr1 xs) i).length = C1 i := fun i => by rw [← hc1]
  have e2 : ∀ i j, (colL (pr2 xs i) j).length = C2 i j := fun i j => by rw [← hc2]
  have e3 : ∀ i j k, (colL (pr3 xs i j) k).length = C3 i j k := fun i j k => by rw [← hc3]
  have e4 : ∀ i j k m, (colL (pr4 xs i j k) m).length = C4 i j k m := fun i j k m => by rw [← hc4]
  simp only [e1, e2, e3, e4] at HN1 HN2 HN3 HN4 HZ1 HZ2 HZ3 HZ4 HL1 HL2 HL3 HL4 ⊢
  clear e1 e2 e3 e4 hc1 hc2 hc3 hc4 hA hs
  have HSZ : Hid ((w.alloc (.cells #[.int .i64 v, .slice A xs.length c] 30)).heap.size = w.heap.size + 1) := World.size_alloc _ _
  go_enter Try.func131, Try.ntmps131
  obtain ⟨c0, c1⟩ := HR.out.c2
  have hrl := HR.out.lt
  go_wp2
  clear c0 c1 hrl HR
  generalize w.alloc (.cells #[.int .i64 v, .slice A xs.length c] 30) = W at *
  go_loopw [3, 13] (fun u i wr => ∃ k : Nat, k ≤ xs.length ∧ i = .int .i64 k ∧ Hid (Below W.heap.size W wr ∧ PLP wr W.heap.size (C1 k) u)) (fun _ i _ => xs.length - (intOf i).toNat)
  case atStart => exact ⟨0, by omega, rfl, Below.refl _ _, [], by rw [HZ1.out]; exact World.ownsRow_nil _ _ _ _⟩
  case round =>
    obtain ⟨i, hi, rfl, HC⟩ := hrel
    by_cases hlt : i < xs.length
    · go_wp2
      have HCK := Lib.hid HC.out
      clear HC
      obtain ⟨wo, rfl⟩ : ∃ wo : World, wo = wr := ⟨_, rfl⟩
      go_loopw [3, 6] (fun u ix wr => ∃ j : Nat, i < j ∧ j ≤ xs.length ∧ ix = .int .i64 j ∧ Hid (Below W.heap.size W wr ∧ PLP wr W.heap.size (C1 i + C2 i j) u)) (fun _ ix _ => xs.length - (intOf ix).toNat)
      case atStart => exact ⟨i + 1, by omega, by omega, by go_num, HCK.out.1, by rw [HZ2.out]; exact HCK.out.2⟩
      case round =>
        clear HCK
        obtain ⟨j, hij, hj, rfl, HC⟩ := hrel
        by_cases hltj : j < xs.length
        · obtain ⟨b1, o1, hA1, hb1, p0, p1, p2⟩ := (HA.out.below HC.out.1).at_ hlt
          subst hA1
          obtain ⟨b2, o2, hA2, hb2, q0, q1, q2⟩ := (HA.out.below HC.out.1).at_ hltj
          simp only [Option.some.injEq, Addr.mk.injEq] at hA2
          obtain ⟨rfl, rfl, -⟩ := hA2
          cases hm : meetB (nth xs i) (nth xs j)
          · have HNX : Hid (C2 i (j + 1) = C2 i j) := by unfold Hid; rw [HN2.out, if_neg (fun h => by rw [hm] at h; cases h.2), Nat.add_zero]
            go_wp2
            refine wp_region_ge_lit (by kernel_rfl) (by kernel_rfl) ?_; (repeat (go_big_quiet_step ((go_at_call 161; exact ge_call (meets_is hm _))))); refine wpQuiet_nil ?_
            rintro w1 ⟨x, rfl⟩
            go_wp2
            go_roundw
            case rel => exact ⟨j + 1, by omega, by omega, by go_num, below_up HC.out.1 (ge_below _ _), by rw [HNX.out]; exact HC.out.2.below (ge_below _ _)⟩
            case measure => simp [intOf]; omega
          · have HNX : Hid (C2 i (j + 1) = C2 i j + C3 i j xs.length) := by unfold Hid; rw [HN2.out, if_pos ⟨hij, hm⟩]
            go_wp2
            refine wp_region_ge_lit (by kernel_rfl) (by kernel_rfl) ?_; (repeat (go_big_quiet_step ((go_at_call 161; exact ge_call (meets_is hm _))))); refine wpQuiet_nil ?_
            rintro w1 ⟨x, rfl⟩
            have HCJ : Hid (Below W.heap.size W (ge wr x) ∧ PLP (ge wr x) W.heap.size (C1 i + C2 i j) u3) := ⟨below_up HC.out.1 (ge_below _ _), HC.out.2.below (ge_below _ _)⟩
            clear HC hb1 hb2 p0 p1 p2 q0 q1 q2 hm
            generalize ge wr x = wi at *
            go_wp2
            go_loopw [3, 7] (fun u ix wr => ∃ k : Nat, j < k ∧ k ≤ xs.length ∧ ix = .int .i64 k ∧ Hid (Below W.heap.size W wr ∧ PLP wr W.heap.size (C1 i + C2 i j + C3 i j k) u)) (fun _ ix _ => xs.length - (intOf ix).toNat)
            case atStart => exact ⟨j + 1, by omega, by omega, by go_num, HCJ.out.1, by rw [HZ3.out]; exact HCJ.out.2⟩
            case round =>
              clear HCJ
              obtain ⟨k, hjk, hk, rfl, HC⟩ := hrel
              by_cases hltk : k < xs.length
              · obtain ⟨b2, o2, hA2, hb1, p0, p1, p2⟩ := (HA.out.below HC.out.1).at_ hlt
                simp only [Option.some.injEq, Addr.mk.injEq] at hA2
                obtain ⟨rfl, rfl, -⟩ := hA2
                obtain ⟨b2, o2, hA2, hb2, q0, q1, q2⟩ := (HA.out.below HC.out.1).at_ hltj
                simp only [Option.some.injEq, Addr.mk.injEq] at hA2
                obtain ⟨rfl, rfl, -⟩ := hA2
                obtain ⟨b2, o2, hA2, hb3, r0, r1, r2⟩ := (HA.out.below HC.out.1).at_ hltk
                simp only [Option.some.injEq, Addr.mk.injEq] at hA2
                obtain ⟨rfl, rfl, -⟩ := hA2
                cases hm1 : meetB (nth xs i) (nth xs k)
                · have HNY : Hid (C3 i j (k + 1) = C3 i j k) := by unfold Hid; rw [HN3.out, if_neg (fun h => by rw [hm1] at h; cases h.2.1), Nat.add_zero]
                  go_wp2
                  refine wp_region_ge_lit (by kernel_rfl) (by kernel_rfl) ?_; (repeat (go_big_quiet_step ((go_at_call 161; exact ge_call (meets_is hm1 _))))); refine wpQuiet_nil ?_
                  rintro w1 ⟨x, rfl⟩
                  go_wp2
                  go_roundw
                  case rel => exact ⟨k + 1, by omega, by omega, by go_num, below_up HC.out.1 (ge_below _ _), by rw [HNY.out]; exact HC.out.2.below (ge_below _ _)⟩
                  case measure => simp [intOf]; omega
                · cases hm2 : meetB (nth xs j) (nth xs k)
                  · have HNY : Hid (C3 i j (k + 1) = C3 i j k) := by unfold Hid; rw [HN3.out, if_neg (fun h => by rw [hm2] at h; cases h.2.2), Nat.add_zero]
                    go_wp2
                    refine wp_region_ge_lit (by kernel_rfl) (by kernel_rfl) ?_; (repeat (go_big_quiet_step ((go_at_call 161; first | with_reducible exact ge_call (meets_is hm1 _) | with_reducible exact ge_call (meets_is hm2 _))))); refine wpQuiet_nil ?_
                    rintro w1 ⟨x, rfl⟩
                    go_wp2
                    go_roundw
                    case rel => exact ⟨k + 1, by omega, by omega, by go_num, below_up HC.out.1 (ge_below _ _), by rw [HNY.out]; exact HC.out.2.below (ge_below _ _)⟩
                    case measure => simp [intOf]; omega
                  · have HNY : Hid (C3 i j (k + 1) = C3 i j k + C4 i j k xs.length) := by unfold Hid; rw [HN3.out, if_pos ⟨hjk, hm1, hm2⟩]
                    go_wp2
                    refine wp_region_ge_lit (by kernel_rfl) (by kernel_rfl) ?_; (repeat (go_big_quiet_step ((go_at_call 161; first | with_reducible exact ge_call (meets_is hm1 _) | with_reducible exact ge_call (meets_is hm2 _))))); refine wpQuiet_nil ?_
                    rintro w1 ⟨x, rfl⟩
                    have HCJ : Hid (Below W.heap.size W (ge wr x) ∧ PLP (ge wr x) W.heap.size (C1 i + C2 i j + C3 i j k) u3) := ⟨below_up HC.out.1 (ge_below _ _), HC.out.2.below (ge_below _ _)⟩
                    clear HC hb1 hb2 hb3 p0 p1 p2 q0 q1 q2 r0 r1 r2 hm1 hm2
                    generalize ge wr x = wj at *
                    go_wp2
                    go_loopw [3, 8] (fun u ix wr => ∃ m : Nat, k < m ∧ m ≤ xs.length ∧ ix = .int .i64 m ∧ Hid (Below W.heap.size W wr ∧ PLP wr W.heap.size (C1 i + C2 i j + C3 i j k + C4 i j k m) u)) (fun _ ix _ => xs.length - (intOf ix).toNat)
                    case atStart => exact ⟨k + 1, by omega, by omega, by go_num, HCJ.out.1, by rw [HZ4.out]; exact HCJ.out.2⟩
                    case round =>
                      clear HCJ
                      obtain ⟨m, hkm, hm, rfl, HC⟩ := hrel
                      by_cases hltm : m < xs.length
                      · have HCELL : Hid (∀ w', Below wr.heap.size wr w' → w'.cell? ⟨b1, o1 + i * 3, none⟩ = some (.int .i64 (nth xs i).1) ∧ w'.cell? ⟨b1, o1 + i * 3 + 1, none⟩ = some (.int .i64 (nth xs i).2.1) ∧ w'.cell? ⟨b1, o1 + i * 3 + 2, none⟩ = some (.int .i64 (nth xs i).2.2) ∧ w'.cell? ⟨b1, o1 + j * 3, none⟩ = some (.int .i64 (nth xs j).1) ∧ w'.cell? ⟨b1, o1 + j * 3 + 1, none⟩ = some (.int .i64 (nth xs j).2.1) ∧ w'.cell? ⟨b1, o1 + j * 3 + 2, none⟩ = some (.int .i64 (nth xs j).2.2) ∧ w'.cell? ⟨b1, o1 + k * 3, none⟩ = some (.int .i64 (nth xs k).1) ∧ w'.cell? ⟨b1, o1 + k * 3 + 1, none⟩ = some (.int .i64 (nth xs k).2.1) ∧ w'.cell? ⟨b1, o1 + k * 3 + 2, none⟩ = some (.int .i64 (nth xs k).2.2) ∧ w'.cell? ⟨b1, o1 + m * 3, none⟩ = some (.int .i64 (nth xs m).1) ∧ w'.cell? ⟨b1, o1 + m * 3 + 1, none⟩ = some (.int .i64 (nth xs m).2.1) ∧ w'.cell? ⟨b1, o1 + m * 3 + 2, none⟩ = some (.int .i64 (nth xs m).2.2)) := fun w' hb => by
                          have g : ∀ z, z < xs.length → (w'.cell? ⟨b1, o1 + z * 3, none⟩ = some (.int .i64 (nth xs z).1) ∧ w'.cell? ⟨b1, o1 + z * 3 + 1, none⟩ = some (.int .i64 (nth xs z).2.1) ∧ w'.cell? ⟨b1, o1 + z * 3 + 2, none⟩ = some (.int .i64 (nth xs z).2.2)) := fun z hz => by
                            obtain ⟨b2, o2, hA2, hb1, p0, p1, p2⟩ := ((HA.out.below HC.out.1).below hb).at_ hz
                            simp only [Option.some.injEq, Addr.mk.injEq] at hA2
                            obtain ⟨rfl, rfl, -⟩ := hA2
                            exact ⟨p0, p1, p2⟩
                          exact ⟨(g i hlt).1, (g i hlt).2.1, (g i hlt).2.2, (g j hltj).1, (g j hltj).2.1, (g j hltj).2.2, (g k hltk).1, (g k hltk).2.1, (g k hltk).2.2, (g m hltm).1, (g m hltm).2.1, (g m hltm).2.2⟩
                        have hb1 : b1 < wr.heap.size := by
                          obtain ⟨b2, o2, hA2, hb1, -⟩ := (HA.out.below HC.out.1).at_ hlt
                          simp only [Option.some.injEq, Addr.mk.injEq] at hA2
                          obtain ⟨rfl, rfl, -⟩ := hA2
                          exact hb1
                        have HKEEP := Lib.hid (HCELL.out wr (Below.refl _ _))
                        have HIP := Lib.hid (fun r hr A c w hA => isPasch4_any HS.out hlt hltj hltk hltm (r := r) hr A c w hA)
                        have HBA := Lib.hid (below_alloc wr (.cells #[.int .i64 (nth xs i).1, .int .i64 (nth xs i).2.1, .int .i64 (nth xs i).2.2, .int .i64 (nth xs j).1, .int .i64 (nth xs j).2.1, .int .i64 (nth xs j).2.2, .int .i64 (nth xs k).1, .int .i64 (nth xs k).2.1, .int .i64 (nth xs k).2.2, .int .i64 (nth xs m).1, .int .i64 (nth xs m).2.1, .int .i64 (nth xs m).2.2] 99))
                        have hc1 := HL1.out i; have hc2 := HL2.out i j; have hc3 := HL3.out i j k; have hc4 := HL4.out i j k m
                        have hcs : C1 i + C2 i j + C3 i j k + C4 i j k m ≤ 4000000 := by
                          have : i * 42875 ≤ 35 * 42875 := Nat.mul_le_mul_right _ (by omega)
                          have : j * 1225 ≤ 35 * 1225 := Nat.mul_le_mul_right _ (by omega)
                          omega
                        clear hc1 hc2 hc3 hc4
                        cases hp : paB xs [(i : Int), j, k, m]
                        · have HNZ : Hid (C4 i j k (m + 1) = C4 i j k m) := by unfold Hid; rw [HN4.out, if_neg (fun h => by rw [hp] at h; cases h.2), Nat.add_zero]
                          go_wp2
                          go_region_held3 (fun w' => w'.cell? ⟨b1, o1 + i * 3, none⟩ = some (.int .i64 (nth xs i).1) ∧ w'.cell? ⟨b1, o1 + i * 3 + 1, none⟩ = some (.int .i64 (nth xs i).2.1) ∧ w'.cell? ⟨b1, o1 + i * 3 + 2, none⟩ = some (.int .i64 (nth xs i).2.2) ∧ w'.cell? ⟨b1, o1 + j * 3, none⟩ = some (.int .i64 (nth xs j).1) ∧ w'.cell? ⟨b1, o1 + j * 3 + 1, none⟩ = some (.int .i64 (nth xs j).2.1) ∧ w'.cell? ⟨b1, o1 + j * 3 + 2, none⟩ = some (.int .i64 (nth xs j).2.2) ∧ w'.cell? ⟨b1, o1 + k * 3, none⟩ = some (.int .i64 (nth xs k).1) ∧ w'.cell? ⟨b1, o1 + k * 3 + 1, none⟩ = some (.int .i64 (nth xs k).2.1) ∧ w'.cell? ⟨b1, o1 + k * 3 + 2, none⟩ = some (.int .i64 (nth xs k).2.2) ∧ w'.cell? ⟨b1, o1 + m * 3, none⟩ = some (.int .i64 (nth xs m).1) ∧ w'.cell? ⟨b1, o1 + m * 3 + 1, none⟩ = some (.int .i64 (nth xs m).2.1) ∧ w'.cell? ⟨b1, o1 + m * 3 + 2, none⟩ = some (.int .i64 (nth xs m).2.2)) (first | exact HKEEP.out | (refine HCELL.out _ ?_; (repeat' (first | (with_reducible exact Below.refl _ _) | (with_reducible assumption) | (with_reducible refine below_drewN ?_ _) | (with_reducible refine Below.drew ?_) | (with_reducible refine Below.alloc ?_ ?_ _) | (with_reducible refine Below.setCell ?_ ?_ _) | go_size)); done)) (first
                            | (go_at_call 162
                               refine (HIP.out _ hp _ _ _ (by first | exact (Bl.new4 wr _ _ _ _ _).below (below_drew _) | exact Bl.new4 _ _ _ _ _ _)).mono ?_
                               rintro e w8 ⟨rfl, hb⟩
                               have HB8 : Hid (Below wr.heap.size wr w8) := below_up (by (repeat' (first | (with_reducible exact Below.refl _ _) | (with_reducible assumption) | (with_reducible refine below_drewN ?_ _) | (with_reducible refine Below.drew ?_) | (with_reducible refine Below.alloc ?_ ?_ _) | (with_reducible refine Below.setCell ?_ ?_ _) | go_size))) hb
                               replace HKEEP := Lib.hid (HCELL.out _ HB8.out)
                               clear hb))
                          all_goals
                            have HC8 := Lib.hid (HC.out.2.below HB8.out)
                            have HW8 := Lib.hid (below_up HC.out.1 HB8.out)
                            clear HC HB8 HKEEP HCELL
                            go_wp2
                            go_roundw
                            case rel => exact ⟨m + 1, by omega, by omega, by go_num, HW8.out, by rw [HNZ.out]; exact HC8.out⟩
                            case measure => simp [intOf]; omega
                        · have HNZ : Hid (C4 i j k (m + 1) = C4 i j k m + 1) := by unfold Hid; rw [HN4.out, if_pos ⟨hkm, hp⟩]
                          go_wp2
                          go_region_held3 (fun w' => w'.cell? ⟨b1, o1 + i * 3, none⟩ = some (.int .i64 (nth xs i).1) ∧ w'.cell? ⟨b1, o1 + i * 3 + 1, none⟩ = some (.int .i64 (nth xs i).2.1) ∧ w'.cell? ⟨b1, o1 + i * 3 + 2, none⟩ = some (.int .i64 (nth xs i).2.2) ∧ w'.cell? ⟨b1, o1 + j * 3, none⟩ = some (.int .i64 (nth xs j).1) ∧ w'.cell? ⟨b1, o1 + j * 3 + 1, none⟩ = some (.int .i64 (nth xs j).2.1) ∧ w'.cell? ⟨b1, o1 + j * 3 + 2, none⟩ = some (.int .i64 (nth xs j).2.2) ∧ w'.cell? ⟨b1, o1 + k * 3, none⟩ = some (.int .i64 (nth xs k).1) ∧ w'.cell? ⟨b1, o1 + k * 3 + 1, none⟩ = some (.int .i64 (nth xs k).2.1) ∧ w'.cell? ⟨b1, o1 + k * 3 + 2, none⟩ = some (.int .i64 (nth xs k).2.2) ∧ w'.cell? ⟨b1, o1 + m * 3, none⟩ = some (.int .i64 (nth xs m).1) ∧ w'.cell? ⟨b1, o1 + m * 3 + 1, none⟩ = some (.int .i64 (nth xs m).2.1) ∧ w'.cell? ⟨b1, o1 + m * 3 + 2, none⟩ = some (.int .i64 (nth xs m).2.2)) (first | exact HKEEP.out | (refine HCELL.out _ ?_; (repeat' (first | (with_reducible exact Below.refl _ _) | (with_reducible assumption) | (with_reducible refine below_drewN ?_ _) | (with_reducible refine Below.drew ?_) | (with_reducible refine Below.alloc ?_ ?_ _) | (with_reducible refine Below.setCell ?_ ?_ _) | go_size)); done)) (first
                            | (go_at_call 162
                               refine (HIP.out _ hp _ _ _ (by first | exact (Bl.new4 wr _ _ _ _ _).below (below_drew _) | exact Bl.new4 _ _ _ _ _ _)).mono ?_
                               rintro e w8 ⟨rfl, hb⟩
                               have HB8 : Hid (Below wr.heap.size wr w8) := below_up (by (repeat' (first | (with_reducible exact Below.refl _ _) | (with_reducible assumption) | (with_reducible refine below_drewN ?_ _) | (with_reducible refine Below.drew ?_) | (with_reducible refine Below.alloc ?_ ?_ _) | (with_reducible refine Below.setCell ?_ ?_ _) | go_size))) hb
                               replace HKEEP := Lib.hid (HCELL.out _ HB8.out)
                               clear hb))
                          all_goals
                            have HC8 := Lib.hid (HC.out.2.below HB8.out)
                            have HW8 := Lib.hid (below_up HC.out.1 HB8.out)
                            clear HC HB8 HKEEP HCELL
                            obtain ⟨hs, hown⟩ := HC8.out
                            have HOO := Lib.hid hown
                            have hlw := HW8.out.size
                            clear hown HC8
                            go_wp2_with (at_builtin; go_loud (refine wpList_append_own_at _ rfl _ _ 61 rfl W.heap.size 42 li0 (.slice none 0 0) 1 24 Try.underlying61 hli hli0 hli1 hli2 rfl (by decide) _ _ hs rfl ((HOO.out.alloc _).alloc _) ⟨w8.heap.size + 1, 0, none⟩ 1 1 [.slice (some ⟨w8.heap.size, 0, none⟩) 4 4] rfl rfl (cells_newH (by simp)) (by simp [Value.oneCell']) (by unfold maxLen; omega) (by omega) (by simp; omega) ?_); intro v2 w2 hown2 hg2 _ hat2)
                            have HB9 : Hid (Below W.heap.size W w2) := ((HW8.out.alloc HW8.out.size _).alloc (by simp; omega) _).grown hg2 (by simp; omega) (own_block HOO.out)
                            have HC9 : Hid (PLP w2 W.heap.size (C1 i + C2 i j + C3 i j k + C4 i j k m + 1) v2) := ⟨_, hown2⟩
                            clear hown2 hg2 hat2
                            go_wp2
                            go_roundw
                            case rel => exact ⟨m + 1, by omega, by omega, by go_num, HB9.out, by rw [HNZ.out, ← Nat.add_assoc]; exact HC9.out⟩
                            case measure => simp [intOf]; omega
                      · obtain rfl : m = xs.length := by omega
                        go_wp2
                        go_roundw
                        case rel => exact ⟨k + 1, by omega, by omega, by go_num, HC.out.1, by rw [HNY.out, ← Nat.add_assoc]; exact HC.out.2⟩
                        case measure => simp [intOf]; omega
              · obtain rfl : k = xs.length := by omega
                go_wp2
                go_roundw
                case rel => exact ⟨j + 1, by omega, by omega, by go_num, HC.out.1, by rw [HNX.out, ← Nat.add_assoc]; exact HC.out.2⟩
                case measure => simp [intOf]; omega
        · obtain rfl : j = xs.length := by omega
          go_wp2
          go_roundw
          case rel => exact ⟨i + 1, by omega, by go_num, HC.out.1, by rw [HN1.out]; exact HC.out.2⟩
          case measure => simp [intOf]; omega
    · obtain rfl : i = xs.length := by omega
      go_wp2
      go_ret
      exact ⟨_, rfl, HC.out.2.imp fun hs h => own_base h HX.out.size, below_up HX.out HC.out.1⟩

end Go.Proofs.Ytbknpflbafjblaa

/- The contracts of the numbers of Pasch, of both programs; conditions: stated in each. -/
namespace Go.Proofs.Ytbknpflbafjblaa
open Go.RowKit
set_option maxHeartbeats 1000000
set_option maxRecDepth 100000
set_option linter.unusedSimpArgs false
set_option linter.unusedVariables false

/-- CountPasch's answer -/
noncomputable def pcR (v : Int) (xs : List Blk) : Int × Int := if isSysB v xs = true then (((psA xs).length : Int), 0) else (0, 1)
theorem psA_len {xs : List Blk} (hx : xs.length ≤ 35) : (psA xs).length ≤ 1500625 := by
  unfold psA
  exact Nat.le_trans (colL_len (pr1_len hx) _) (Nat.le_trans (Nat.mul_le_mul_right _ hx) (by decide))
theorem specPC_any (v : Int) (A : Option Addr) (c : Nat) (xs : List Blk) (w : World) (hA : Bl w A xs) (hl : xs.length ≤ 1048576) :
    Calls Try.prog 36 #[.agg #[.int .i64 v, .slice A xs.length c]] w fun e w' => e = .returned (.tuple #[.int .i64 (pcR v xs).1, .int .i64 (pcR v xs).2]) ∧ Below w.heap.size w w' := by
  cases hs : isSysB v xs
  · have HN : Hid (pcR v xs = (0, 1)) := by unfold Hid pcR; simp [hs]
    generalize pcR v xs = R at *
    have HA := Lib.hid hA; clear hA; have HR := Lib.hid (Row.box w 30 (.int .i64 v) (.slice A xs.length c)); have HW := Lib.hid (Since.refl w); go_enter Try.func36, Try.ntmps36; go_wp2_with fail; replace HA := Lib.hid (HA.out.below (below_alloc _ (.cells #[.int .i64 v, .slice A xs.length c] 30))); replace HW := Lib.hid (HW.out.below (below_alloc _ (.cells #[.int .i64 v, .slice A xs.length c] 30)))
    refine (l01Is_any v A c xs _ HA.out hl).mono ?_; rw [hs]; rintro e w_ ⟨rfl, hb⟩; replace HW := Lib.hid (HW.out.below hb); clear hb
    go_wp2
    go_ret2
    exact ⟨by rw [HN.out]; rfl, HW.out⟩
  · have HS := Lib.hid (isSysB_iff.1 hs)
    have HN : Hid (pcR v xs = (((paAll xs xs.length).length : Int), 0)) := by unfold Hid pcR; rw [if_pos hs, pasch_len HS.out]
    have hbd : (paAll xs xs.length).length ≤ 1500625 := by rw [pasch_len HS.out]; exact psA_len HS.out.2.1
    generalize pcR v xs = R at *
    have HPA := Lib.hid (fun w hA => l03Pasch_any v A c xs HS.out w hA)
    generalize paAll xs xs.length = L at *
    have HA := Lib.hid hA; clear hA; have HR := Lib.hid (Row.box w 30 (.int .i64 v) (.slice A xs.length c)); have HW := Lib.hid (Since.refl w); go_enter Try.func36, Try.ntmps36; go_wp2_with fail; replace HA := Lib.hid (HA.out.below (below_alloc _ (.cells #[.int .i64 v, .slice A xs.length c] 30))); replace HW := Lib.hid (HW.out.below (below_alloc _ (.cells #[.int .i64 v, .slice A xs.length c] 30)))
    refine (l01Is_any v A c xs _ HA.out hl).mono ?_; rw [hs]; rintro e w_ ⟨rfl, hb⟩; replace HA := Lib.hid (HA.out.below hb); replace HW := Lib.hid (HW.out.below hb); replace HR := Lib.hid (HR.out.below hb); clear hb; (try clear c0 c1); obtain ⟨c0, c1⟩ := HR.out.c2
    go_wp2_with fail
    refine (HPA.out _ HA.out).mono ?_
    rintro e w_ ⟨u, ps, rfl, hL, hp, hb⟩
    obtain ⟨B, d, rfl⟩ := hL.slice
    have hpl : ps.length = L.length := by rw [← hp, List.length_map]
    rw [hpl]
    clear hL hp hpl
    replace HW := Lib.hid (HW.out.below hb); clear hb
    go_wp2
    go_ret2
    exact ⟨by rw [HN.out]; rfl, HW.out⟩
theorem implPC_any (v : Int) (A : Option Addr) (c : Nat) (xs : List Blk) (w : World) (hA : Bl w A xs) (hl : xs.length ≤ 1048576) :
    Calls Try.prog 37 #[.agg #[.int .i64 v, .slice A xs.length c]] w fun e w' => e = .returned (.tuple #[.int .i64 (pcR v xs).1, .int .i64 (pcR v xs).2]) ∧ Below w.heap.size w w' := by
  have key : ∀ w, Bl w A xs → Calls Try.prog 78 #[.agg #[.int .i64 v, .slice A xs.length c]] w fun e w' => ∃ B d n, e = .returned (.tuple #[.slice B n d, .int .i64 (pcR v xs).2]) ∧ ((n : Nat) : Int) = (pcR v xs).1 ∧ n ≤ 1500625 ∧ Below w.heap.size w w' := by
    intro w hA
    cases hs : isSysB v xs
    · have HN : Hid (pcR v xs = (0, 1)) := by unfold Hid pcR; simp [hs]
      generalize pcR v xs = R at *
      have HA := Lib.hid hA; clear hA; have HR := Lib.hid (Row.box w 30 (.int .i64 v) (.slice A xs.length c)); have HW := Lib.hid (Since.refl w); go_enter Try.func78, Try.ntmps78; go_wp2_with fail; replace HA := Lib.hid (HA.out.below (below_alloc _ (.cells #[.int .i64 v, .slice A xs.length c] 30))); replace HW := Lib.hid (HW.out.below (below_alloc _ (.cells #[.int .i64 v, .slice A xs.length c] 30)))
      refine (IsSystem_any v A c xs _ HA.out hl).mono ?_; rw [hs]; rintro e w_ ⟨rfl, hb⟩; replace HW := Lib.hid (HW.out.below hb); clear hb
      go_wp2
      go_ret2
      exact ⟨none, 0, 0, by rw [HN.out]; rfl, by rw [HN.out]; rfl, by omega, HW.out⟩
    · have HS := Lib.hid (isSysB_iff.1 hs)
      have HN : Hid (pcR v xs = (((psA xs).length : Int), 0)) := by unfold Hid pcR; rw [if_pos hs]
      have HBD : Hid ((psA xs).length ≤ 1500625) := psA_len HS.out.2.1
      generalize pcR v xs = R at *
      have HPA := Lib.hid (fun w hA => paschs_any v A c xs HS.out w hA)
      generalize (psA xs).length = L at *
      have HA := Lib.hid hA; clear hA; have HR := Lib.hid (Row.box w 30 (.int .i64 v) (.slice A xs.length c)); have HW := Lib.hid (Since.refl w); go_enter Try.func78, Try.ntmps78; go_wp2_with fail; replace HA := Lib.hid (HA.out.below (below_alloc _ (.cells #[.int .i64 v, .slice A xs.length c] 30))); replace HW := Lib.hid (HW.out.below (below_alloc _ (.cells #[.int .i64 v, .slice A xs.length c] 30)))
      refine (IsSystem_any v A c xs _ HA.out hl).mono ?_; rw [hs]; rintro e w_ ⟨rfl, hb⟩; replace HA := Lib.hid (HA.out.below hb); replace HW := Lib.hid (HW.out.below hb); replace HR := Lib.hid (HR.out.below hb); clear hb; (try clear c0 c1); obtain ⟨c0, c1⟩ := HR.out.c2
      go_wp2_with fail
      refine (HPA.out _ HA.out).mono ?_
      rintro e w_ ⟨u, rfl, hL, hb⟩
      obtain ⟨hs2, hL2⟩ := hL
      obtain ⟨B, d, rfl⟩ := own_slice hL2
      clear hL2
      replace HW := Lib.hid (HW.out.below hb); clear hb
      go_wp2
      go_ret2
      exact ⟨B, d, L, by rw [HN.out]; rfl, by rw [HN.out], HBD.out, HW.out⟩
  have HK := Lib.hid key
  clear key
  generalize pcR v xs = R at *
  have HA := Lib.hid hA; clear hA; have HR := Lib.hid (Row.box w 30 (.int .i64 v) (.slice A xs.length c)); have HW := Lib.hid (Since.refl w); go_enter Try.func37, Try.ntmps37; go_wp2_with fail; replace HA := Lib.hid (HA.out.below (below_alloc _ (.cells #[.int .i64 v, .slice A xs.length c] 30))); replace HW := Lib.hid (HW.out.below (below_alloc _ (.cells #[.int .i64 v, .slice A xs.length c] 30)))
  refine (HK.out _ HA.out).mono ?_
  rintro e w_ ⟨B, d, n, rfl, hn, hn2, hb⟩
  have HN := Lib.hid hn
  clear hn
  replace HW := Lib.hid (HW.out.below hb); clear hb
  go_wp2
  go_ret2
  exact ⟨by rw [← HN.out]; rfl, HW.out⟩

end Go.Proofs.Ytbknpflbafjblaa
