/- Contracts for BlockGraphDegrees, of the reference and of the program; conditions: stated in each. -/
import Derived.Test.YtbiepcafnhhfgaaQMeet
import Derived.Test.YtbiepcafnhhfgaaM4
namespace Go.Proofs.Ytbiepcafnhhfgaa
open Go.RowKit
set_option maxHeartbeats 400000
set_option maxRecDepth 100000
set_option linter.unusedSimpArgs false
set_option linter.unusedVariables false

/-- how many blocks meet a block, block by block -/
def degA (xs : List Blk) (k : Nat) : Int := ((nums (awayP (nth xs k)) xs).length : Nat)
def degN (xs : List Blk) : Nat → List Int
  | 0 => []
  | k + 1 => degN xs k ++ [degA xs k]
theorem degN_len (xs : List Blk) (k : Nat) : (degN xs k).length = k := by
  induction k with
  | zero => rfl
  | succ k ih => simp [degN, ih]
theorem degN_map (xs : List Blk) (k : Nat) : degN xs k = (List.range k).map (degA xs) := by
  induction k with
  | zero => rfl
  | succ k ih => rw [degN, ih, List.range_succ, List.map_append]; rfl
noncomputable def degR (v : Int) (xs : List Blk) : List Int × Int := if isSysB v xs = true then (degN xs xs.length, 0) else ([], 1)
theorem degR_bd (v : Int) (xs : List Blk) : (degR v xs).1.length ≤ xs.length := by
  unfold degR; split
  · rw [degN_len]; exact Nat.le_refl _
  · simp

theorem degCl_any (a c : Blk) (ra : Nat) (w : World) (hA : Box w ra a) :
    Calls Try.prog 79 #[.agg #[.int .i64 c.1, .int .i64 c.2.1, .int .i64 c.2.2], .pointer (some ⟨ra, 0, none⟩)] w fun e w' => e = .returned (.bool (awayP a c)) ∧ Below w.heap.size w w' := by
  have HP : Hid (awayP a c = (!eqB c a && meetB c a)) := rfl
  generalize awayP a c = P at *
  have HA := Lib.hid (hA.below (below_alloc _ (.cells #[.int .i64 c.1, .int .i64 c.2.1, .int .i64 c.2.2] 65)))
  have HC := Lib.hid (Box.new w c 65)
  have HW := Lib.hid (Since.below (Since.refl w) (below_alloc w (.cells #[.int .i64 c.1, .int .i64 c.2.1, .int .i64 c.2.2] 65)))
  clear hA
  obtain ⟨q0, q1, q2⟩ := HA.out.three
  cases he : eqB c a
  all_goals
    go_enter Try.func79, Try.ntmps79
    go_wp2_with (go_at_call 60; refine (meets_any c a _).mono ?_; rintro e w1 ⟨rfl, hb⟩; replace HW := Lib.hid (HW.out.below hb); clear hb)
    go_ret
    exact ⟨ret_bool (by rw [HP.out, he]; rfl), HW.out⟩


theorem implDeg_any (v : Int) (A : Option Addr) (c : Nat) (xs : List Blk) (w : World) (hA : Bl w A xs) (hl : xs.length ≤ 1048576) :
    Calls Try.prog 37 #[.agg #[.int .i64 v, .slice A xs.length c]] w (LP w (degR v xs).1 (degR v xs).2) := by
  obtain ⟨ni0, hni, hni0, hni1, hni2⟩ := info_parts infoInt'
  cases hs : isSysB v xs
  · have HN : Hid (degR v xs = ([], 1)) := by unfold Hid degR; simp [hs]
    have HA := Lib.hid hA; clear hA; have HR := Lib.hid (Row.box w 30 (.int .i64 v) (.slice A xs.length c)); have HW := Lib.hid (Since.refl w); go_enter Try.func37, Try.ntmps37; go_wp2_with fail; replace HA := Lib.hid (HA.out.below (below_alloc _ (.cells #[.int .i64 v, .slice A xs.length c] 30))); replace HW := Lib.hid (HW.out.below (below_alloc _ (.cells #[.int .i64 v, .slice A xs.length c] 30)))
    refine (IsSystem_any v A c xs _ HA.out hl).mono ?_; rw [hs]; rintro e w_ ⟨rfl, hb⟩; replace HW := Lib.hid (HW.out.below hb); clear hb
    go_wp2
    go_ret2
    exact LP.nil (by rw [HN.out]) (by rw [HN.out]) HW.out
  · have HN : Hid (degR v xs = (degN xs xs.length, 0)) := by unfold Hid degR; simp [hs]
    have HA := Lib.hid hA; clear hA; have HR := Lib.hid (Row.box w 30 (.int .i64 v) (.slice A xs.length c)); have HW := Lib.hid (Since.refl w); go_enter Try.func37, Try.ntmps37; go_wp2_with fail; replace HA := Lib.hid (HA.out.below (below_alloc _ (.cells #[.int .i64 v, .slice A xs.length c] 30))); replace HW := Lib.hid (HW.out.below (below_alloc _ (.cells #[.int .i64 v, .slice A xs.length c] 30)))
    refine (IsSystem_any v A c xs _ HA.out hl).mono ?_; rw [hs]; rintro e w_ ⟨rfl, hb⟩; replace HA := Lib.hid (HA.out.below hb); replace HW := Lib.hid (HW.out.below hb); replace HR := Lib.hid (HR.out.below hb); clear hb; (try clear c0 c1); obtain ⟨c0, c1⟩ := HR.out.c2
    go_wp2
    clear c0 c1
    go_loopw [4, 13] (fun u i wr => ∃ k : Nat, k ≤ xs.length ∧ i = .int .i64 k ∧ Hid (Below w_.heap.size w_ wr ∧ wr.ownsRow w_.heap.size 2 1 u (degN xs k).length ((degN xs k).map (Value.int .i64)))) (fun _ i _ => xs.length - (intOf i).toNat)
    case atStart => exact ⟨0, by omega, rfl, Below.refl _ _, World.ownsRow_nil _ _ _ _⟩
    case round =>
      obtain ⟨k, hk, rfl, HC⟩ := hrel
      obtain ⟨c0, c1⟩ := (HR.out.below HC.out.1).c2
      have hsz := (HR.out.below HC.out.1).lt
      by_cases hlt : k < xs.length
      · obtain ⟨b1, o1, hA1, hb1, p0, p1, p2⟩ := (HA.out.below HC.out.1).at_ hlt
        subst hA1
        have HX := Lib.hid (Box.new wr (nth xs k) 65)
        have HAL := Lib.hid (below_alloc wr (.cells #[.int .i64 (nth xs k).1, .int .i64 (nth xs k).2.1, .int .i64 (nth xs k).2.2] 65))
        have hdl := degN_len xs k
        have hnl : (nums (awayP (nth xs k)) xs).length ≤ xs.length := numsN_len _ _ _
        go_wp2_with fail
        refine (numbersOf_any v (some ⟨b1, o1, none⟩) c xs 79 #[.pointer (some ⟨wr.heap.size, 0, none⟩)] (awayP (nth xs k)) _ ((HA.out.below HC.out.1).below HAL.out) hl (fun args w => by kernel_rfl)
          (fun W b hb => degCl_any (nth xs k) b _ W (HX.out.below hb))).mono ?_
        rintro e w1 ⟨u, rfl, hown, hb⟩
        obtain ⟨A', c', rfl⟩ := own_slice hown
        have HB2 : Hid (Below w_.heap.size w_ w1) := below_up (below_up HC.out.1 HAL.out) hb
        have HO : Hid (w1.ownsRow w_.heap.size 2 1 u4 (degN xs k).length ((degN xs k).map (Value.int .i64))) := own_below (own_below HC.out.2 HAL.out) hb
        clear hb hown
        have hbw_ := HB2.out.size; go_wp2_with (at_builtin; refine wpList_append_own _ rfl _ _ 42 rfl (w_).heap.size 2 ni0 (.int .i64 0) 1 8 Try.underlying42 hni hni0 hni1 hni2 rfl (by decide) _ _ _ rfl (HO.out.alloc _) ⟨(w1).heap.size, 0, none⟩ 1 1 [.int .i64 (((nums (awayP (nth xs k)) xs).length : Nat))] rfl rfl (cells_new _ _ _) (by simp [Value.oneCell']) (by unfold maxLen; omega) (by omega) (by simp; omega) ?_; intro v2 w2 hown2 hg2 _); have HO2 := Lib.hid hown2; have HB3 : Hid (Below (w_).heap.size (w_) w2) := (HB2.out.alloc HB2.out.size _).grown hg2 (by simp; omega) (own_block HO.out); clear hown2 hg2 hbw_
        go_wp2
        go_roundw
        case rel => exact ⟨k + 1, by omega, by go_num, HB3.out, by rw [degN]; simpa [degA] using HO2.out⟩
        case measure => simp [intOf]; omega
      · obtain rfl : k = xs.length := by omega
        go_wp2
        go_ret2
        exact LP.mk (own_base HC.out.2 HW.out.size) (by rw [HN.out]) (by rw [HN.out]) (HW.out.below HC.out.1)

/-- the counts while the rounds go -/
def degF (xs : List Blk) (k m : Nat) : Nat → Int := fun i => ((numsN (awayP (nth xs i)) xs (if i < k then xs.length else if i = k then m else 0)).length : Nat)
theorem degF_row (xs : List Blk) (k : Nat) : degF xs k xs.length = degF xs (k + 1) 0 := by
  funext i
  simp only [degF]
  by_cases h1 : i < k
  · rw [if_pos h1, if_pos (by omega)]
  · rw [if_neg h1]
    by_cases h2 : i = k
    · rw [if_pos h2, if_pos (by omega)]
    · rw [if_neg h2, if_neg (by omega)]; split <;> rfl
theorem degF_same (xs : List Blk) (k m : Nat) (h : awayP (nth xs k) (nth xs m) = false) : degF xs k m = degF xs k (m + 1) := by
  funext i
  simp only [degF]
  by_cases h1 : i < k
  · rw [if_pos h1, if_pos h1]
  · rw [if_neg h1, if_neg h1]
    by_cases h2 : i = k
    · subst h2; rw [if_pos rfl, if_pos rfl, numsN, if_neg (by simp [h]), List.append_nil]
    · rw [if_neg h2, if_neg h2]
theorem degF_upd (xs : List Blk) (k m : Nat) (h : awayP (nth xs k) (nth xs m) = true) : upd (degF xs k m) k (degF xs k m k + 1) = degF xs k (m + 1) := by
  funext i
  simp only [upd]
  by_cases h2 : i = k
  · subst h2
    rw [if_pos rfl]
    have e : ∀ n : Nat, (if i < i then xs.length else if i = i then n else 0) = n := fun n => by rw [if_neg (Nat.lt_irrefl _), if_pos rfl]
    unfold degF
    rw [e, e, numsN, if_pos h]; simp
  · rw [if_neg h2]
    simp only [degF]
    rw [if_neg h2, if_neg h2]
theorem degF_bd (xs : List Blk) (k m : Nat) (i : Nat) (hm : m ≤ xs.length) : 0 ≤ degF xs k m i ∧ degF xs k m i ≤ xs.length := by
  have h1 := numsN_len (awayP (nth xs i)) xs (if i < k then xs.length else if i = k then m else 0)
  unfold degF
  have h2 : (if i < k then xs.length else if i = k then m else 0) ≤ xs.length := by (repeat' split) <;> omega
  omega

theorem specDeg_any (v : Int) (A : Option Addr) (c : Nat) (xs : List Blk) (w : World) (hA : Bl w A xs) (hl : xs.length ≤ 1048576) :
    Calls Try.prog 36 #[.agg #[.int .i64 v, .slice A xs.length c]] w (LP w (degR v xs).1 (degR v xs).2) := by
  obtain ⟨ni0, hni, hni0, hni1, hni2⟩ := info_parts infoInt'
  cases hs : isSysB v xs
  · have HN : Hid (degR v xs = ([], 1)) := by unfold Hid degR; simp [hs]
    have HA := Lib.hid hA; clear hA; have HR := Lib.hid (Row.box w 30 (.int .i64 v) (.slice A xs.length c)); have HW := Lib.hid (Since.refl w); go_enter Try.func36, Try.ntmps36; go_wp2_with fail; replace HA := Lib.hid (HA.out.below (below_alloc _ (.cells #[.int .i64 v, .slice A xs.length c] 30))); replace HW := Lib.hid (HW.out.below (below_alloc _ (.cells #[.int .i64 v, .slice A xs.length c] 30)))
    refine (l01Is_any v A c xs _ HA.out hl).mono ?_; rw [hs]; rintro e w_ ⟨rfl, hb⟩; replace HW := Lib.hid (HW.out.below hb); clear hb
    go_wp2
    go_ret2
    exact LP.nil (by rw [HN.out]) (by rw [HN.out]) HW.out
  · have HN : Hid (degR v xs = (degN xs xs.length, 0)) := by unfold Hid degR; simp [hs]
    have hAre : Hid (areB v xs) := (isSysB_iff.1 hs).2.2.1
    have HA := Lib.hid hA; clear hA; have HR := Lib.hid (Row.box w 30 (.int .i64 v) (.slice A xs.length c)); have HW := Lib.hid (Since.refl w); go_enter Try.func36, Try.ntmps36; go_wp2_with fail; replace HA := Lib.hid (HA.out.below (below_alloc _ (.cells #[.int .i64 v, .slice A xs.length c] 30))); replace HW := Lib.hid (HW.out.below (below_alloc _ (.cells #[.int .i64 v, .slice A xs.length c] 30)))
    refine (l01Is_any v A c xs _ HA.out hl).mono ?_; rw [hs]; rintro e w_ ⟨rfl, hb⟩; replace HA := Lib.hid (HA.out.below hb); replace HW := Lib.hid (HW.out.below hb); replace HR := Lib.hid (HR.out.below hb); clear hb; (try clear c0 c1); obtain ⟨c0, c1⟩ := HR.out.c2
    have HL := Lib.hid HR.out.lt
    go_wp2_with (at_make; refine wpList_make_full _ rfl _ _ 42 rfl w_.heap.size 2 ni0 _ 1 Try.underlying42 hni hni0 hni1 .i64 .i64 _ _ xs.length rfl rfl rfl rfl (by rw [hni2]; omega) (by unfold maxLen; omega) (Nat.le_refl _) ?_; intro w0 hown0 hgrow0)
    have HV : Hid (Va w0 w_.heap.size xs.length (fun _ => 0)) := Va.make hown0
    have HB0 : Hid (Below w_.heap.size w_ w0) := below_grown (Below.refl _ _) hgrow0 (fun k hk => by cases hk)
    clear hown0 hgrow0 c0 c1
    go_loopw [5] (fun i wr => ∃ k : Nat, k ≤ xs.length ∧ i = .int .i64 k ∧ Hid (Below w_.heap.size w_ wr ∧ Va wr w_.heap.size xs.length (degF xs k 0))) (fun i _ => xs.length - (intOf i).toNat)
    case atStart => exact ⟨0, by omega, rfl, HB0.out, HV.out.ext fun i hi => by simp only [degF]; split <;> (try split) <;> first | omega | rfl⟩
    case round =>
      obtain ⟨k, hk, rfl, HC⟩ := hrel
      obtain ⟨c0, c1⟩ := (HR.out.below HC.out.1).c2
      have hsz := (HR.out.below HC.out.1).lt
      by_cases hlt : k < xs.length
      · go_wp2
        obtain ⟨wo, rfl⟩ : ∃ wo : World, wo = wr := ⟨_, rfl⟩
        clear c0 c1 hsz
        go_loopw [6] (fun i wr => ∃ m : Nat, m ≤ xs.length ∧ i = .int .i64 m ∧ Hid (Below w_.heap.size w_ wr ∧ Va wr w_.heap.size xs.length (degF xs k m))) (fun i _ => xs.length - (intOf i).toNat)
        case atStart => exact ⟨0, by omega, rfl, HC.out⟩
        case round =>
          obtain ⟨m, hm, rfl, HC⟩ := hrel
          obtain ⟨c0, c1⟩ := (HR.out.below HC.out.1).c2
          have hsz := (HR.out.below HC.out.1).lt
          by_cases hlt2 : m < xs.length
          · obtain ⟨b1, o1, hA1, hb1, p0, p1, p2⟩ := (HA.out.below HC.out.1).at_ hlt
            subst hA1
            obtain ⟨b2, o2, hA2, hb2, q0, q1, q2⟩ := (HA.out.below HC.out.1).at_ hlt2
            simp only [Option.some.injEq, Addr.mk.injEq] at hA2
            obtain ⟨rfl, rfl, -⟩ := hA2
            have HI := Lib.hid (away_iff hAre.out hlt hlt2)
            have hfb := degF_bd xs k m k (by omega)
            have HUP := Lib.hid (degF_upd xs k m)
            have HSM := Lib.hid (degF_same xs k m)
            by_cases e1 : m = k
            · have e1' : ((m : Int) != (k : Int)) = false := by simp [e1]
              have hfalse : Hid (awayP (nth xs k) (nth xs m) = false) := by
                unfold Hid; rw [← Bool.not_eq_true]; exact fun h => (HI.out.1 h).1 e1
              clear e1
              go_wp2
              refine wp_region_ge_lit (by kernel_rfl) (by kernel_rfl) ?_; (repeat (go_big_quiet_step ((go_at_call 56; exact ge_call (l01Common_any _ _ _))))); refine wpQuiet_nil ?_
              rintro w3 ⟨x, rfl⟩
              go_wp2
              go_roundw
              case rel => exact ⟨m + 1, by omega, by go_num, below_up HC.out.1 (ge_below _ _), by rw [← HSM.out hfalse.out]; exact HC.out.2.below (ge_below _ _)⟩
              case measure => simp [intOf]; omega
            · have e1' : ((m : Int) != (k : Int)) = true := by rw [bne_iff_ne]; omega
              by_cases e3 : 0 < comI (nth xs k) (nth xs m)
              · have htrue : Hid (awayP (nth xs k) (nth xs m) = true) := HI.out.2 ⟨e1, e3⟩
                clear e1
                go_wp2
                refine wp_region_ge_lit (by kernel_rfl) (by kernel_rfl) ?_; (repeat (go_big_quiet_step ((go_at_call 56; exact ge_call (l01Common_any _ _ _))))); refine wpQuiet_nil ?_
                rintro w3 ⟨x, rfl⟩
                have HV2 := Lib.hid (HC.out.2.below (ge_below wr x))
                have f0 := HV2.out.cell hlt
                have f1 := HV2.out.frozen k
                have hlt3 := HV2.out.lt
                go_wp2
                go_roundw
                case rel => exact ⟨m + 1, by omega, by go_num, (below_up HC.out.1 (ge_below _ _)).setCell (Nat.le_refl _) _, by rw [← HUP.out htrue.out]; exact HV2.out.set k _⟩
                case measure => simp [intOf]; omega
              · have e3' : decide (0 < comI (nth xs k) (nth xs m)) = false := by simpa using e3
                have hfalse : Hid (awayP (nth xs k) (nth xs m) = false) := by
                  unfold Hid; rw [← Bool.not_eq_true]; exact fun h => e3 (HI.out.1 h).2
                clear e3 e1
                go_wp2
                refine wp_region_ge_lit (by kernel_rfl) (by kernel_rfl) ?_; (repeat (go_big_quiet_step ((go_at_call 56; exact ge_call (l01Common_any _ _ _))))); refine wpQuiet_nil ?_
                rintro w3 ⟨x, rfl⟩
                go_wp2
                go_roundw
                case rel => exact ⟨m + 1, by omega, by go_num, below_up HC.out.1 (ge_below _ _), by rw [← HSM.out hfalse.out]; exact HC.out.2.below (ge_below _ _)⟩
                case measure => simp [intOf]; omega
          · obtain rfl : m = xs.length := by omega
            go_wp2
            go_roundw
            case rel => exact ⟨k + 1, by omega, by go_num, HC.out.1, by rw [← degF_row]; exact HC.out.2⟩
            case measure => simp [intOf]; omega
      · obtain rfl : k = xs.length := by omega
        go_wp2
        go_ret2
        refine LP.mk (ns := (List.range xs.length).map (degF xs xs.length 0)) (by simpa using HC.out.2.own (base := w.heap.size) (HW.out.size) (by unfold maxLen; omega)) ?_ (by rw [HN.out]) (HW.out.below HC.out.1)
        rw [HN.out, degN_map]
        refine List.map_congr_left fun i hi => ?_
        have := List.mem_range.1 hi
        simp only [degF, degA]
        rw [if_pos this]; rfl

end Go.Proofs.Ytbiepcafnhhfgaa
