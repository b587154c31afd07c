/- FnExactWordsByWeight: for every input the call returns true and leaves its arguments as they were; conditions: none. -/
import Derived.Deep.RegionHeld3
import Derived.Test.YtbknpflbafjblaaB3
import Derived.Test.YtbknpflbafjblaaB12
namespace Go.Proofs.Ytbknpflbafjblaa
open Go.ChangeShapes Go.WideShapes Go.ChangeAt Go.RowKit Go.Deep Go.Joins
set_option maxHeartbeats 1000000
set_option maxRecDepth 100000
set_option linter.unusedSimpArgs false
set_option linter.unusedVariables false

theorem lawWordsByWeight_walk (v0 : Int) (A0 : Option Addr) (c0 : Nat) (xs0 : List Blk) (w : World) (hA0 : Bl w A0 xs0) (hn0 : xs0.length ≤ 9223372036854775807) :
    Calls Try.prog 6 #[.agg #[.int .i64 v0, .slice A0 xs0.length c0]] w fun e w' => e = .returned (.bool true) ∧ Below w.heap.size w w' := by
  by_cases hz0 : xs0.length ≤ 1048576
  · skip
    have hl0 : xs0.length ≤ 1048576 := by omega
    have HA0 := Lib.hid hA0; clear hA0
    have P0 := Lib.hid (Since.refl w)
    replace P0 := Lib.hid (P0.out.below (below_alloc (w) (.cells #[.int .i64 v0, .slice A0 xs0.length c0] 24)))
    have HR0 := Lib.hid (Row.box (w) 24 (.int .i64 v0) (.slice A0 xs0.length c0))
    go_enter Try.func6, Try.ntmps6
    have P1 := Lib.hid (Since.refl ((w).alloc (.cells #[.int .i64 v0, .slice A0 xs0.length c0] 24)))
    (try clear k00 k01 k0l); obtain ⟨k00, k01⟩ := (HR0.out.below P1.out).c2; have k0l := (HR0.out.below P1.out).lt
    go_wp2_with fail
    refine (szSystem_any v0 A0 xs0.length c0 _ _ hn0 (by omega) (by omega)).mono ?_
    rintro e u1 ⟨rfl, hb⟩
    rw [if_neg (by omega)]
    replace P0 := Lib.hid (P0.out.below hb)
    replace P1 := Lib.hid (P1.out.below hb)
    clear hb
    (try clear k00 k01 k0l); obtain ⟨k00, k01⟩ := (HR0.out.below P1.out).c2; have k0l := (HR0.out.below P1.out).lt
    go_wp2_with fail
    refine (toSystem_row v0 A0 c0 xs0 _ (HA0.out.below P0.out) hl0).mono ?_
    rintro e u2 ⟨gw0, rfl, ⟨curw0, hR, hcs, hat⟩, hg, hb⟩
    have HXw0 := Lib.hid (Bl.row hR hat)
    clear hR hcs hat hg
    replace P0 := Lib.hid (P0.out.below hb)
    replace P1 := Lib.hid (P1.out.below hb)
    clear hb
    (try clear k00 k01 k0l); obtain ⟨k00, k01⟩ := (HR0.out.below P1.out).c2; have k0l := (HR0.out.below P1.out).lt
    have Pw0 := Lib.hid (Since.refl u2)
    go_wp2_with fail
    refine (specWbw_any v0 (some ⟨gw0, 0, none⟩) xs0.length xs0 _ (HXw0.out.below Pw0.out) hl0 ).mono ?_
    rintro e u3 ⟨Bw, dw, rfl, hown, hb⟩
    have HOw : Hid (Own _ _ _ _ _ _ _) := Lib.hid hown; clear hown
    replace P0 := Lib.hid (P0.out.below hb)
    replace P1 := Lib.hid (P1.out.below hb)
    replace Pw0 := Lib.hid (Pw0.out.below hb)
    clear hb
    (try clear k00 k01 k0l); obtain ⟨k00, k01⟩ := (HR0.out.below P1.out).c2; have k0l := (HR0.out.below P1.out).lt
    have POw := Lib.hid (Since.refl u3)
    clear Pw0
    clear HXw0
    go_wp2_with fail
    refine (toSystem_row v0 A0 c0 xs0 _ (HA0.out.below P0.out) hl0).mono ?_
    rintro e u4 ⟨gx0, rfl, ⟨curx0, hR, hcs, hat⟩, hg, hb⟩
    have HXx0 := Lib.hid (Bl.row hR hat)
    have HWx0 := Lib.hid hR; have HCx0 := Lib.hid hcs; have HTx0 := Lib.hid hR.lt
    have HLx0_P0 := Lib.hid (Nat.le_trans P0.out.size hg)
    have HLx0_P1 := Lib.hid (Nat.le_trans P1.out.size hg)
    have HLx0_POw := Lib.hid (Nat.le_trans POw.out.size hg)
    clear hR hcs hat hg
    replace P0 := Lib.hid (P0.out.below hb)
    replace P1 := Lib.hid (P1.out.below hb)
    replace POw := Lib.hid (POw.out.below hb)
    clear hb
    (try clear k00 k01 k0l); obtain ⟨k00, k01⟩ := (HR0.out.below P1.out).c2; have k0l := (HR0.out.below P1.out).lt
    have Px0 := Lib.hid (Since.refl u4)
    have HS0 := Lib.hid (Row.box u4 30 (.int .i64 v0) (.slice (some ⟨gx0, 0, none⟩) xs0.length xs0.length))
    have HLS0_P0 := Lib.hid P0.out.size
    have HLS0_P1 := Lib.hid P1.out.size
    have HLS0_POw := Lib.hid POw.out.size
    have HLS0_Px0 := Lib.hid Px0.out.size
    go_wp2_with fail
    replace P0 := Lib.hid (P0.out.below (below_alloc u4 (.cells #[.int .i64 v0, .slice (some ⟨gx0, 0, none⟩) xs0.length xs0.length] 30)))
    replace P1 := Lib.hid (P1.out.below (below_alloc u4 (.cells #[.int .i64 v0, .slice (some ⟨gx0, 0, none⟩) xs0.length xs0.length] 30)))
    replace POw := Lib.hid (POw.out.below (below_alloc u4 (.cells #[.int .i64 v0, .slice (some ⟨gx0, 0, none⟩) xs0.length xs0.length] 30)))
    replace Px0 := Lib.hid (Px0.out.below (below_alloc u4 (.cells #[.int .i64 v0, .slice (some ⟨gx0, 0, none⟩) xs0.length xs0.length] 30)))
    (try clear k00 k01 k0l); obtain ⟨k00, k01⟩ := (HR0.out.below P1.out).c2; have k0l := (HR0.out.below P1.out).lt
    have PS0 := Lib.hid (Since.refl (u4.alloc (.cells #[.int .i64 v0, .slice (some ⟨gx0, 0, none⟩) xs0.length xs0.length] 30)))
    (try clear k00 k01 k0l); obtain ⟨k00, k01⟩ := (HR0.out.below P1.out).c2; have k0l := (HR0.out.below P1.out).lt
    (try clear m00 m01 m0l); obtain ⟨m00, m01⟩ := (HS0.out.below PS0.out).c2; have m0l := (HS0.out.below PS0.out).lt
    refine (implWbw_any v0 (some ⟨gx0, 0, none⟩) xs0.length xs0 _ (HXx0.out.below Px0.out) hl0 ).mono ?_
    rintro e u5 ⟨Bx, dx, rfl, hown, hb⟩
    have HOx : Hid (Own _ _ _ _ _ _ _) := Lib.hid hown; clear hown
    have HLx_P0 := Lib.hid P0.out.size
    have HLx_P1 := Lib.hid P1.out.size
    have HLx_POw := Lib.hid POw.out.size
    have HLx_Px0 := Lib.hid Px0.out.size
    have HLx_PS0 := Lib.hid PS0.out.size
    replace P0 := Lib.hid (P0.out.below hb)
    replace P1 := Lib.hid (P1.out.below hb)
    replace POw := Lib.hid (POw.out.below hb)
    replace Px0 := Lib.hid (Px0.out.below hb)
    replace PS0 := Lib.hid (PS0.out.below hb)
    clear hb
    (try clear k00 k01 k0l); obtain ⟨k00, k01⟩ := (HR0.out.below P1.out).c2; have k0l := (HR0.out.below P1.out).lt
    (try clear m00 m01 m0l); obtain ⟨m00, m01⟩ := (HS0.out.below PS0.out).c2; have m0l := (HS0.out.below PS0.out).lt
    have POx := Lib.hid (Since.refl u5)
    have e1_ : (((wbR v0 xs0).2) != ((wbR v0 xs0).2)) = false := by simp
    have hbd : ((wbR v0 xs0).1).length ≤ 200000000 := by have := wbR_bd v0 xs0; omega
    go_wp2_with fail
    refine (eqInt64S_any Bx Bw dx dw ((wbR v0 xs0).1) ((wbR v0 xs0).1) _ (HOx.out.below POx.out).il (HOw.out.below POw.out).il (by omega) (by omega)).mono ?_
    rw [eqInts_true rfl]
    rintro e u6 ⟨rfl, hb⟩
    replace P0 := Lib.hid (P0.out.below hb)
    replace P1 := Lib.hid (P1.out.below hb)
    replace POw := Lib.hid (POw.out.below hb)
    replace Px0 := Lib.hid (Px0.out.below hb)
    replace PS0 := Lib.hid (PS0.out.below hb)
    replace POx := Lib.hid (POx.out.below hb)
    clear hb
    (try clear k00 k01 k0l); obtain ⟨k00, k01⟩ := (HR0.out.below P1.out).c2; have k0l := (HR0.out.below P1.out).lt
    (try clear m00 m01 m0l); obtain ⟨m00, m01⟩ := (HS0.out.below PS0.out).c2; have m0l := (HS0.out.below PS0.out).lt
    go_wp2_with fail
    have HKEEP := Lib.hid (And.intro (And.intro k00 k01) (And.intro m00 m01))
    go_region_held3 (fun w' => (w'.cell? ⟨w.heap.size, 0, none⟩ = some (.int .i64 v0) ∧ w'.cell? ⟨w.heap.size, 1, none⟩ = some (.slice A0 xs0.length c0)) ∧ (w'.cell? ⟨u4.heap.size, 0, none⟩ = some (.int .i64 v0) ∧ w'.cell? ⟨u4.heap.size, 1, none⟩ = some (.slice (some ⟨gx0, 0, none⟩) xs0.length xs0.length))) (first | exact HKEEP.out) (first
      | (go_at_call 17
         replace P0 := Lib.hid (P0.out.below (below_drew _))
         replace P1 := Lib.hid (P1.out.below (below_drew _))
         replace POw := Lib.hid (POw.out.below (below_drew _))
         replace Px0 := Lib.hid (Px0.out.below (below_drew _))
         replace PS0 := Lib.hid (PS0.out.below (below_drew _))
         replace POx := Lib.hid (POx.out.below (below_drew _))
         (try clear k00 k01 k0l); obtain ⟨k00, k01⟩ := (HR0.out.below P1.out).c2; have k0l := (HR0.out.below P1.out).lt
         (try clear m00 m01 m0l); obtain ⟨m00, m01⟩ := (HS0.out.below PS0.out).c2; have m0l := (HS0.out.below PS0.out).lt
         refine (toSystem_row v0 A0 c0 xs0 _ (HA0.out.below P0.out) hl0).mono ?_
         rintro e u7 ⟨ge0, rfl, ⟨cure0, hR, hcs, hat⟩, hg, hb⟩
         have HXe0 := Lib.hid (Bl.row hR hat)
         clear hR hcs hat hg
         replace P0 := Lib.hid (P0.out.below hb)
         replace P1 := Lib.hid (P1.out.below hb)
         replace POw := Lib.hid (POw.out.below hb)
         replace Px0 := Lib.hid (Px0.out.below hb)
         replace PS0 := Lib.hid (PS0.out.below hb)
         replace POx := Lib.hid (POx.out.below hb)
         clear hb
         (try clear k00 k01 k0l); obtain ⟨k00, k01⟩ := (HR0.out.below P1.out).c2; have k0l := (HR0.out.below P1.out).lt
         (try clear m00 m01 m0l); obtain ⟨m00, m01⟩ := (HS0.out.below PS0.out).c2; have m0l := (HS0.out.below PS0.out).lt
         have Pe0 := Lib.hid (Since.refl u7)
         replace HKEEP := Lib.hid (And.intro (And.intro k00 k01) (And.intro m00 m01)))
      | (go_at_call 19
         refine (eqSystem_any v0 v0 (some ⟨gx0, 0, none⟩) (some ⟨ge0, 0, none⟩) xs0.length xs0.length xs0 xs0 _ (HXx0.out.below Px0.out) (HXe0.out.below Pe0.out) (by omega) (by omega)).mono ?_
         rw [eqSys_true ⟨rfl, rfl⟩]
         rintro e u8 ⟨rfl, hb⟩
         replace P0 := Lib.hid (P0.out.below hb)
         replace P1 := Lib.hid (P1.out.below hb)
         replace POw := Lib.hid (POw.out.below hb)
         replace Px0 := Lib.hid (Px0.out.below hb)
         replace PS0 := Lib.hid (PS0.out.below hb)
         replace POx := Lib.hid (POx.out.below hb)
         replace Pe0 := Lib.hid (Pe0.out.below hb)
         clear hb
         (try clear k00 k01 k0l); obtain ⟨k00, k01⟩ := (HR0.out.below P1.out).c2; have k0l := (HR0.out.below P1.out).lt
         (try clear m00 m01 m0l); obtain ⟨m00, m01⟩ := (HS0.out.below PS0.out).c2; have m0l := (HS0.out.below PS0.out).lt
         replace HKEEP := Lib.hid (And.intro (And.intro k00 k01) (And.intro m00 m01))))
    clear HXe0 HKEEP
    clear Pe0
    go_wp2_with fail
    refine (markSystem_any v0 (some ⟨gx0, 0, none⟩) xs0.length xs0.length _ _ (Wr.row (HWx0.out.below Px0.out) (by have := HCx0.out; omega)) (by omega) (by omega) (by omega)).mono ?_
    rintro e u9 ⟨rfl, hmk, hg⟩
    replace P0 := Lib.hid (P0.out.grown (B := some ⟨gx0, 0, none⟩) hg (blk_ge HLx0_P0.out))
    replace P1 := Lib.hid (P1.out.grown (B := some ⟨gx0, 0, none⟩) hg (blk_ge HLx0_P1.out))
    replace POw := Lib.hid (POw.out.grown (B := some ⟨gx0, 0, none⟩) hg (blk_ge HLx0_POw.out))
    replace HOx := Lib.hid (Own.grown (B := some ⟨gx0, 0, none⟩) (HOx.out.below POx.out) hg (blk_lt (Nat.lt_of_lt_of_le HTx0.out HLx_Px0.out)))
    clear Px0
    clear PS0
    clear POx
    clear hmk hg
    have POx := Lib.hid (Since.refl u9)
    (try clear m00 m01 m0l)
    (try clear k00 k01 k0l); obtain ⟨k00, k01⟩ := (HR0.out.below P1.out).c2; have k0l := (HR0.out.below P1.out).lt
    go_wp2_with fail
    refine (eqInt64S_any Bx Bw dx dw ((wbR v0 xs0).1) ((wbR v0 xs0).1) _ (HOx.out.below POx.out).il (HOw.out.below POw.out).il (by omega) (by omega)).mono ?_
    rw [eqInts_true rfl]
    rintro e u10 ⟨rfl, hb⟩
    replace P0 := Lib.hid (P0.out.below hb)
    replace P1 := Lib.hid (P1.out.below hb)
    replace POw := Lib.hid (POw.out.below hb)
    replace POx := Lib.hid (POx.out.below hb)
    clear hb
    (try clear k00 k01 k0l); obtain ⟨k00, k01⟩ := (HR0.out.below P1.out).c2; have k0l := (HR0.out.below P1.out).lt
    go_wp2_with fail
    refine (markInt64S_any Bx (((wbR v0 xs0).1).length) dx 1 _ (HOx.out.below POx.out).wr1 (by omega) (by omega) (by omega)).mono ?_
    rintro e u11 ⟨rfl, hmk, hg⟩
    clear POx
    replace P0 := Lib.hid (P0.out.grown hg (blk_le HOx.out.blk HLx_P0.out))
    replace P1 := Lib.hid (P1.out.grown hg (blk_le HOx.out.blk HLx_P1.out))
    replace POw := Lib.hid (POw.out.grown hg (blk_le HOx.out.blk HLx_POw.out))
    have HM := Lib.hid hmk; clear hmk hg
    have PM := Lib.hid (Since.refl u11)
    (try clear k00 k01 k0l); obtain ⟨k00, k01⟩ := (HR0.out.below P1.out).c2; have k0l := (HR0.out.below P1.out).lt
    go_wp2_with fail
    refine (heldInt64S_any Bx (((wbR v0 xs0).1).length) dx 1 _ (HM.out.below PM.out) (by omega) (by omega) (by omega)).mono ?_
    rintro e w' ⟨rfl, rfl⟩
    go_wp2_with fail
    refine (toSystem_row v0 A0 c0 xs0 _ (HA0.out.below P0.out) hl0).mono ?_
    rintro e u12 ⟨gh0, rfl, ⟨curh0, hR, hcs, hat⟩, hg, hb⟩
    have HXh0 := Lib.hid (Bl.row hR hat)
    clear hR hcs hat hg
    replace P0 := Lib.hid (P0.out.below hb)
    replace P1 := Lib.hid (P1.out.below hb)
    replace POw := Lib.hid (POw.out.below hb)
    replace PM := Lib.hid (PM.out.below hb)
    clear hb
    (try clear k00 k01 k0l); obtain ⟨k00, k01⟩ := (HR0.out.below P1.out).c2; have k0l := (HR0.out.below P1.out).lt
    have Ph0 := Lib.hid (Since.refl u12)
    go_wp2_with fail
    refine (implWbw_any v0 (some ⟨gh0, 0, none⟩) xs0.length xs0 _ (HXh0.out.below Ph0.out) hl0 ).mono ?_
    rintro e u13 ⟨Bh, dh, rfl, hown, hb⟩
    have HOh : Hid (Own _ _ _ _ _ _ _) := Lib.hid hown; clear hown
    replace P0 := Lib.hid (P0.out.below hb)
    replace P1 := Lib.hid (P1.out.below hb)
    replace POw := Lib.hid (POw.out.below hb)
    replace PM := Lib.hid (PM.out.below hb)
    replace Ph0 := Lib.hid (Ph0.out.below hb)
    clear hb
    (try clear k00 k01 k0l); obtain ⟨k00, k01⟩ := (HR0.out.below P1.out).c2; have k0l := (HR0.out.below P1.out).lt
    have POh := Lib.hid (Since.refl u13)
    clear Ph0
    clear HXh0
    go_wp2_with fail
    refine (eqInt64S_any Bh Bw dh dw ((wbR v0 xs0).1) ((wbR v0 xs0).1) _ (HOh.out.below POh.out).il (HOw.out.below POw.out).il (by omega) (by omega)).mono ?_
    rw [eqInts_true rfl]
    rintro e u14 ⟨rfl, hb⟩
    replace P0 := Lib.hid (P0.out.below hb)
    replace P1 := Lib.hid (P1.out.below hb)
    replace POw := Lib.hid (POw.out.below hb)
    replace PM := Lib.hid (PM.out.below hb)
    replace POh := Lib.hid (POh.out.below hb)
    clear hb
    (try clear k00 k01 k0l); obtain ⟨k00, k01⟩ := (HR0.out.below P1.out).c2; have k0l := (HR0.out.below P1.out).lt
    go_wp2_with fail
    refine (heldInt64S_any Bx (((wbR v0 xs0).1).length) dx 1 _ (HM.out.below PM.out) (by omega) (by omega) (by omega)).mono ?_
    rintro e w' ⟨rfl, rfl⟩
    go_wp2
    go_ret
    exact ⟨rfl, P0.out⟩
  · skip
    have HA0 := Lib.hid hA0; clear hA0
    have P0 := Lib.hid (Since.refl w)
    replace P0 := Lib.hid (P0.out.below (below_alloc (w) (.cells #[.int .i64 v0, .slice A0 xs0.length c0] 24)))
    have HR0 := Lib.hid (Row.box (w) 24 (.int .i64 v0) (.slice A0 xs0.length c0))
    go_enter Try.func6, Try.ntmps6
    have P1 := Lib.hid (Since.refl ((w).alloc (.cells #[.int .i64 v0, .slice A0 xs0.length c0] 24)))
    (try clear k00 k01 k0l); obtain ⟨k00, k01⟩ := (HR0.out.below P1.out).c2; have k0l := (HR0.out.below P1.out).lt
    go_wp2_with fail
    refine (szSystem_any v0 A0 xs0.length c0 _ _ hn0 (by omega) (by omega)).mono ?_
    rintro e u15 ⟨rfl, hb⟩
    rw [if_pos (by omega)]
    replace P0 := Lib.hid (P0.out.below hb)
    replace P1 := Lib.hid (P1.out.below hb)
    clear hb
    (try clear k00 k01 k0l); obtain ⟨k00, k01⟩ := (HR0.out.below P1.out).c2; have k0l := (HR0.out.below P1.out).lt
    go_wp2
    go_ret
    exact ⟨rfl, P0.out⟩

set_option maxRecDepth 100000 in
theorem lawWordsByWeight_lifted (os : Os) (started : os.Started) (H : Type) (enc : TypeId × Value → H) :
    ReturnsInHanded {} Try.checked os 6 .any (Rows.fnExactWordsByWeightSpec.pre6 enc Try.prog Try.f6 Rows.fnExactWordsByWeightRow.domain false) (Rows.fnExactWordsByWeightSpec.post enc Try.prog Try.f6 false true false false) := by
  refine returnsInHanded_of_change (C := Try.checked) Try.own started (by kernel_rfl) Try.func6
    (ChangeSpec.witness6 (enc := enc) (C := Try.checked) false ⟨#[], #[.agg #[.int .i64 0, .slice none 0 0]], []⟩ 8 (by kernel_rfl) (by kernel_rfl) (by kernel_rfl) (by kernel_rfl)) ?_
  intro W base args ds gs before hval0 hW _ _
  have hval : ∀ (j : Nat) t v, Try.f6.params[j]? = some t → args[j]? = some v → Value.okWide Try.prog W .any base t v := hval0
  have hW' := hW
  obtain ⟨p, q, hA0, hV, rfl, hfz, hnd⟩ := hW
  have hA : DataW.TrodAll enc Try.prog W 0 (fun _ => true) true Try.f6.params.toList args.toList ds p := hA0
  rw [Try.params6] at hA hval
  obtain ⟨w0, d0, rfl, rfl, h0⟩ := trodAll_one hA
  obtain ⟨rfl, rfl⟩ := trodVars_none hV
  obtain ⟨v0, A0, c0, xs0, rfl, hB0, hl0, wvl0, wvr0⟩ := open_sys (hval 0 24 w0 rfl rfl) h0
  refine (lawWordsByWeight_walk v0 A0 c0 xs0 W hB0 hl0).mono fun e W' ⟨he, hb⟩ => ?_
  subst he
  exact ⟨_, rfl, law_post hW' rfl rfl (by kernel_rfl) Try.underlying4 Try.laidOut (by kernel_rfl) hb⟩

theorem lawWordsByWeight_u1 : Try.pinned.checked.prog.unfollowed 6 = Rows.fnExactWordsByWeightRow.unfollowed := by kernel_rfl
theorem lawWordsByWeight_u2 : Try.pinned.checked.prog.recurses 6 = Rows.fnExactWordsByWeightRow.recurses := by kernel_rfl
theorem lawWordsByWeight_u3 : Try.pinned.checked.prog.varsNamed 6 = Rows.fnExactWordsByWeightRow.named := by kernel_rfl
theorem lawWordsByWeight_u4 : Try.pinned.checked.prog.inPlace 6 = Rows.fnExactWordsByWeightRow.inPlace := by kernel_rfl
theorem lawWordsByWeight_facts : joinedFacts Try.pinned.checked.prog 6 Try.f6 Rows.fnExactWordsByWeightSpec Rows.fnExactWordsByWeightRow = true := by
  unfold joinedFacts
  rw [lawWordsByWeight_u1, lawWordsByWeight_u2, lawWordsByWeight_u3, lawWordsByWeight_u4]
  exact of_decide_eq_true (by kernel_rfl)
theorem lawWordsByWeight_named : Try.pinned.checked.prog.funcNamed Rows.fnExactWordsByWeightRow.func = some 6 := by kernel_rfl
theorem lawWordsByWeight_inst : Try.f6.isInstance Try.pinned.checked.prog Rows.fnExactWordsByWeightRow.origin Rows.fnExactWordsByWeightRow.targs := of_decide_eq_true (by kernel_rfl)
theorem lawWordsByWeight_holds : Rows.FnExactWordsByWeightSaid :=
  OpenClaim.holds_of_wide 6 Try.f6 rfl rfl rfl rfl rfl rfl rfl ⟨rfl, rfl, rfl, rfl, rfl⟩ rfl rfl rfl rfl rfl lawWordsByWeight_named Try.func6 lawWordsByWeight_facts
    lawWordsByWeight_inst (by unfold Func.isWrapper; first | (rw [if_pos (by decide +kernel)]; kernel_rfl) | (rw [if_neg (by decide +kernel)]; exact ⟨rfl, rfl⟩))
    (fun os started H enc _ => lawWordsByWeight_lifted os started H enc)

end Go.Proofs.Ytbknpflbafjblaa
