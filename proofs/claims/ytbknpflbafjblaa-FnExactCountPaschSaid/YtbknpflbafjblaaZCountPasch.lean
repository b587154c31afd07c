/- FnExactCountPasch: for every input the call returns true and leaves its arguments as they were; conditions: none. -/
import Derived.Deep.RegionHeld3
import Derived.Test.YtbknpflbafjblaaB3
import Derived.Test.YtbknpflbafjblaaB15
namespace Go.Proofs.Ytbknpflbafjblaa
open Go.ChangeShapes Go.WideShapes Go.ChangeAt Go.RowKit Go.Deep Go.Joins
set_option maxHeartbeats 1000000
set_option maxRecDepth 100000
set_option linter.unusedSimpArgs false
set_option linter.unusedVariables false

theorem lawCountPasch_walk (v0 : Int) (A0 : Option Addr) (c0 : Nat) (xs0 : List Blk) (w : World) (hA0 : Bl w A0 xs0) (hn0 : xs0.length ≤ 9223372036854775807) :
    Calls Try.prog 8 #[.agg #[.int .i64 v0, .slice A0 xs0.length c0]] w fun e w' => e = .returned (.bool true) ∧ Below w.heap.size w w' := by
  by_cases hz0 : xs0.length ≤ 1048576
  · skip
    have hl0 : xs0.length ≤ 1048576 := by omega
    have HA0 := Lib.hid hA0; clear hA0
    have P0 := Lib.hid (Since.refl w)
    replace P0 := Lib.hid (P0.out.below (below_alloc (w) (.cells #[.int .i64 v0, .slice A0 xs0.length c0] 24)))
    have HR0 := Lib.hid (Row.box (w) 24 (.int .i64 v0) (.slice A0 xs0.length c0))
    go_enter Try.func8, Try.ntmps8
    have P1 := Lib.hid (Since.refl ((w).alloc (.cells #[.int .i64 v0, .slice A0 xs0.length c0] 24)))
    (try clear k00 k01 k0l); obtain ⟨k00, k01⟩ := (HR0.out.below P1.out).c2; have k0l := (HR0.out.below P1.out).lt
    go_wp2_with fail
    refine (szSystem_any v0 A0 xs0.length c0 _ _ hn0 (by omega) (by omega)).mono ?_
    rintro e u1 ⟨rfl, hb⟩
    rw [if_neg (by omega)]
    replace P0 := Lib.hid (P0.out.below hb)
    replace P1 := Lib.hid (P1.out.below hb)
    clear hb
    (try clear k00 k01 k0l); obtain ⟨k00, k01⟩ := (HR0.out.below P1.out).c2; have k0l := (HR0.out.below P1.out).lt
    go_wp2_with fail
    refine (toSystem_row v0 A0 c0 xs0 _ (HA0.out.below P0.out) hl0).mono ?_
    rintro e u2 ⟨gw0, rfl, ⟨curw0, hR, hcs, hat⟩, hg, hb⟩
    have HXw0 := Lib.hid (Bl.row hR hat)
    clear hR hcs hat hg
    replace P0 := Lib.hid (P0.out.below hb)
    replace P1 := Lib.hid (P1.out.below hb)
    clear hb
    (try clear k00 k01 k0l); obtain ⟨k00, k01⟩ := (HR0.out.below P1.out).c2; have k0l := (HR0.out.below P1.out).lt
    have Pw0 := Lib.hid (Since.refl u2)
    go_wp2_with fail
    refine (specPC_any v0 (some ⟨gw0, 0, none⟩) xs0.length xs0 _ (HXw0.out.below Pw0.out) hl0 ).mono ?_
    rintro e u3 ⟨rfl, hb⟩
    replace P0 := Lib.hid (P0.out.below hb)
    replace P1 := Lib.hid (P1.out.below hb)
    replace Pw0 := Lib.hid (Pw0.out.below hb)
    clear hb
    (try clear k00 k01 k0l); obtain ⟨k00, k01⟩ := (HR0.out.below P1.out).c2; have k0l := (HR0.out.below P1.out).lt
    clear Pw0
    clear HXw0
    go_wp2_with fail
    refine (toSystem_row v0 A0 c0 xs0 _ (HA0.out.below P0.out) hl0).mono ?_
    rintro e u4 ⟨gx0, rfl, ⟨curx0, hR, hcs, hat⟩, hg, hb⟩
    have HXx0 := Lib.hid (Bl.row hR hat)
    have HWx0 := Lib.hid hR; have HCx0 := Lib.hid hcs; have HTx0 := Lib.hid hR.lt
    have HLx0_P0 := Lib.hid (Nat.le_trans P0.out.size hg)
    have HLx0_P1 := Lib.hid (Nat.le_trans P1.out.size hg)
    clear hR hcs hat hg
    replace P0 := Lib.hid (P0.out.below hb)
    replace P1 := Lib.hid (P1.out.below hb)
    clear hb
    (try clear k00 k01 k0l); obtain ⟨k00, k01⟩ := (HR0.out.below P1.out).c2; have k0l := (HR0.out.below P1.out).lt
    have Px0 := Lib.hid (Since.refl u4)
    have HS0 := Lib.hid (Row.box u4 30 (.int .i64 v0) (.slice (some ⟨gx0, 0, none⟩) xs0.length xs0.length))
    have HLS0_P0 := Lib.hid P0.out.size
    have HLS0_P1 := Lib.hid P1.out.size
    have HLS0_Px0 := Lib.hid Px0.out.size
    go_wp2_with fail
    replace P0 := Lib.hid (P0.out.below (below_alloc u4 (.cells #[.int .i64 v0, .slice (some ⟨gx0, 0, none⟩) xs0.length xs0.length] 30)))
    replace P1 := Lib.hid (P1.out.below (below_alloc u4 (.cells #[.int .i64 v0, .slice (some ⟨gx0, 0, none⟩) xs0.length xs0.length] 30)))
    replace Px0 := Lib.hid (Px0.out.below (below_alloc u4 (.cells #[.int .i64 v0, .slice (some ⟨gx0, 0, none⟩) xs0.length xs0.length] 30)))
    (try clear k00 k01 k0l); obtain ⟨k00, k01⟩ := (HR0.out.below P1.out).c2; have k0l := (HR0.out.below P1.out).lt
    have PS0 := Lib.hid (Since.refl (u4.alloc (.cells #[.int .i64 v0, .slice (some ⟨gx0, 0, none⟩) xs0.length xs0.length] 30)))
    (try clear k00 k01 k0l); obtain ⟨k00, k01⟩ := (HR0.out.below P1.out).c2; have k0l := (HR0.out.below P1.out).lt
    (try clear m00 m01 m0l); obtain ⟨m00, m01⟩ := (HS0.out.below PS0.out).c2; have m0l := (HS0.out.below PS0.out).lt
    refine (implPC_any v0 (some ⟨gx0, 0, none⟩) xs0.length xs0 _ (HXx0.out.below Px0.out) hl0 ).mono ?_
    rintro e u5 ⟨rfl, hb⟩
    replace P0 := Lib.hid (P0.out.below hb)
    replace P1 := Lib.hid (P1.out.below hb)
    replace Px0 := Lib.hid (Px0.out.below hb)
    replace PS0 := Lib.hid (PS0.out.below hb)
    clear hb
    (try clear k00 k01 k0l); obtain ⟨k00, k01⟩ := (HR0.out.below P1.out).c2; have k0l := (HR0.out.below P1.out).lt
    (try clear m00 m01 m0l); obtain ⟨m00, m01⟩ := (HS0.out.below PS0.out).c2; have m0l := (HS0.out.below PS0.out).lt
    have e0_ : (((pcR v0 xs0).1) != ((pcR v0 xs0).1)) = false := by simp
    have e1_ : (((pcR v0 xs0).2) != ((pcR v0 xs0).2)) = false := by simp
    go_wp2_with fail
    have HKEEP := Lib.hid (And.intro (And.intro k00 k01) (And.intro m00 m01))
    go_region_held3 (fun w' => (w'.cell? ⟨w.heap.size, 0, none⟩ = some (.int .i64 v0) ∧ w'.cell? ⟨w.heap.size, 1, none⟩ = some (.slice A0 xs0.length c0)) ∧ (w'.cell? ⟨u4.heap.size, 0, none⟩ = some (.int .i64 v0) ∧ w'.cell? ⟨u4.heap.size, 1, none⟩ = some (.slice (some ⟨gx0, 0, none⟩) xs0.length xs0.length))) (first | exact HKEEP.out) (first
      | (go_at_call 17
         replace P0 := Lib.hid (P0.out.below (below_drew _))
         replace P1 := Lib.hid (P1.out.below (below_drew _))
         replace Px0 := Lib.hid (Px0.out.below (below_drew _))
         replace PS0 := Lib.hid (PS0.out.below (below_drew _))
         (try clear k00 k01 k0l); obtain ⟨k00, k01⟩ := (HR0.out.below P1.out).c2; have k0l := (HR0.out.below P1.out).lt
         (try clear m00 m01 m0l); obtain ⟨m00, m01⟩ := (HS0.out.below PS0.out).c2; have m0l := (HS0.out.below PS0.out).lt
         refine (toSystem_row v0 A0 c0 xs0 _ (HA0.out.below P0.out) hl0).mono ?_
         rintro e u6 ⟨ge0, rfl, ⟨cure0, hR, hcs, hat⟩, hg, hb⟩
         have HXe0 := Lib.hid (Bl.row hR hat)
         clear hR hcs hat hg
         replace P0 := Lib.hid (P0.out.below hb)
         replace P1 := Lib.hid (P1.out.below hb)
         replace Px0 := Lib.hid (Px0.out.below hb)
         replace PS0 := Lib.hid (PS0.out.below hb)
         clear hb
         (try clear k00 k01 k0l); obtain ⟨k00, k01⟩ := (HR0.out.below P1.out).c2; have k0l := (HR0.out.below P1.out).lt
         (try clear m00 m01 m0l); obtain ⟨m00, m01⟩ := (HS0.out.below PS0.out).c2; have m0l := (HS0.out.below PS0.out).lt
         have Pe0 := Lib.hid (Since.refl u6)
         replace HKEEP := Lib.hid (And.intro (And.intro k00 k01) (And.intro m00 m01)))
      | (go_at_call 19
         refine (eqSystem_any v0 v0 (some ⟨gx0, 0, none⟩) (some ⟨ge0, 0, none⟩) xs0.length xs0.length xs0 xs0 _ (HXx0.out.below Px0.out) (HXe0.out.below Pe0.out) (by omega) (by omega)).mono ?_
         rw [eqSys_true ⟨rfl, rfl⟩]
         rintro e u7 ⟨rfl, hb⟩
         replace P0 := Lib.hid (P0.out.below hb)
         replace P1 := Lib.hid (P1.out.below hb)
         replace Px0 := Lib.hid (Px0.out.below hb)
         replace PS0 := Lib.hid (PS0.out.below hb)
         replace Pe0 := Lib.hid (Pe0.out.below hb)
         clear hb
         (try clear k00 k01 k0l); obtain ⟨k00, k01⟩ := (HR0.out.below P1.out).c2; have k0l := (HR0.out.below P1.out).lt
         (try clear m00 m01 m0l); obtain ⟨m00, m01⟩ := (HS0.out.below PS0.out).c2; have m0l := (HS0.out.below PS0.out).lt
         replace HKEEP := Lib.hid (And.intro (And.intro k00 k01) (And.intro m00 m01))))
    clear HXe0 HKEEP
    clear Pe0
    go_wp2
    go_ret
    exact ⟨rfl, P0.out⟩
  · skip
    have HA0 := Lib.hid hA0; clear hA0
    have P0 := Lib.hid (Since.refl w)
    replace P0 := Lib.hid (P0.out.below (below_alloc (w) (.cells #[.int .i64 v0, .slice A0 xs0.length c0] 24)))
    have HR0 := Lib.hid (Row.box (w) 24 (.int .i64 v0) (.slice A0 xs0.length c0))
    go_enter Try.func8, Try.ntmps8
    have P1 := Lib.hid (Since.refl ((w).alloc (.cells #[.int .i64 v0, .slice A0 xs0.length c0] 24)))
    (try clear k00 k01 k0l); obtain ⟨k00, k01⟩ := (HR0.out.below P1.out).c2; have k0l := (HR0.out.below P1.out).lt
    go_wp2_with fail
    refine (szSystem_any v0 A0 xs0.length c0 _ _ hn0 (by omega) (by omega)).mono ?_
    rintro e u8 ⟨rfl, hb⟩
    rw [if_pos (by omega)]
    replace P0 := Lib.hid (P0.out.below hb)
    replace P1 := Lib.hid (P1.out.below hb)
    clear hb
    (try clear k00 k01 k0l); obtain ⟨k00, k01⟩ := (HR0.out.below P1.out).c2; have k0l := (HR0.out.below P1.out).lt
    go_wp2
    go_ret
    exact ⟨rfl, P0.out⟩

set_option maxRecDepth 100000 in
theorem lawCountPasch_lifted (os : Os) (started : os.Started) (H : Type) (enc : TypeId × Value → H) :
    ReturnsInHanded {} Try.checked os 8 .any (Rows.fnExactCountPaschSpec.pre6 enc Try.prog Try.f8 Rows.fnExactCountPaschRow.domain false) (Rows.fnExactCountPaschSpec.post enc Try.prog Try.f8 false true false false) := by
  refine returnsInHanded_of_change (C := Try.checked) Try.own started (by kernel_rfl) Try.func8
    (ChangeSpec.witness6 (enc := enc) (C := Try.checked) false ⟨#[], #[.agg #[.int .i64 0, .slice none 0 0]], []⟩ 8 (by kernel_rfl) (by kernel_rfl) (by kernel_rfl) (by kernel_rfl)) ?_
  intro W base args ds gs before hval0 hW _ _
  have hval : ∀ (j : Nat) t v, Try.f8.params[j]? = some t → args[j]? = some v → Value.okWide Try.prog W .any base t v := hval0
  have hW' := hW
  obtain ⟨p, q, hA0, hV, rfl, hfz, hnd⟩ := hW
  have hA : DataW.TrodAll enc Try.prog W 0 (fun _ => true) true Try.f8.params.toList args.toList ds p := hA0
  rw [Try.params8] at hA hval
  obtain ⟨w0, d0, rfl, rfl, h0⟩ := trodAll_one hA
  obtain ⟨rfl, rfl⟩ := trodVars_none hV
  obtain ⟨v0, A0, c0, xs0, rfl, hB0, hl0, wvl0, wvr0⟩ := open_sys (hval 0 24 w0 rfl rfl) h0
  refine (lawCountPasch_walk v0 A0 c0 xs0 W hB0 hl0).mono fun e W' ⟨he, hb⟩ => ?_
  subst he
  exact ⟨_, rfl, law_post hW' rfl rfl (by kernel_rfl) Try.underlying4 Try.laidOut (by kernel_rfl) hb⟩

theorem lawCountPasch_u1 : Try.pinned.checked.prog.unfollowed 8 = Rows.fnExactCountPaschRow.unfollowed := by kernel_rfl
theorem lawCountPasch_u2 : Try.pinned.checked.prog.recurses 8 = Rows.fnExactCountPaschRow.recurses := by kernel_rfl
theorem lawCountPasch_u3 : Try.pinned.checked.prog.varsNamed 8 = Rows.fnExactCountPaschRow.named := by kernel_rfl
theorem lawCountPasch_u4 : Try.pinned.checked.prog.inPlace 8 = Rows.fnExactCountPaschRow.inPlace := by kernel_rfl
theorem lawCountPasch_facts : joinedFacts Try.pinned.checked.prog 8 Try.f8 Rows.fnExactCountPaschSpec Rows.fnExactCountPaschRow = true := by
  unfold joinedFacts
  rw [lawCountPasch_u1, lawCountPasch_u2, lawCountPasch_u3, lawCountPasch_u4]
  exact of_decide_eq_true (by kernel_rfl)
theorem lawCountPasch_named : Try.pinned.checked.prog.funcNamed Rows.fnExactCountPaschRow.func = some 8 := by kernel_rfl
theorem lawCountPasch_inst : Try.f8.isInstance Try.pinned.checked.prog Rows.fnExactCountPaschRow.origin Rows.fnExactCountPaschRow.targs := of_decide_eq_true (by kernel_rfl)
theorem lawCountPasch_holds : Rows.FnExactCountPaschSaid :=
  OpenClaim.holds_of_wide 8 Try.f8 rfl rfl rfl rfl rfl rfl rfl ⟨rfl, rfl, rfl, rfl, rfl⟩ rfl rfl rfl rfl rfl lawCountPasch_named Try.func8 lawCountPasch_facts
    lawCountPasch_inst (by unfold Func.isWrapper; first | (rw [if_pos (by decide +kernel)]; kernel_rfl) | (rw [if_neg (by decide +kernel)]; exact ⟨rfl, rfl⟩))
    (fun os started H enc _ => lawCountPasch_lifted os started H enc)

end Go.Proofs.Ytbknpflbafjblaa
