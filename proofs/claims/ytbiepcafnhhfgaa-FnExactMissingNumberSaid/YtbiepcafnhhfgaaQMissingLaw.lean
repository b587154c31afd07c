/- FnExactMissingNumber: for every input the call returns true and leaves its argument as it was; conditions: none. -/
import Derived.Test.YtbiepcafnhhfgaaQMissing
import Derived.Test.YtbiepcafnhhfgaaL1
namespace Go.Proofs.Ytbiepcafnhhfgaa
open Go.ChangeShapes Go.WideShapes Go.ChangeAt Go.RowKit Go.Deep Go.Joins
set_option maxHeartbeats 400000
set_option linter.unusedSimpArgs false
set_option linter.unusedVariables false

theorem lawMissing_walk (v : Int) (A : Option Addr) (c : Nat) (xs : List Blk) (w : World) (hA : Bl w A xs) (hn : xs.length ≤ 9223372036854775807) :
    Calls Try.prog 3 #[.agg #[.int .i64 v, .slice A xs.length c]] w fun e w' => e = .returned (.bool true) ∧ Below w.heap.size w w' := by
  have HA := Lib.hid hA; clear hA
  by_cases hl : xs.length ≤ 1048576
  · go_enter Try.func3, Try.ntmps3
    go_wp2_with fail
    refine (szSystem_any v A xs.length c 1048576 _ hn (by omega) (by omega)).mono ?_
    rintro e w1 ⟨rfl, hb⟩
    rw [if_neg (by omega)]
    have HA1 := Lib.hid ((HA.out.below (below_alloc _ (.cells #[.int .i64 v, .slice A xs.length c] 24))).below hb)
    have HR1 := Lib.hid ((Row.new w 24 #[.int .i64 v, .slice A xs.length c]).below hb)
    have HB1 := Lib.hid (below_up (below_alloc w (.cells #[.int .i64 v, .slice A xs.length c] 24)) hb)
    clear hb
    have c0 := HR1.out.cell 0; have c1 := HR1.out.cell 1
    simp only [List.getElem?_toArray, List.getElem?_cons_zero, List.getElem?_cons_succ] at c0 c1
    go_wp2_with fail
    refine (toSystem_any v A c xs _ HA1.out hl).mono ?_
    rintro e w2 ⟨g2, rfl, hB2, hg2, hb⟩
    have HA2 := Lib.hid (HA1.out.below hb); have HR2 := Lib.hid (HR1.out.below hb); have HB2 := Lib.hid (below_up HB1.out hb)
    have HX := Lib.hid hB2
    clear hb hB2 c0 c1
    have c0 := HR2.out.cell 0; have c1 := HR2.out.cell 1
    simp only [List.getElem?_toArray, List.getElem?_cons_zero, List.getElem?_cons_succ] at c0 c1
    go_wp2_with fail
    refine (specMissing_any v (some ⟨g2, 0, none⟩) xs.length xs _ HX.out hl).mono ?_
    rintro e w3 ⟨rfl, hb⟩
    have HA3 := Lib.hid (HA2.out.below hb); have HR3 := Lib.hid (HR2.out.below hb); have HB3 := Lib.hid (below_up HB2.out hb)
    clear hb c0 c1 HX
    have c0 := HR3.out.cell 0; have c1 := HR3.out.cell 1
    simp only [List.getElem?_toArray, List.getElem?_cons_zero, List.getElem?_cons_succ] at c0 c1
    go_wp2_with fail
    refine (toSystem_any v A c xs _ HA3.out hl).mono ?_
    rintro e w4 ⟨g4, rfl, hB4, hg4, hb⟩
    have HA4 := Lib.hid (HA3.out.below hb); have HR4 := Lib.hid (HR3.out.below hb); have HB4 := Lib.hid (below_up HB3.out hb)
    have HX := Lib.hid hB4
    clear hb hB4 c0 c1
    have c0 := HR4.out.cell 0; have c1 := HR4.out.cell 1
    simp only [List.getElem?_toArray, List.getElem?_cons_zero, List.getElem?_cons_succ] at c0 c1
    go_wp2_with fail
    refine (implMissing_any v (some ⟨g4, 0, none⟩) xs.length xs _ (HX.out.below (below_alloc _ _)) hl).mono ?_
    rintro e w5 ⟨rfl, hb⟩
    have hal := below_alloc w4 (.cells #[.int .i64 v, .slice (some ⟨g4, 0, none⟩) xs.length xs.length] 30)
    have HA5 := Lib.hid ((HA4.out.below hal).below hb); have HR5 := Lib.hid ((HR4.out.below hal).below hb); have HB5 := Lib.hid (below_up HB4.out (below_up hal hb))
    have HS5 := Lib.hid ((Row.new w4 30 #[.int .i64 v, .slice (some ⟨g4, 0, none⟩) xs.length xs.length]).below hb)
    have HX5 := Lib.hid ((HX.out.below hal).below hb)
    clear hb hal c0 c1 HX
    have c0 := HR5.out.cell 0; have c1 := HR5.out.cell 1; have d0 := HS5.out.cell 0; have d1 := HS5.out.cell 1
    simp only [List.getElem?_toArray, List.getElem?_cons_zero, List.getElem?_cons_succ] at c0 c1 d0 d1
    have e0 : ((missR v xs).1 != (missR v xs).1) = false := by simp
    have e1 : ((missR v xs).2 != (missR v xs).2) = false := by simp
    have HE := Lib.hid (eqSys_true (v := v) (xs := xs) (u := v) (ys := xs) ⟨rfl, rfl⟩)
    go_wp2_with fail
    go_region_with (first
      | (go_at_call 17
         refine (toSystem_any v A c xs w5.drew (show Bl w5.drew A xs from HA5.out) hl).mono ?_
         rintro e w6 ⟨g6, rfl, hB6, hg6, hb⟩
         have HS6 := Lib.hid ((show Row w5.drew w4.heap.size 30 #[.int .i64 v, .slice (some ⟨g4, 0, none⟩) xs.length xs.length] from HS5.out).below hb)
         have HX6 := Lib.hid ((show Bl w5.drew (some ⟨g4, 0, none⟩) xs from HX5.out).below hb)
         have HB6 := Lib.hid (below_up HB5.out.drew hb)
         have HY := Lib.hid hB6
         clear hb hB6 c0 c1 d0 d1
         have d0 := HS6.out.cell 0; have d1 := HS6.out.cell 1
         simp only [List.getElem?_toArray, List.getElem?_cons_zero, List.getElem?_cons_succ] at d0 d1)
      | (go_at_call 19
         refine (eqSystem_any v v (some ⟨g4, 0, none⟩) (some ⟨g6, 0, none⟩) xs.length xs.length xs xs _ HX6.out HY.out (by omega) (by omega)).mono ?_
         rw [HE.out]
         rintro e w7 ⟨rfl, hb⟩
         have HB7 := Lib.hid (below_up HB6.out hb)
         clear hb))
    all_goals
      go_wp2
      go_ret
      exact ⟨rfl, HB7.out⟩
  · go_enter Try.func3, Try.ntmps3
    go_wp2_with fail
    refine (szSystem_any v A xs.length c 1048576 _ hn (by omega) (by omega)).mono ?_
    rintro e w1 ⟨rfl, hb⟩
    rw [if_pos (by omega)]
    have HB1 := Lib.hid (below_up (below_alloc w (.cells #[.int .i64 v, .slice A xs.length c] 24)) hb)
    clear hb
    go_wp2
    go_ret
    exact ⟨rfl, HB1.out⟩

set_option maxRecDepth 100000 in
theorem lawMissing_lifted (os : Os) (started : os.Started) (H : Type) (enc : TypeId × Value → H) :
    ReturnsInHanded {} Try.checked os 3 .any (Rows.fnExactMissingNumberSpec.pre6 enc Try.prog Try.f3 Rows.fnExactMissingNumberRow.domain false) (Rows.fnExactMissingNumberSpec.post enc Try.prog Try.f3 false true false false) := by
  refine returnsInHanded_of_change (C := Try.checked) Try.own started (by kernel_rfl) Try.func3
    (ChangeSpec.witness6 (enc := enc) (C := Try.checked) false ⟨#[], #[.agg #[.int .i64 0, .slice none 0 0]], []⟩ 8 (by kernel_rfl) (by kernel_rfl) (by kernel_rfl) (by kernel_rfl)) ?_
  intro W base args ds gs before hval0 hW _ _
  have hval : ∀ (j : Nat) t v, Try.f3.params[j]? = some t → args[j]? = some v → Value.okWide Try.prog W .any base t v := hval0
  have hW' := hW
  obtain ⟨p, q, hA0, hV, rfl, hfz, hnd⟩ := hW
  have hA : DataW.TrodAll enc Try.prog W 0 (fun _ => true) true Try.f3.params.toList args.toList ds p := hA0
  rw [Try.params3] at hA hval
  obtain ⟨v0, d0, rfl, rfl, h0⟩ := trodAll_one hA
  obtain ⟨rfl, rfl⟩ := trodVars_none hV
  obtain ⟨n, A, c, xs, rfl, hB, hl, _, _⟩ := open_sys (hval 0 24 v0 rfl rfl) h0
  refine (lawMissing_walk n A c xs W hB hl).mono fun e W' ⟨he, hb⟩ => ?_
  subst he
  exact ⟨_, rfl, law_post hW' rfl rfl (by kernel_rfl) Try.underlying4 Try.laidOut (by kernel_rfl) hb⟩

theorem lawMissing_holds : Rows.FnExactMissingNumberSaid :=
  OpenClaim.holds_of_wide 3 Try.f3 rfl rfl rfl rfl rfl rfl rfl ⟨rfl, rfl, rfl, rfl, rfl⟩ rfl rfl rfl rfl rfl (by kernel_rfl) Try.func3 (by kernel_rfl)
    (of_decide_eq_true (by kernel_rfl)) (by unfold Func.isWrapper; first | (rw [if_pos (by decide +kernel)]; kernel_rfl) | (rw [if_neg (by decide +kernel)]; exact ⟨rfl, rfl⟩))
    (fun os started H enc _ => lawMissing_lifted os started H enc)

end Go.Proofs.Ytbiepcafnhhfgaa
