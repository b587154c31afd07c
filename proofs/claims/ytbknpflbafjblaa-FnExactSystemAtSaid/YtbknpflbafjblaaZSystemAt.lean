/- FnExactSystemAt: for every input the call returns true and leaves its arguments as they were; conditions: none. -/
import Derived.Deep.RegionHeld3
import Derived.Test.YtbknpflbafjblaaB3
import Derived.Test.YtbknpflbafjblaaB11
namespace Go.Proofs.Ytbknpflbafjblaa
open Go.ChangeShapes Go.WideShapes Go.ChangeAt Go.RowKit Go.Deep Go.Joins
set_option maxHeartbeats 1000000
set_option maxRecDepth 100000
set_option linter.unusedSimpArgs false
set_option linter.unusedVariables false
theorem own_of_blk {A : Option Addr} {n c k : Nat} (hk : A.map Addr.block = some k) : (Value.slice A n c).ownBlock = some k := by
  cases A with
  | none => simp at hk
  | some a => simpa [Value.ownBlock] using hk

theorem lawSystemAt_walk (a0 : Int) (a1 : Int) (w : World)  :
    Calls Try.prog 12 #[.int .i64 a0, .int .i64 a1] w fun e w' => e = .returned (.bool true) ∧ Below w.heap.size w w' := by
  have P0 := Lib.hid (Since.refl w)
  go_enter Try.func12, Try.ntmps12
  go_wp2_with fail
  refine (specSat_any a0 a1 _ ).mono ?_
  rintro e u1 ⟨Bw, dw, rfl, hown, hb⟩
  have HOw : Hid (Own _ _ _ _ _ _ _) := Lib.hid hown; clear hown
  replace P0 := Lib.hid (P0.out.below hb)
  clear hb
  have POw := Lib.hid (Since.refl u1)
  have HBw := Lib.hid (Row.box u1 30 (.int .i64 ((satR a0 a1).1)) (.slice Bw ((satR a0 a1).2.1).length dw))
  have HLBw_P0 := Lib.hid P0.out.size
  have HLBw_POw := Lib.hid POw.out.size
  have HBLw : Hid (∀ k, Bw.map Addr.block = some k → k < u1.heap.size) := fun k e => (World.ownsRow.lt HOw.out k (own_of_blk e)).2
  replace P0 := Lib.hid (P0.out.below (below_alloc u1 (.cells #[.int .i64 ((satR a0 a1).1), .slice Bw ((satR a0 a1).2.1).length dw] 30)))
  replace POw := Lib.hid (POw.out.below (below_alloc u1 (.cells #[.int .i64 ((satR a0 a1).1), .slice Bw ((satR a0 a1).2.1).length dw] 30)))
  have PBw := Lib.hid (Since.refl (u1.alloc (.cells #[.int .i64 ((satR a0 a1).1), .slice Bw ((satR a0 a1).2.1).length dw] 30)))
  (try clear qw0 qw1 qwl); obtain ⟨qw0, qw1⟩ := (HBw.out.below PBw.out).c2; have qwl := (HBw.out.below PBw.out).lt
  go_wp2_with fail
  refine (implSat_any a0 a1 _ ).mono ?_
  rintro e u2 ⟨Bx, dx, rfl, hown, hb⟩
  have HOx : Hid (Own _ _ _ _ _ _ _) := Lib.hid hown; clear hown
  have HLx_P0 := Lib.hid P0.out.size
  have HLx_POw := Lib.hid POw.out.size
  have HLx_PBw := Lib.hid PBw.out.size
  replace P0 := Lib.hid (P0.out.below hb)
  replace POw := Lib.hid (POw.out.below hb)
  replace PBw := Lib.hid (PBw.out.below hb)
  clear hb
  (try clear qw0 qw1 qwl); obtain ⟨qw0, qw1⟩ := (HBw.out.below PBw.out).c2; have qwl := (HBw.out.below PBw.out).lt
  have POx := Lib.hid (Since.refl u2)
  have HBx := Lib.hid (Row.box u2 30 (.int .i64 ((satR a0 a1).1)) (.slice Bx ((satR a0 a1).2.1).length dx))
  have HLBx_P0 := Lib.hid P0.out.size
  have HLBx_POw := Lib.hid POw.out.size
  have HLBx_PBw := Lib.hid PBw.out.size
  have HLBx_POx := Lib.hid POx.out.size
  have HBLx : Hid (∀ k, Bx.map Addr.block = some k → k < u2.heap.size) := fun k e => (World.ownsRow.lt HOx.out k (own_of_blk e)).2
  replace P0 := Lib.hid (P0.out.below (below_alloc u2 (.cells #[.int .i64 ((satR a0 a1).1), .slice Bx ((satR a0 a1).2.1).length dx] 30)))
  replace POw := Lib.hid (POw.out.below (below_alloc u2 (.cells #[.int .i64 ((satR a0 a1).1), .slice Bx ((satR a0 a1).2.1).length dx] 30)))
  replace PBw := Lib.hid (PBw.out.below (below_alloc u2 (.cells #[.int .i64 ((satR a0 a1).1), .slice Bx ((satR a0 a1).2.1).length dx] 30)))
  replace POx := Lib.hid (POx.out.below (below_alloc u2 (.cells #[.int .i64 ((satR a0 a1).1), .slice Bx ((satR a0 a1).2.1).length dx] 30)))
  (try clear qw0 qw1 qwl); obtain ⟨qw0, qw1⟩ := (HBw.out.below PBw.out).c2; have qwl := (HBw.out.below PBw.out).lt
  have PBx := Lib.hid (Since.refl (u2.alloc (.cells #[.int .i64 ((satR a0 a1).1), .slice Bx ((satR a0 a1).2.1).length dx] 30)))
  (try clear qw0 qw1 qwl); obtain ⟨qw0, qw1⟩ := (HBw.out.below PBw.out).c2; have qwl := (HBw.out.below PBw.out).lt
  (try clear qx0 qx1 qxl); obtain ⟨qx0, qx1⟩ := (HBx.out.below PBx.out).c2; have qxl := (HBx.out.below PBx.out).lt
  have e1_ : (((satR a0 a1).2.2) != ((satR a0 a1).2.2)) = false := by simp
  have hbd : ((satR a0 a1).2.1).length ≤ 200000000 := by have := satR_bd a0 a1; omega
  go_wp2_with fail
  refine (eqSystem_any (satR a0 a1).1 (satR a0 a1).1 Bx Bw dx dw ((satR a0 a1).2.1) ((satR a0 a1).2.1) _ (OB.bl (HOx.out.below POx.out)) (OB.bl (HOw.out.below POw.out)) (by omega) (by omega)).mono ?_
  rw [eqSys_true ⟨rfl, rfl⟩]
  rintro e u3 ⟨rfl, hb⟩
  replace P0 := Lib.hid (P0.out.below hb)
  replace POw := Lib.hid (POw.out.below hb)
  replace PBw := Lib.hid (PBw.out.below hb)
  replace POx := Lib.hid (POx.out.below hb)
  replace PBx := Lib.hid (PBx.out.below hb)
  clear hb
  (try clear qw0 qw1 qwl); obtain ⟨qw0, qw1⟩ := (HBw.out.below PBw.out).c2; have qwl := (HBw.out.below PBw.out).lt
  (try clear qx0 qx1 qxl); obtain ⟨qx0, qx1⟩ := (HBx.out.below PBx.out).c2; have qxl := (HBx.out.below PBx.out).lt
  go_wp2_with fail
  refine (markSystem_any ((satR a0 a1).1) Bx (((satR a0 a1).2.1).length) dx 1 _ (HOx.out.below POx.out).wr (by omega) (by omega) (by omega)).mono ?_
  rintro e u4 ⟨rfl, hmk, hg⟩
  replace HBx := Lib.hid (Row.grown (HBx.out.below PBx.out) hg (fun e => Nat.lt_irrefl _ (HBLx.out _ e)))
  clear POx
  clear PBx
  replace P0 := Lib.hid (P0.out.grown hg (blk_le HOx.out.blk HLx_P0.out))
  replace POw := Lib.hid (POw.out.grown hg (blk_le HOx.out.blk HLx_POw.out))
  replace PBw := Lib.hid (PBw.out.grown hg (blk_le HOx.out.blk HLx_PBw.out))
  have HM := Lib.hid hmk; clear hmk hg
  have PM := Lib.hid (Since.refl u4)
  (try clear qw0 qw1 qwl); obtain ⟨qw0, qw1⟩ := (HBw.out.below PBw.out).c2; have qwl := (HBw.out.below PBw.out).lt
  (try clear qx0 qx1 qxl); obtain ⟨qx0, qx1⟩ := (HBx.out.below PM.out).c2; have qxl := (HBx.out.below PM.out).lt
  go_wp2_with fail
  refine (heldSystem_any ((satR a0 a1).1) Bx (((satR a0 a1).2.1).length) dx 1 _ (HM.out.below PM.out) (by omega) (by omega) (by omega)).mono ?_
  rintro e u5 ⟨rfl, hb⟩
  replace P0 := Lib.hid (P0.out.below hb)
  replace POw := Lib.hid (POw.out.below hb)
  replace PBw := Lib.hid (PBw.out.below hb)
  replace PM := Lib.hid (PM.out.below hb)
  clear hb
  (try clear qw0 qw1 qwl); obtain ⟨qw0, qw1⟩ := (HBw.out.below PBw.out).c2; have qwl := (HBw.out.below PBw.out).lt
  (try clear qx0 qx1 qxl); obtain ⟨qx0, qx1⟩ := (HBx.out.below PM.out).c2; have qxl := (HBx.out.below PM.out).lt
  go_wp2_with fail
  refine (implSat_any a0 a1 _ ).mono ?_
  rintro e u6 ⟨Bh, dh, rfl, hown, hb⟩
  have HOh : Hid (Own _ _ _ _ _ _ _) := Lib.hid hown; clear hown
  replace P0 := Lib.hid (P0.out.below hb)
  replace POw := Lib.hid (POw.out.below hb)
  replace PBw := Lib.hid (PBw.out.below hb)
  replace PM := Lib.hid (PM.out.below hb)
  clear hb
  (try clear qw0 qw1 qwl); obtain ⟨qw0, qw1⟩ := (HBw.out.below PBw.out).c2; have qwl := (HBw.out.below PBw.out).lt
  (try clear qx0 qx1 qxl); obtain ⟨qx0, qx1⟩ := (HBx.out.below PM.out).c2; have qxl := (HBx.out.below PM.out).lt
  have POh := Lib.hid (Since.refl u6)
  have HBh := Lib.hid (Row.box u6 30 (.int .i64 ((satR a0 a1).1)) (.slice Bh ((satR a0 a1).2.1).length dh))
  have HLBh_P0 := Lib.hid P0.out.size
  have HLBh_POw := Lib.hid POw.out.size
  have HLBh_PBw := Lib.hid PBw.out.size
  have HLBh_PM := Lib.hid PM.out.size
  have HLBh_POh := Lib.hid POh.out.size
  have HBLh : Hid (∀ k, Bh.map Addr.block = some k → k < u6.heap.size) := fun k e => (World.ownsRow.lt HOh.out k (own_of_blk e)).2
  replace P0 := Lib.hid (P0.out.below (below_alloc u6 (.cells #[.int .i64 ((satR a0 a1).1), .slice Bh ((satR a0 a1).2.1).length dh] 30)))
  replace POw := Lib.hid (POw.out.below (below_alloc u6 (.cells #[.int .i64 ((satR a0 a1).1), .slice Bh ((satR a0 a1).2.1).length dh] 30)))
  replace PBw := Lib.hid (PBw.out.below (below_alloc u6 (.cells #[.int .i64 ((satR a0 a1).1), .slice Bh ((satR a0 a1).2.1).length dh] 30)))
  replace PM := Lib.hid (PM.out.below (below_alloc u6 (.cells #[.int .i64 ((satR a0 a1).1), .slice Bh ((satR a0 a1).2.1).length dh] 30)))
  replace POh := Lib.hid (POh.out.below (below_alloc u6 (.cells #[.int .i64 ((satR a0 a1).1), .slice Bh ((satR a0 a1).2.1).length dh] 30)))
  (try clear qw0 qw1 qwl); obtain ⟨qw0, qw1⟩ := (HBw.out.below PBw.out).c2; have qwl := (HBw.out.below PBw.out).lt
  (try clear qx0 qx1 qxl); obtain ⟨qx0, qx1⟩ := (HBx.out.below PM.out).c2; have qxl := (HBx.out.below PM.out).lt
  have PBh := Lib.hid (Since.refl (u6.alloc (.cells #[.int .i64 ((satR a0 a1).1), .slice Bh ((satR a0 a1).2.1).length dh] 30)))
  (try clear qw0 qw1 qwl); obtain ⟨qw0, qw1⟩ := (HBw.out.below PBw.out).c2; have qwl := (HBw.out.below PBw.out).lt
  (try clear qx0 qx1 qxl); obtain ⟨qx0, qx1⟩ := (HBx.out.below PM.out).c2; have qxl := (HBx.out.below PM.out).lt
  (try clear qh0 qh1 qhl); obtain ⟨qh0, qh1⟩ := (HBh.out.below PBh.out).c2; have qhl := (HBh.out.below PBh.out).lt
  go_wp2_with fail
  refine (eqSystem_any (satR a0 a1).1 (satR a0 a1).1 Bh Bw dh dw ((satR a0 a1).2.1) ((satR a0 a1).2.1) _ (OB.bl (HOh.out.below POh.out)) (OB.bl (HOw.out.below POw.out)) (by omega) (by omega)).mono ?_
  rw [eqSys_true ⟨rfl, rfl⟩]
  rintro e u7 ⟨rfl, hb⟩
  replace P0 := Lib.hid (P0.out.below hb)
  replace POw := Lib.hid (POw.out.below hb)
  replace PBw := Lib.hid (PBw.out.below hb)
  replace PM := Lib.hid (PM.out.below hb)
  replace POh := Lib.hid (POh.out.below hb)
  replace PBh := Lib.hid (PBh.out.below hb)
  clear hb
  (try clear qw0 qw1 qwl); obtain ⟨qw0, qw1⟩ := (HBw.out.below PBw.out).c2; have qwl := (HBw.out.below PBw.out).lt
  (try clear qx0 qx1 qxl); obtain ⟨qx0, qx1⟩ := (HBx.out.below PM.out).c2; have qxl := (HBx.out.below PM.out).lt
  (try clear qh0 qh1 qhl); obtain ⟨qh0, qh1⟩ := (HBh.out.below PBh.out).c2; have qhl := (HBh.out.below PBh.out).lt
  go_wp2_with fail
  refine (heldSystem_any ((satR a0 a1).1) Bx (((satR a0 a1).2.1).length) dx 1 _ (HM.out.below PM.out) (by omega) (by omega) (by omega)).mono ?_
  rintro e u8 ⟨rfl, hb⟩
  replace P0 := Lib.hid (P0.out.below hb)
  replace POw := Lib.hid (POw.out.below hb)
  replace PBw := Lib.hid (PBw.out.below hb)
  replace PM := Lib.hid (PM.out.below hb)
  replace POh := Lib.hid (POh.out.below hb)
  replace PBh := Lib.hid (PBh.out.below hb)
  clear hb
  (try clear qw0 qw1 qwl); obtain ⟨qw0, qw1⟩ := (HBw.out.below PBw.out).c2; have qwl := (HBw.out.below PBw.out).lt
  (try clear qx0 qx1 qxl); obtain ⟨qx0, qx1⟩ := (HBx.out.below PM.out).c2; have qxl := (HBx.out.below PM.out).lt
  (try clear qh0 qh1 qhl); obtain ⟨qh0, qh1⟩ := (HBh.out.below PBh.out).c2; have qhl := (HBh.out.below PBh.out).lt
  go_wp2
  go_ret
  exact ⟨rfl, P0.out⟩

set_option maxRecDepth 100000 in
theorem lawSystemAt_lifted (os : Os) (started : os.Started) (H : Type) (enc : TypeId × Value → H) :
    ReturnsInHanded {} Try.checked os 12 .any (Rows.fnExactSystemAtSpec.pre6 enc Try.prog Try.f12 Rows.fnExactSystemAtRow.domain false) (Rows.fnExactSystemAtSpec.post enc Try.prog Try.f12 false true false false) := by
  refine returnsInHanded_of_change (C := Try.checked) Try.own started (by kernel_rfl) Try.func12
    (ChangeSpec.witness6 (enc := enc) (C := Try.checked) false ⟨#[], #[.int .i64 0, .int .i64 0], []⟩ 8 (by kernel_rfl) (by kernel_rfl) (by kernel_rfl) (by kernel_rfl)) ?_
  intro W base args ds gs before hval0 hW _ _
  have hval : ∀ (j : Nat) t v, Try.f12.params[j]? = some t → args[j]? = some v → Value.okWide Try.prog W .any base t v := hval0
  have hW' := hW
  obtain ⟨p, q, hA0, hV, rfl, hfz, hnd⟩ := hW
  have hA : DataW.TrodAll enc Try.prog W 0 (fun _ => true) true Try.f12.params.toList args.toList ds p := hA0
  rw [Try.params12] at hA hval
  obtain ⟨w0, w1, d0, d1, p0, p1, rfl, rfl, rfl, h0, h1⟩ := trodAll_two hA
  obtain ⟨rfl, rfl⟩ := trodVars_none hV
  obtain ⟨a0, rfl, rfl, rfl, wa0⟩ := open_int Try.underlying2 (hval 0 2 w0 rfl rfl) h0
  obtain ⟨a1, rfl, rfl, rfl, wa1⟩ := open_int Try.underlying2 (hval 1 2 w1 rfl rfl) h1
  refine (lawSystemAt_walk a0 a1 W ).mono fun e W' ⟨he, hb⟩ => ?_
  subst he
  exact ⟨_, rfl, law_post hW' rfl rfl (by kernel_rfl) Try.underlying4 Try.laidOut (by kernel_rfl) hb⟩

theorem lawSystemAt_u1 : Try.pinned.checked.prog.unfollowed 12 = Rows.fnExactSystemAtRow.unfollowed := by kernel_rfl
theorem lawSystemAt_u2 : Try.pinned.checked.prog.recurses 12 = Rows.fnExactSystemAtRow.recurses := by kernel_rfl
theorem lawSystemAt_u3 : Try.pinned.checked.prog.varsNamed 12 = Rows.fnExactSystemAtRow.named := by kernel_rfl
theorem lawSystemAt_u4 : Try.pinned.checked.prog.inPlace 12 = Rows.fnExactSystemAtRow.inPlace := by kernel_rfl
theorem lawSystemAt_facts : joinedFacts Try.pinned.checked.prog 12 Try.f12 Rows.fnExactSystemAtSpec Rows.fnExactSystemAtRow = true := by
  unfold joinedFacts
  rw [lawSystemAt_u1, lawSystemAt_u2, lawSystemAt_u3, lawSystemAt_u4]
  exact of_decide_eq_true (by kernel_rfl)
theorem lawSystemAt_named : Try.pinned.checked.prog.funcNamed Rows.fnExactSystemAtRow.func = some 12 := by kernel_rfl
theorem lawSystemAt_inst : Try.f12.isInstance Try.pinned.checked.prog Rows.fnExactSystemAtRow.origin Rows.fnExactSystemAtRow.targs := of_decide_eq_true (by kernel_rfl)
theorem lawSystemAt_holds : Rows.FnExactSystemAtSaid :=
  OpenClaim.holds_of_wide 12 Try.f12 rfl rfl rfl rfl rfl rfl rfl ⟨rfl, rfl, rfl, rfl, rfl⟩ rfl rfl rfl rfl rfl lawSystemAt_named Try.func12 lawSystemAt_facts
    lawSystemAt_inst (by unfold Func.isWrapper; first | (rw [if_pos (by decide +kernel)]; kernel_rfl) | (rw [if_neg (by decide +kernel)]; exact ⟨rfl, rfl⟩))
    (fun os started H enc _ => lawSystemAt_lifted os started H enc)

end Go.Proofs.Ytbknpflbafjblaa
