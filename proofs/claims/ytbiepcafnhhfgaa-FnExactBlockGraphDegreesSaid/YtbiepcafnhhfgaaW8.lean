/- Contracts of closures over blocks; conditions: stated in each. -/
import Derived.Test.YtbiepcafnhhfgaaW7
import Derived.Test.YtbiepcafnhhfgaaP2
import Derived.ChangeKeysEq
namespace Go.Proofs.Ytbiepcafnhhfgaa
open Go.RowKit
set_option maxHeartbeats 400000
set_option maxRecDepth 100000
set_option linter.unusedSimpArgs false
set_option linter.unusedVariables false

def awayP (a : Blk) (c : Blk) : Bool := !eqB c a && meetB c a

theorem part3 (x y z : Value) : (∀ w, (part 2 #[x, y, z] (0 * 1)).run Try.prog w = .ok x w) ∧ (∀ w, (part 2 #[x, y, z] (1 * 1)).run Try.prog w = .ok y w) ∧ (∀ w, (part 2 #[x, y, z] (2 * 1)).run Try.prog w = .ok z w) :=
  ⟨fun _ => by kernel_rfl, fun _ => by kernel_rfl, fun _ => by kernel_rfl⟩
/-- '==' of two blocks. -/
@[go_sem] theorem run_eqB (a0 a1 a2 c0 c1 c2 : Int) (w : World) : (Op.equalIn 10000 65 (.agg #[.int .i64 c0, .int .i64 c1, .int .i64 c2]) (.agg #[.int .i64 a0, .int .i64 a1, .int .i64 a2])).run Try.prog w = .ok (eqB (c0, c1, c2) (a0, a1, a2)) w := by
  have h1 : eqB (c0, c1, c2) (a0, a1, a2) = (if (c0 == a0) = true then (if (c1 == a1) = true then (c2 == a2) else false) else false) := by
    unfold eqB; rw [Bool.eq_iff_iff]; simp only [Prod.mk.injEq, beq_iff_eq, decide_eq_true_eq]; (repeat' split) <;> simp_all
  obtain ⟨i, hi, _⟩ := info_parts infoInt'
  have hc : Try.prog.cellsOf 2 = 1 := by kernel_rfl
  rw [h1, run_equalIn_array (P := Try.prog) w 9999 _ _ Try.underlying65 hi, hc]
  obtain ⟨p0, p1, p2⟩ := part3 (.int .i64 c0) (.int .i64 c1) (.int .i64 c2)
  obtain ⟨r0, r1, r2⟩ := part3 (.int .i64 a0) (.int .i64 a1) (.int .i64 a2)
  have e0 := fun w a b => run_equalIn_int (P := Try.prog) w 9998 2 .i64 .i64 a b Try.underlying2
  show (Op.eqItems 9999 2 1 _ _ [0, 1, 2]).run Try.prog w = _
  simp only [Op.eqItems, Sem.run_bind, p0, p1, p2, r0, r1, r2, e0, Result.andThen_ok, Sem.run_ite, Sem.run_pure]
  cases (c0 == a0) <;> cases (c1 == a1) <;> cases (c2 == a2) <;> simp

theorem meetCl_any (a c : Blk) (ra : Nat) (w : World) (hA : Box w ra a) :
    Calls Try.prog 87 #[.agg #[.int .i64 c.1, .int .i64 c.2.1, .int .i64 c.2.2], .pointer (some ⟨ra, 0, none⟩)] w fun e w' => e = .returned (.bool (awayP a c)) ∧ Below w.heap.size w w' := by
  have HP : Hid (awayP a c = (!eqB c a && meetB c a)) := rfl
  generalize awayP a c = P at *
  have HA := Lib.hid (hA.below (below_alloc _ (.cells #[.int .i64 c.1, .int .i64 c.2.1, .int .i64 c.2.2] 65)))
  have HC := Lib.hid (Box.new w c 65)
  have HW := Lib.hid (Since.below (Since.refl w) (below_alloc w (.cells #[.int .i64 c.1, .int .i64 c.2.1, .int .i64 c.2.2] 65)))
  clear hA
  obtain ⟨q0, q1, q2⟩ := HA.out.three
  cases he : eqB c a
  all_goals
    go_enter Try.func87, Try.ntmps87
    go_wp2_with (go_at_call 60; refine (meets_any c a _).mono ?_; rintro e w1 ⟨rfl, hb⟩; replace HW := Lib.hid (HW.out.below hb); clear hb)
    go_ret
    exact ⟨ret_bool (by rw [HP.out, he]; rfl), HW.out⟩

theorem neighCl_any (a b c : Blk) (ra rb : Nat) (w : World) (hA : Box w ra a) (hB : Box w rb b) :
    Calls Try.prog 59 #[.agg #[.int .i64 c.1, .int .i64 c.2.1, .int .i64 c.2.2], .pointer (some ⟨ra, 0, none⟩), .pointer (some ⟨rb, 0, none⟩)] w fun e w' => e = .returned (.bool (neighP a b c)) ∧ Below w.heap.size w w' := by
  have HP : Hid (neighP a b c = (!eqB c a && !eqB c b && meetB c a && meetB c b)) := rfl
  generalize neighP a b c = P at *
  have HA := Lib.hid (hA.below (below_alloc _ (.cells #[.int .i64 c.1, .int .i64 c.2.1, .int .i64 c.2.2] 65)))
  have HB := Lib.hid (hB.below (below_alloc _ (.cells #[.int .i64 c.1, .int .i64 c.2.1, .int .i64 c.2.2] 65)))
  have HC := Lib.hid (Box.new w c 65)
  have HW := Lib.hid (Since.below (Since.refl w) (below_alloc w (.cells #[.int .i64 c.1, .int .i64 c.2.1, .int .i64 c.2.2] 65)))
  clear hA hB
  obtain ⟨q0, q1, q2⟩ := HA.out.three
  obtain ⟨r0, r1, r2⟩ := HB.out.three
  cases he : eqB c a
  · cases hf : eqB c b
    · cases hm : meetB c a
      · go_enter Try.func59, Try.ntmps59
        go_wp2_with fail
        refine (meets_any c a _).mono ?_
        rw [hm]
        rintro e w1 ⟨rfl, hb⟩
        replace HW := Lib.hid (HW.out.below hb); clear hb
        go_wp2
        go_ret
        exact ⟨ret_bool (by rw [HP.out, he, hf, hm]; rfl), HW.out⟩
      · go_enter Try.func59, Try.ntmps59
        go_wp2_with fail
        refine (meets_any c a _).mono ?_
        rw [hm]
        rintro e w1 ⟨rfl, hb⟩
        replace HA := Lib.hid (HA.out.below hb); replace HB := Lib.hid (HB.out.below hb); replace HC := Lib.hid (HC.out.below hb); replace HW := Lib.hid (HW.out.below hb); clear hb
        clear q0 q1 q2 r0 r1 r2
        obtain ⟨q0, q1, q2⟩ := HC.out.three
        obtain ⟨r0, r1, r2⟩ := HB.out.three
        go_wp2_with fail
        refine (meets_any c b _).mono ?_
        rintro e w2 ⟨rfl, hb⟩
        replace HW := Lib.hid (HW.out.below hb); clear hb
        go_wp2
        go_ret
        exact ⟨ret_bool (by rw [HP.out, he, hf, hm]; rfl), HW.out⟩
    · go_enter Try.func59, Try.ntmps59
      go_wp2
      go_ret
      exact ⟨ret_bool (by rw [HP.out, he, hf]; rfl), HW.out⟩
  · go_enter Try.func59, Try.ntmps59
    go_wp2
    go_ret
    exact ⟨ret_bool (by rw [HP.out, he]; rfl), HW.out⟩

end Go.Proofs.Ytbiepcafnhhfgaa
