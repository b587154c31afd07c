/- Contracts for CountDisjoint, of the reference and of the program; conditions: stated in each. -/
import Derived.Test.YtpdkkbimhhhjmaaW21
namespace Go.Proofs.Ytpdkkbimhhhjmaa
open Go.RowKit
set_option maxHeartbeats 400000
set_option maxRecDepth 100000
set_option linter.unusedSimpArgs false
set_option linter.unusedVariables false

noncomputable def cntR (v : Int) (xs : List Blk) (k : Int) : Int × Int := if isSysB v xs = true then (if 0 ≤ k ∧ k ≤ 5 then (((cntS xs k.toNat 0 0 : Nat) : Int), 0) else (0, 2)) else (0, 1)

theorem specCnt_any (v : Int) (A : Option Addr) (c : Nat) (xs : List Blk) (k : Int) (w : World) (hA : Bl w A xs) (hl : xs.length ≤ 1048576) :
    Calls Try.prog 16 #[.agg #[.int .i64 v, .slice A xs.length c], .int .i64 k] w fun e w' => e = .returned (.tuple #[.int .i64 (cntR v xs k).1, .int .i64 (cntR v xs k).2]) ∧ Below w.heap.size w w' := by
  cases hs : isSysB v xs
  · have HN : Hid (cntR v xs k = (0, 1)) := by unfold Hid cntR; simp [hs]
    generalize cntR v xs k = R at *
    have HA := Lib.hid hA; clear hA; have HR := Lib.hid (Row.box w 30 (.int .i64 v) (.slice A xs.length c)); have HW := Lib.hid (Since.refl w); go_enter Try.func16, Try.ntmps16; go_wp2_with fail; replace HA := Lib.hid (HA.out.below (below_alloc _ (.cells #[.int .i64 v, .slice A xs.length c] 30))); replace HW := Lib.hid (HW.out.below (below_alloc _ (.cells #[.int .i64 v, .slice A xs.length c] 30)))
    refine (l01Is_any v A c xs _ HA.out hl).mono ?_; rw [hs]; rintro e w_ ⟨rfl, hb⟩; replace HW := Lib.hid (HW.out.below hb); clear hb
    go_wp2
    go_ret2
    exact ⟨by rw [HN.out]; rfl, HW.out⟩
  · by_cases hk : 0 ≤ k ∧ k ≤ 5
    · have HN : Hid (cntR v xs k = (((cntS xs k.toNat 0 0 : Nat) : Int), 0)) := by unfold Hid cntR; rw [if_pos hs, if_pos hk]
      have HS := Lib.hid (isSysB_iff.1 hs)
      have HD := Lib.hid (decide_eq_true hk)
      generalize cntR v xs k = R at *
      obtain ⟨d, rfl⟩ := Int.eq_ofNat_of_zero_le hk.1
      have hd5 : d ≤ 5 := by omega
      clear hk
      go_enter Try.func16, Try.ntmps16
      have HA := Lib.hid hA; clear hA; have HR := Lib.hid (Row.box w 30 (.int .i64 v) (.slice A xs.length c)); have HW := Lib.hid (Since.refl w)
      replace HA := Lib.hid (HA.out.below (below_alloc _ (.cells #[.int .i64 v, .slice A xs.length c] 30))); replace HW := Lib.hid (HW.out.below (below_alloc _ (.cells #[.int .i64 v, .slice A xs.length c] 30)))
      go_wp2_with fail
      refine (l01Is_any v A c xs _ HA.out hl).mono ?_; rw [hs]; rintro e w_ ⟨rfl, hb⟩; replace HA := Lib.hid (HA.out.below hb); replace HW := Lib.hid (HW.out.below hb); replace HR := Lib.hid (HR.out.below hb); clear hb; (try clear c0 c1); obtain ⟨c0, c1⟩ := HR.out.c2
      go_wp2_with fail
      refine (l01In_any _ _ _ _).mono ?_
      rw [HD.out]
      rintro e w' ⟨rfl, rfl⟩
      go_wp2_with fail
      refine (l05Count_any v A c xs HS.out d 0 0 _ hd5 (by omega) HA.out).mono ?_
      rintro e w3 ⟨rfl, hb⟩
      have HW3 := Lib.hid (HW.out.below hb); clear hb
      go_wp2
      go_ret2
      exact ⟨by rw [HN.out]; rfl, HW3.out⟩
    · have HN : Hid (cntR v xs k = (0, 2)) := by unfold Hid cntR; rw [if_pos hs, if_neg hk]
      have HD := Lib.hid (decide_eq_false hk)
      generalize cntR v xs k = R at *
      clear hk
      have HA := Lib.hid hA; clear hA; have HR := Lib.hid (Row.box w 30 (.int .i64 v) (.slice A xs.length c)); have HW := Lib.hid (Since.refl w); go_enter Try.func16, Try.ntmps16; go_wp2_with fail; replace HA := Lib.hid (HA.out.below (below_alloc _ (.cells #[.int .i64 v, .slice A xs.length c] 30))); replace HW := Lib.hid (HW.out.below (below_alloc _ (.cells #[.int .i64 v, .slice A xs.length c] 30)))
      refine (l01Is_any v A c xs _ HA.out hl).mono ?_; rw [hs]; rintro e w_ ⟨rfl, hb⟩; replace HA := Lib.hid (HA.out.below hb); replace HW := Lib.hid (HW.out.below hb); replace HR := Lib.hid (HR.out.below hb); clear hb; (try clear c0 c1); obtain ⟨c0, c1⟩ := HR.out.c2
      go_wp2_with fail
      refine (l01In_any _ _ _ _).mono ?_
      rw [HD.out]
      rintro e w' ⟨rfl, rfl⟩
      go_wp2
      go_ret2
      exact ⟨by rw [HN.out]; rfl, HW.out⟩

theorem dis_count {v : Int} {xs : List Blk} (hs : isSys v xs) (d : Nat) : (disL xs d []).length = cntS xs d 0 0 := dis_len hs.2.2.1 d [] (fun k hk => by simp at hk)
theorem disTop_any (v : Int) (A : Option Addr) (c : Nat) (xs : List Blk) (d : Nat) (w : World) (hA : Bl w A xs) (hs : isSys v xs) (hd : d ≤ 5) :
    Calls Try.prog 57 #[.agg #[.int .i64 v, .slice A xs.length c], .slice none 0 0, .slice none 0 0, .int .i64 (d : Int)] w fun e w' => ∃ u, e = .returned u ∧ LLq w' w.heap.size u (disL xs d []) ∧ Below w.heap.size w w' := by
  have hAb : ∀ b, A.map Addr.block = some b → b < w.heap.size ∨ xs = [] := by
    intro b e
    rcases hA with rfl | ⟨b', o, rfl, hlt, _⟩
    · exact .inr rfl
    · simp only [Option.map_some, Option.some.injEq] at e; subst e; exact .inl hlt
  have h35 : 35 ^ d ≤ 35 ^ 5 := Nat.pow_le_pow_right (by omega) hd
  have h5 : 35 ^ 5 = 52521875 := by decide
  have h := disjoint_any v A c xs hs d d w.heap.size [] [] (.slice none 0 0) (.slice none 0 0) w (by simp) hd (Nat.le_refl _) hA hAb (LLq.nil _ _) (World.ownsRow_nil _ _ _ _) (fun k hk => by simp at hk) (fun b e => by simp [Value.ownBlock] at e) (by simp; omega)
  refine h.mono ?_
  rintro e w' ⟨u, rfl, hL, hG⟩
  exact ⟨u, rfl, by simpa using hL, hG.out (Nat.le_refl _) (fun b e => by simp [Value.ownBlock] at e)⟩

theorem implCnt_any (v : Int) (A : Option Addr) (c : Nat) (xs : List Blk) (k : Int) (w : World) (hA : Bl w A xs) (hl : xs.length ≤ 1048576) :
    Calls Try.prog 18 #[.agg #[.int .i64 v, .slice A xs.length c], .int .i64 k] w fun e w' => e = .returned (.tuple #[.int .i64 (cntR v xs k).1, .int .i64 (cntR v xs k).2]) ∧ Below w.heap.size w w' := by
  cases hs : isSysB v xs
  · have HN : Hid (cntR v xs k = (0, 1)) := by unfold Hid cntR; simp [hs]
    generalize cntR v xs k = R at *
    have HA := Lib.hid hA; clear hA; have HR := Lib.hid (Row.box w 30 (.int .i64 v) (.slice A xs.length c)); have HW := Lib.hid (Since.refl w); go_enter Try.func18, Try.ntmps18; go_wp2_with fail; replace HA := Lib.hid (HA.out.below (below_alloc _ (.cells #[.int .i64 v, .slice A xs.length c] 30))); replace HW := Lib.hid (HW.out.below (below_alloc _ (.cells #[.int .i64 v, .slice A xs.length c] 30)))
    refine (IsSystem_any v A c xs _ HA.out hl).mono ?_; rw [hs]; rintro e w_ ⟨rfl, hb⟩; replace HW := Lib.hid (HW.out.below hb); clear hb
    go_wp2
    go_ret2
    exact ⟨by rw [HN.out]; rfl, HW.out⟩
  · by_cases hk : 0 ≤ k ∧ k ≤ 5
    · have HN : Hid (cntR v xs k = (((cntS xs k.toNat 0 0 : Nat) : Int), 0)) := by unfold Hid cntR; rw [if_pos hs, if_pos hk]
      have HS := Lib.hid (isSysB_iff.1 hs)
      have HD := Lib.hid (decide_eq_true hk)
      generalize cntR v xs k = R at *
      obtain ⟨d, rfl⟩ := Int.eq_ofNat_of_zero_le hk.1
      have hd5 : d ≤ 5 := by omega
      clear hk
      go_enter Try.func18, Try.ntmps18
      have HA := Lib.hid hA; clear hA; have HR := Lib.hid (Row.box w 30 (.int .i64 v) (.slice A xs.length c)); have HW := Lib.hid (Since.refl w)
      replace HA := Lib.hid (HA.out.below (below_alloc _ (.cells #[.int .i64 v, .slice A xs.length c] 30))); replace HW := Lib.hid (HW.out.below (below_alloc _ (.cells #[.int .i64 v, .slice A xs.length c] 30)))
      go_wp2_with fail
      refine (IsSystem_any v A c xs _ HA.out hl).mono ?_; rw [hs]; rintro e w_ ⟨rfl, hb⟩; replace HA := Lib.hid (HA.out.below hb); replace HW := Lib.hid (HW.out.below hb); replace HR := Lib.hid (HR.out.below hb); clear hb; (try clear c0 c1); obtain ⟨c0, c1⟩ := HR.out.c2
      go_wp2_with fail
      refine (within_any _ _ _ _).mono ?_
      rw [HD.out]
      rintro e w' ⟨rfl, rfl⟩
      go_wp2_with fail
      refine (disTop_any v A c xs d _ HA.out HS.out hd5).mono ?_
      rintro e w3 ⟨u, rfl, hL, hb⟩
      obtain ⟨B, e, rfl⟩ := hL.slice
      have HW3 := Lib.hid (HW.out.below hb); clear hb hL
      have HCT := Lib.hid (dis_count HS.out d)
      have hbd := dis_bd HS.out.2.1 d []
      have h35 : 35 ^ d ≤ 35 ^ 5 := Nat.pow_le_pow_right (by omega) hd5
      have h5 : 35 ^ 5 = 52521875 := by decide
      go_wp2
      go_ret2
      exact ⟨by rw [HN.out]; exact ret_ii (by rw [HCT.out]; rfl) rfl, HW3.out⟩
    · have HN : Hid (cntR v xs k = (0, 2)) := by unfold Hid cntR; rw [if_pos hs, if_neg hk]
      have HD := Lib.hid (decide_eq_false hk)
      generalize cntR v xs k = R at *
      clear hk
      have HA := Lib.hid hA; clear hA; have HR := Lib.hid (Row.box w 30 (.int .i64 v) (.slice A xs.length c)); have HW := Lib.hid (Since.refl w); go_enter Try.func18, Try.ntmps18; go_wp2_with fail; replace HA := Lib.hid (HA.out.below (below_alloc _ (.cells #[.int .i64 v, .slice A xs.length c] 30))); replace HW := Lib.hid (HW.out.below (below_alloc _ (.cells #[.int .i64 v, .slice A xs.length c] 30)))
      refine (IsSystem_any v A c xs _ HA.out hl).mono ?_; rw [hs]; rintro e w_ ⟨rfl, hb⟩; replace HA := Lib.hid (HA.out.below hb); replace HW := Lib.hid (HW.out.below hb); replace HR := Lib.hid (HR.out.below hb); clear hb; (try clear c0 c1); obtain ⟨c0, c1⟩ := HR.out.c2
      go_wp2_with fail
      refine (within_any _ _ _ _).mono ?_
      rw [HD.out]
      rintro e w' ⟨rfl, rfl⟩
      go_wp2
      go_ret2
      exact ⟨by rw [HN.out]; rfl, HW.out⟩

end Go.Proofs.Ytpdkkbimhhhjmaa
