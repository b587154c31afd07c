/- Contracts of the codes of elements and of products; conditions: stated in each. -/
import Derived.Test.YtpdkkbimhhhjmaaW11
namespace Go.Proofs.Ytpdkkbimhhhjmaa
open Go.RowKit
set_option maxHeartbeats 400000
set_option maxRecDepth 100000
set_option linter.unusedSimpArgs false
set_option linter.unusedVariables false

/-- not from 0 to m -/
def outP (m : Int) (a : Int) : Bool := !decide (0 ≤ a ∧ a ≤ m)
theorem anyP_out (ls : List Int) (m : Int) : anyP (outP m) ls = !allInB ls m := by
  by_cases h : allIn ls m
  · rw [allInB_true h, anyP_false]
    · rfl
    · intro k hk; have := h k hk; simp [outP, this]
  · rw [allInB_false h]
    unfold allIn at h
    simp only [Classical.not_forall] at h
    obtain ⟨k, hk, hn⟩ := h
    rw [anyP_true hk (by simp only [outP, decide_eq_false hn]; rfl)]; rfl

theorem elCl_any (a m : Int) (r : Nat) (w : World) (hM : w.cell? ⟨r, 0, none⟩ = some (.int .i64 m)) :
    Calls Try.prog 115 #[.int .i64 a, .pointer (some ⟨r, 0, none⟩)] w fun e w' => e = .returned (.bool (outP m a)) ∧ Below w.heap.size w w' := by
  go_enter Try.func115, Try.ntmps115
  go_wp2_with (go_at_call 56; refine (within_any _ _ _ _).mono ?_; rintro e w' ⟨rfl, rfl⟩)
  go_ret
  exact ⟨ret_bool (by simp [outP]), Below.refl _ _⟩

theorem elementsCode_any (v : Int) (A : Option Addr) (c : Nat) (xs : List Blk) (m : Int) (B : Option Addr) (d : Nat) (ls : List Int) (w : World) (hA : Bl w A xs) (hl : xs.length ≤ 1048576) (hB : Il w B ls) (hlb : ls.length ≤ 1048576) :
    Calls Try.prog 72 #[.agg #[.int .i64 v, .slice A xs.length c], .int .i64 m, .slice B ls.length d] w fun e w' => e = .returned (.int .i64 (elCode v xs m ls)) ∧ Below w.heap.size w w' := by
  have HW : Hid (Since w _) := Lib.hid (below_up (below_alloc w (.cells #[.int .i64 v, .slice A xs.length c] 30)) (below_alloc _ (.cells #[.int .i64 m] 2)))
  have HA := Lib.hid (hA.below HW.out); have HB := Lib.hid (hB.below HW.out)
  have HR := Lib.hid ((Row.box w 30 (.int .i64 v) (.slice A xs.length c)).below (below_alloc _ (.cells #[.int .i64 m] 2)))
  have HM := Lib.hid (Row.new (w.alloc (.cells #[.int .i64 v, .slice A xs.length c] 30)) 2 #[.int .i64 m])
  rw [World.size_alloc] at HM
  clear hA hB
  cases hs : isSysB v xs
  · go_enter Try.func72, Try.ntmps72
    go_wp2_with fail
    refine (IsSystem_any v A c xs _ HA.out hl).mono ?_; rw [hs]; rintro e w_ ⟨rfl, hb⟩; replace HW := Lib.hid (HW.out.below hb); clear hb
    go_wp2
    go_ret
    exact ⟨ret_int (by simp [elCode, hs]), HW.out⟩
  · have hv := (isSysB_iff.1 hs).1
    cases ha : allInB ls m
    · go_enter Try.func72, Try.ntmps72
      go_wp2_with fail
      refine (IsSystem_any v A c xs _ HA.out hl).mono ?_; rw [hs]; rintro e w_ ⟨rfl, hb⟩; replace HA := Lib.hid (HA.out.below hb); replace HB := Lib.hid (HB.out.below hb); replace HW := Lib.hid (HW.out.below hb); replace HM := Lib.hid (HM.out.below hb); replace HR := Lib.hid (HR.out.below hb); clear hb; (try clear c0 c1); obtain ⟨c0, c1⟩ := HR.out.c2
      go_wp2_with fail
      refine (containsFunc_any B d ls 115 #[] #[.pointer (some ⟨w.heap.size + 1, 0, none⟩)] (outP m) _ HB.out hlb (fun args w => by kernel_rfl) (fun W x hb => elCl_any x m _ W ((HM.out.below hb).cell 0))).mono ?_
      rw [anyP_out, ha]
      rintro e w_ ⟨rfl, hb⟩
      replace HW := Lib.hid (HW.out.below hb); clear hb
      go_wp2
      go_ret
      exact ⟨ret_int (by simp [elCode, hs, ha]), HW.out⟩
    · have HE : Hid (elCode v xs m ls = if fullB v xs = true then 0 else 5) := by unfold Hid elCode; rw [if_pos hs, if_pos ha]
      go_enter Try.func72, Try.ntmps72
      go_wp2_with fail
      refine (IsSystem_any v A c xs _ HA.out hl).mono ?_; rw [hs]; rintro e w_ ⟨rfl, hb⟩; replace HA := Lib.hid (HA.out.below hb); replace HB := Lib.hid (HB.out.below hb); replace HW := Lib.hid (HW.out.below hb); replace HM := Lib.hid (HM.out.below hb); replace HR := Lib.hid (HR.out.below hb); clear hb; (try clear c0 c1); obtain ⟨c0, c1⟩ := HR.out.c2
      go_wp2_with fail
      refine (containsFunc_any B d ls 115 #[] #[.pointer (some ⟨w.heap.size + 1, 0, none⟩)] (outP m) _ HB.out hlb (fun args w => by kernel_rfl) (fun W x hb => elCl_any x m _ W ((HM.out.below hb).cell 0))).mono ?_
      rw [anyP_out, ha]
      rintro e w_ ⟨rfl, hb⟩
      replace HA := Lib.hid (HA.out.below hb); replace HW := Lib.hid (HW.out.below hb); replace HR := Lib.hid (HR.out.below hb); clear hb; (try clear c0 c1); obtain ⟨c0, c1⟩ := HR.out.c2
      go_wp2_with fail
      refine (fullCode_any v A c xs _ HA.out hl ⟨by omega, hv.2⟩).mono ?_
      rw [← HE.out]
      rintro e w_ ⟨rfl, hb⟩
      replace HW := Lib.hid (HW.out.below hb); clear hb
      go_wp2
      go_ret
      exact ⟨rfl, HW.out⟩

/-- the product that a grid tells -/
def prodG (G : Nat → Int) (a b : Int) : Int := if a = b then a else G (a.toNat * 15 + b.toNat)
theorem product_any (g : Nat) (G : Nat → Int) (a b : Int) (w : World) (hG : Gr w g G) (ha : 0 ≤ a ∧ a < 15) (hb : 0 ≤ b ∧ b < 15) :
    Calls Try.prog 79 #[.pointer (some ⟨g, 0, none⟩), .int .i64 a, .int .i64 b] w fun e w' => e = .returned (.int .i64 (prodG G a b)) ∧ w = w' := by
  have p1 := hG.cell (i := a.toNat * 15 + b.toNat) (by omega)
  have hgl := hG.lt
  clear hG
  by_cases he : a = b
  · have he' : (a == b) = true := by simpa using he
    have HE := Lib.hid he; clear he
    go_enter Try.func79, Try.ntmps79
    go_wp2
    go_ret
    exact ⟨ret_int (by rw [prodG, if_pos HE.out]), rfl⟩
  · have he' : (a == b) = false := by simpa using he
    have HE := Lib.hid he; clear he
    go_enter Try.func79, Try.ntmps79
    go_wp2
    go_ret
    exact ⟨ret_int (by rw [prodG, if_neg HE.out]), rfl⟩

theorem l09Product_any (v : Int) (A : Option Addr) (c : Nat) (xs : List Blk) (a b : Int) (w : World) (hA : Bl w A xs) (hl : xs.length ≤ 1048576) (hs : isSys v xs) (ha : 0 ≤ a ∧ a < 15) (hb : 0 ≤ b ∧ b < 15) :
    Calls Try.prog 118 #[.agg #[.int .i64 v, .slice A xs.length c], .int .i64 a, .int .i64 b] w fun e w' => e = .returned (.int .i64 (prodI xs a b)) ∧ Below w.heap.size w w' := by
  have HS := Lib.hid hs; clear hs
  by_cases he : a = b
  · have he' : (a == b) = true := by simpa using he
    have HE := Lib.hid he; clear he
    have HW := Lib.hid (below_alloc w (.cells #[.int .i64 v, .slice A xs.length c] 30))
    go_enter Try.func118, Try.ntmps118
    go_wp2
    go_ret
    exact ⟨ret_int (by rw [prodI, if_pos HE.out]), HW.out⟩
  · have he' : (a == b) = false := by simpa using he
    have HE := Lib.hid he; clear he
    have HA := Lib.hid hA; clear hA; have HR := Lib.hid (Row.box w 30 (.int .i64 v) (.slice A xs.length c)); have HW := Lib.hid (Since.refl w); go_enter Try.func118, Try.ntmps118; go_wp2_with fail; replace HA := Lib.hid (HA.out.below (below_alloc _ (.cells #[.int .i64 v, .slice A xs.length c] 30))); replace HW := Lib.hid (HW.out.below (below_alloc _ (.cells #[.int .i64 v, .slice A xs.length c] 30)))
    refine (l01Third_any v A c xs a b _ HA.out hl HS.out ha hb).mono ?_; rintro e w_ ⟨rfl, hb⟩; replace HW := Lib.hid (HW.out.below hb); clear hb
    go_wp2
    go_ret
    exact ⟨ret_int (by rw [prodI, if_neg HE.out]), HW.out⟩

theorem l09Points_any (v : Int) (A : Option Addr) (c : Nat) (xs : List Blk) (n : Int) (B : Option Addr) (d : Nat) (ls : List Int) (w : World) (hA : Bl w A xs) (hl : xs.length ≤ 1048576) (hB : Il w B ls) (hlb : ls.length ≤ 1048576)
    (hn : isSysB v xs = true → 0 ≤ n ∧ n ≤ 100) :
    Calls Try.prog 70 #[.agg #[.int .i64 v, .slice A xs.length c], .int .i64 n, .slice B ls.length d] w fun e w' => e = .returned (.int .i64 (elCode v xs (n - 1) ls)) ∧ Below w.heap.size w w' := by
  have HB := Lib.hid hB; clear hB
  cases hs : isSysB v xs
  · have HA := Lib.hid hA; clear hA; have HR := Lib.hid (Row.box w 30 (.int .i64 v) (.slice A xs.length c)); have HW := Lib.hid (Since.refl w); go_enter Try.func70, Try.ntmps70; go_wp2_with fail; replace HA := Lib.hid (HA.out.below (below_alloc _ (.cells #[.int .i64 v, .slice A xs.length c] 30))); replace HW := Lib.hid (HW.out.below (below_alloc _ (.cells #[.int .i64 v, .slice A xs.length c] 30)))
    refine (l01Is_any v A c xs _ HA.out hl).mono ?_; rw [hs]; rintro e w_ ⟨rfl, hb⟩; replace HW := Lib.hid (HW.out.below hb); clear hb
    go_wp2
    go_ret
    exact ⟨ret_int (by simp [elCode, hs]), HW.out⟩
  · have hv := (isSysB_iff.1 hs).1
    have hn' := hn hs
    clear hn
    have HE : Hid (∀ m, elCode v xs m ls = if allInB ls m = true then (if fullB v xs = true then 0 else 5) else 2) := by intro m; unfold elCode; rw [if_pos hs]
    have HA := Lib.hid hA; clear hA; have HR := Lib.hid (Row.box w 30 (.int .i64 v) (.slice A xs.length c)); have HW := Lib.hid (Since.refl w); go_enter Try.func70, Try.ntmps70; go_wp2_with fail; replace HA := Lib.hid (HA.out.below (below_alloc _ (.cells #[.int .i64 v, .slice A xs.length c] 30))); replace HW := Lib.hid (HW.out.below (below_alloc _ (.cells #[.int .i64 v, .slice A xs.length c] 30))); replace HB := Lib.hid (HB.out.below (below_alloc _ (.cells #[.int .i64 v, .slice A xs.length c] 30)))
    refine (l01Is_any v A c xs _ HA.out hl).mono ?_; rw [hs]; rintro e w_ ⟨rfl, hb⟩; replace HA := Lib.hid (HA.out.below hb); replace HB := Lib.hid (HB.out.below hb); replace HW := Lib.hid (HW.out.below hb); replace HR := Lib.hid (HR.out.below hb); clear hb; (try clear c0 c1); obtain ⟨c0, c1⟩ := HR.out.c2
    go_wp2
    clear c0 c1
    go_loopw [7] (fun i wr => ∃ k : Nat, k ≤ ls.length ∧ i = .int .i64 k ∧ Below w_.heap.size w_ wr ∧ Hid (∀ j, j < k → 0 ≤ nthI ls j ∧ nthI ls j ≤ n - 1)) (fun i _ => ls.length - (intOf i).toNat)
    case atStart => exact ⟨0, by omega, rfl, Below.refl _ _, fun i hi => by omega⟩
    case round =>
      obtain ⟨k, hk, rfl, hb, HC⟩ := hrel
      by_cases hlt : k < ls.length
      · obtain ⟨b1, o1, hA1, hb1, p0⟩ := (HB.out.below hb).at_ hlt
        subst hA1
        by_cases hin : 0 ≤ nthI ls k ∧ nthI ls k ≤ n - 1
        · have HIN := Lib.hid hin
          go_wp2_with (go_at_call 52; refine (l01In_any _ _ _ _).mono ?_; rintro e w' ⟨rfl, rfl⟩)
          go_roundw
          case rel =>
            refine ⟨k + 1, by omega, by go_num, hb, fun j hj => ?_⟩
            by_cases hjk : j < k
            · exact HC.out j hjk
            · obtain rfl : j = k := by omega
              exact HIN.out
          case measure => simp [intOf]; omega
        · have hin' := decide_eq_false hin
          have HIN := Lib.hid hin
          clear hin
          go_wp2_with (go_at_call 52; refine (l01In_any _ _ _ _).mono ?_; rintro e w' ⟨rfl, rfl⟩)
          go_ret
          refine ⟨ret_int ?_, HW.out.below hb⟩
          rw [HE.out, allInB_false fun h => HIN.out (h k hlt)]; rfl
      · obtain rfl : k = ls.length := by omega
        obtain ⟨c0, c1⟩ := (HR.out.below hb).c2
        cases hf : fullB v xs
        · go_wp2_with fail
          refine (l01Full_any v A c xs _ hl ⟨by omega, hv.2⟩).mono ?_
          rw [hf]
          rintro e w1 ⟨rfl, hb2⟩
          have HB2 := Lib.hid (HW.out.below (below_up hb hb2)); clear hb2
          go_wp2
          go_ret
          refine ⟨ret_int ?_, HB2.out⟩
          rw [HE.out, allInB_true HC.out, hf]; rfl
        · go_wp2_with fail
          refine (l01Full_any v A c xs _ hl ⟨by omega, hv.2⟩).mono ?_
          rw [hf]
          rintro e w1 ⟨rfl, hb2⟩
          have HB2 := Lib.hid (HW.out.below (below_up hb hb2)); clear hb2
          go_wp2
          go_ret
          refine ⟨ret_int ?_, HB2.out⟩
          rw [HE.out, allInB_true HC.out, hf]; rfl

end Go.Proofs.Ytpdkkbimhhhjmaa
