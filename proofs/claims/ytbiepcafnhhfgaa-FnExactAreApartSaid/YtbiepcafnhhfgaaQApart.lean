/- Contracts for AreApart, of the reference and of the program; conditions: stated in each. -/
import Derived.Test.YtbiepcafnhhfgaaW10
namespace Go.Proofs.Ytbiepcafnhhfgaa
open Go.RowKit
set_option maxHeartbeats 400000
set_option maxRecDepth 100000
set_option linter.unusedSimpArgs false
set_option linter.unusedVariables false

/-- AreApart's answer -/
noncomputable def apartR (v : Int) (xs : List Blk) (u : Int) (ys : List Blk) : Bool × Int :=
  if isSysB v xs = true ∧ isSysB u ys = true then (if v = u then (((comL xs ys xs.length).length : Int) == 0, 0) else (false, 5)) else (false, 1)

theorem member_is {B : Option Addr} {d : Nat} {ys : List Blk} {b : Blk} {r : Bool} (h : memL ys b = r) (w : World) (hB : Bl w B ys) (hl : ys.length ≤ 1048576) :
    Calls Try.prog 101 #[.slice B ys.length d, .agg #[.int .i64 b.1, .int .i64 b.2.1, .int .i64 b.2.2]] w fun e w' => e = .returned (.bool r) ∧ Below w.heap.size w w' := h ▸ l04Member_any B d ys b w hB hl

theorem l10Common_any (v : Int) (A : Option Addr) (c : Nat) (xs : List Blk) (u : Int) (B : Option Addr) (d : Nat) (ys : List Blk) (w : World) (hA : Bl w A xs) (hl : xs.length ≤ 1048576) (hB : Bl w B ys) (hlb : ys.length ≤ 1048576) :
    Calls Try.prog 63 #[.agg #[.int .i64 v, .slice A xs.length c], .agg #[.int .i64 u, .slice B ys.length d]] w fun e w' => e = .returned (.int .i64 (comL xs ys xs.length).length) ∧ Below w.heap.size w w' := by
  have HW := Lib.hid (below_up (below_alloc w (.cells #[.int .i64 v, .slice A xs.length c] 30)) (below_alloc _ (.cells #[.int .i64 u, .slice B ys.length d] 30))); have HA := Lib.hid (hA.below HW.out); have HB := Lib.hid (hB.below HW.out); clear hA hB; have HR := Lib.hid ((Row.box w 30 (.int .i64 v) (.slice A xs.length c)).below (below_alloc _ (.cells #[.int .i64 u, .slice B ys.length d] 30))); have HQ := Lib.hid (Row.box (w.alloc (.cells #[.int .i64 v, .slice A xs.length c] 30)) 30 (.int .i64 u) (.slice B ys.length d)); rw [World.size_alloc] at HQ; replace HW : Hid (Since w _) := HW; go_enter Try.func63, Try.ntmps63; go_wp2_with fail
  generalize (w.alloc _).alloc _ = W at *
  go_loopw [5, 6] (fun q i wr => ∃ k : Nat, k ≤ xs.length ∧ i = .int .i64 k ∧ q = .int .i64 (comL xs ys k).length ∧ Below W.heap.size W wr) (fun _ i _ => xs.length - (intOf i).toNat)
  case atStart => exact ⟨0, by omega, rfl, rfl, Below.refl _ _⟩
  case round =>
    obtain ⟨k, hk, rfl, rfl, hb⟩ := hrel
    obtain ⟨c0, c1⟩ := (HR.out.below hb).c2
    obtain ⟨q0, q1⟩ := (HQ.out.below hb).c2
    have hsz := (HR.out.below hb).lt
    have hsz2 := (HQ.out.below hb).lt
    have hlen := comL_len xs ys k
    by_cases hlt : k < xs.length
    · obtain ⟨b1, o1, hA1, hb1, p0, p1, p2⟩ := (HA.out.below hb).at_ hlt
      subst hA1
      have HN : Hid (comL xs ys (k + 1) = comL xs ys k ++ (if memL ys (nth xs k) = true then [nth xs k] else [])) := rfl
      cases hm : memL ys (nth xs k)
      · go_wp2
        refine wp_region_ge_lit (by kernel_rfl) (by kernel_rfl) ?_; (repeat (go_big_quiet_step ((go_at_call 101; exact ge_call (member_is hm _ ((HB.out.below hb).below (ge_below _ _)) hlb))))); refine wpQuiet_nil ?_
        rintro w1 ⟨x, rfl⟩
        go_wp2
        go_roundw
        case rel => exact ⟨k + 1, by omega, by go_num, val_int (by rw [HN.out, if_neg (by simp [hm]), List.append_nil]), below_up hb (ge_below _ _)⟩
        case measure => simp [intOf]; omega
      · go_wp2
        refine wp_region_ge_lit (by kernel_rfl) (by kernel_rfl) ?_; (repeat (go_big_quiet_step ((go_at_call 101; exact ge_call (member_is hm _ ((HB.out.below hb).below (ge_below _ _)) hlb))))); refine wpQuiet_nil ?_
        rintro w1 ⟨x, rfl⟩
        go_wp2
        go_roundw
        case rel => exact ⟨k + 1, by omega, by go_num, val_int (by rw [HN.out, if_pos hm]; simp), below_up hb (ge_below _ _)⟩
        case measure => simp [intOf]; omega
    · obtain rfl : k = xs.length := by omega
      go_wp2
      go_ret
      exact ⟨rfl, below_up HW.out hb⟩

theorem specApart_any (v : Int) (A : Option Addr) (c : Nat) (xs : List Blk) (u : Int) (B : Option Addr) (d : Nat) (ys : List Blk) (w : World) (hA : Bl w A xs) (hl : xs.length ≤ 1048576) (hB : Bl w B ys) (hlb : ys.length ≤ 1048576) :
    Calls Try.prog 24 #[.agg #[.int .i64 v, .slice A xs.length c], .agg #[.int .i64 u, .slice B ys.length d]] w fun e w' => e = .returned (.tuple #[.bool (apartR v xs u ys).1, .int .i64 (apartR v xs u ys).2]) ∧ Below w.heap.size w w' := by
  cases hs : isSysB v xs
  · have HN : Hid (apartR v xs u ys = (false, 1)) := by unfold Hid apartR; simp [hs]
    generalize apartR v xs u ys = R at *
    have HW := Lib.hid (below_up (below_alloc w (.cells #[.int .i64 v, .slice A xs.length c] 30)) (below_alloc _ (.cells #[.int .i64 u, .slice B ys.length d] 30))); have HA := Lib.hid (hA.below HW.out); have HB := Lib.hid (hB.below HW.out); clear hA hB; have HR := Lib.hid ((Row.box w 30 (.int .i64 v) (.slice A xs.length c)).below (below_alloc _ (.cells #[.int .i64 u, .slice B ys.length d] 30))); have HQ := Lib.hid (Row.box (w.alloc (.cells #[.int .i64 v, .slice A xs.length c] 30)) 30 (.int .i64 u) (.slice B ys.length d)); rw [World.size_alloc] at HQ; replace HW : Hid (Since w _) := HW; go_enter Try.func24, Try.ntmps24; go_wp2_with fail
    refine (l01Is_any v A c xs _ HA.out hl).mono ?_; rw [hs]; rintro e w_ ⟨rfl, hb⟩; replace HW := Lib.hid (HW.out.below hb); clear hb
    go_wp2
    go_ret2
    exact ⟨by rw [HN.out]; rfl, HW.out⟩
  cases ht : isSysB u ys
  · have HN : Hid (apartR v xs u ys = (false, 1)) := by unfold Hid apartR; simp [hs, ht]
    generalize apartR v xs u ys = R at *
    have HW := Lib.hid (below_up (below_alloc w (.cells #[.int .i64 v, .slice A xs.length c] 30)) (below_alloc _ (.cells #[.int .i64 u, .slice B ys.length d] 30))); have HA := Lib.hid (hA.below HW.out); have HB := Lib.hid (hB.below HW.out); clear hA hB; have HR := Lib.hid ((Row.box w 30 (.int .i64 v) (.slice A xs.length c)).below (below_alloc _ (.cells #[.int .i64 u, .slice B ys.length d] 30))); have HQ := Lib.hid (Row.box (w.alloc (.cells #[.int .i64 v, .slice A xs.length c] 30)) 30 (.int .i64 u) (.slice B ys.length d)); rw [World.size_alloc] at HQ; replace HW : Hid (Since w _) := HW; go_enter Try.func24, Try.ntmps24; go_wp2_with fail
    refine (l01Is_any v A c xs _ HA.out hl).mono ?_; rw [hs]; rintro e w_ ⟨rfl, hb⟩; replace HA := Lib.hid (HA.out.below hb); replace HB := Lib.hid (HB.out.below hb); replace HW := Lib.hid (HW.out.below hb); replace HR := Lib.hid (HR.out.below hb); replace HQ := Lib.hid (HQ.out.below hb); clear hb; (try clear c0 c1); obtain ⟨c0, c1⟩ := HR.out.c2; (try clear q0 q1); obtain ⟨q0, q1⟩ := HQ.out.c2
    go_wp2_with fail
    refine (l01Is_any u B d ys _ HB.out hlb).mono ?_; rw [ht]; rintro e w_ ⟨rfl, hb⟩; replace HW := Lib.hid (HW.out.below hb); clear hb
    go_wp2
    go_ret2
    exact ⟨by rw [HN.out]; rfl, HW.out⟩
  by_cases hv : v = u
  · have HN : Hid (apartR v xs u ys = (((comL xs ys xs.length).length : Int) == 0, 0)) := by unfold Hid apartR; subst hv; simp [hs, ht]
    generalize apartR v xs u ys = R at *
    have hcl := comL_len xs ys xs.length
    have hv' : (v != u) = false := by simpa using hv
    clear hv
    have HW := Lib.hid (below_up (below_alloc w (.cells #[.int .i64 v, .slice A xs.length c] 30)) (below_alloc _ (.cells #[.int .i64 u, .slice B ys.length d] 30))); have HA := Lib.hid (hA.below HW.out); have HB := Lib.hid (hB.below HW.out); clear hA hB; have HR := Lib.hid ((Row.box w 30 (.int .i64 v) (.slice A xs.length c)).below (below_alloc _ (.cells #[.int .i64 u, .slice B ys.length d] 30))); have HQ := Lib.hid (Row.box (w.alloc (.cells #[.int .i64 v, .slice A xs.length c] 30)) 30 (.int .i64 u) (.slice B ys.length d)); rw [World.size_alloc] at HQ; replace HW : Hid (Since w _) := HW; go_enter Try.func24, Try.ntmps24; go_wp2_with fail
    refine (l01Is_any v A c xs _ HA.out hl).mono ?_; rw [hs]; rintro e w_ ⟨rfl, hb⟩; replace HA := Lib.hid (HA.out.below hb); replace HB := Lib.hid (HB.out.below hb); replace HW := Lib.hid (HW.out.below hb); replace HR := Lib.hid (HR.out.below hb); replace HQ := Lib.hid (HQ.out.below hb); clear hb; (try clear c0 c1); obtain ⟨c0, c1⟩ := HR.out.c2; (try clear q0 q1); obtain ⟨q0, q1⟩ := HQ.out.c2
    go_wp2_with fail
    refine (l01Is_any u B d ys _ HB.out hlb).mono ?_; rw [ht]; rintro e w_ ⟨rfl, hb⟩; replace HA := Lib.hid (HA.out.below hb); replace HB := Lib.hid (HB.out.below hb); replace HW := Lib.hid (HW.out.below hb); replace HR := Lib.hid (HR.out.below hb); replace HQ := Lib.hid (HQ.out.below hb); clear hb; (try clear c0 c1); obtain ⟨c0, c1⟩ := HR.out.c2; (try clear q0 q1); obtain ⟨q0, q1⟩ := HQ.out.c2
    go_wp2_with fail
    · refine (l10Common_any v A c xs u B d ys _ HA.out hl HB.out hlb).mono ?_
      rintro e w_ ⟨rfl, hb⟩
      replace HW := Lib.hid (HW.out.below hb); clear hb
      go_wp2
      go_ret2
      exact ⟨by rw [HN.out]; rfl, HW.out⟩
  · have HN : Hid (apartR v xs u ys = (false, 5)) := by unfold Hid apartR; simp [hs, ht, hv]
    generalize apartR v xs u ys = R at *
    have hv' : (v != u) = true := by simpa using hv
    clear hv
    have HW := Lib.hid (below_up (below_alloc w (.cells #[.int .i64 v, .slice A xs.length c] 30)) (below_alloc _ (.cells #[.int .i64 u, .slice B ys.length d] 30))); have HA := Lib.hid (hA.below HW.out); have HB := Lib.hid (hB.below HW.out); clear hA hB; have HR := Lib.hid ((Row.box w 30 (.int .i64 v) (.slice A xs.length c)).below (below_alloc _ (.cells #[.int .i64 u, .slice B ys.length d] 30))); have HQ := Lib.hid (Row.box (w.alloc (.cells #[.int .i64 v, .slice A xs.length c] 30)) 30 (.int .i64 u) (.slice B ys.length d)); rw [World.size_alloc] at HQ; replace HW : Hid (Since w _) := HW; go_enter Try.func24, Try.ntmps24; go_wp2_with fail
    refine (l01Is_any v A c xs _ HA.out hl).mono ?_; rw [hs]; rintro e w_ ⟨rfl, hb⟩; replace HA := Lib.hid (HA.out.below hb); replace HB := Lib.hid (HB.out.below hb); replace HW := Lib.hid (HW.out.below hb); replace HR := Lib.hid (HR.out.below hb); replace HQ := Lib.hid (HQ.out.below hb); clear hb; (try clear c0 c1); obtain ⟨c0, c1⟩ := HR.out.c2; (try clear q0 q1); obtain ⟨q0, q1⟩ := HQ.out.c2
    go_wp2_with fail
    refine (l01Is_any u B d ys _ HB.out hlb).mono ?_; rw [ht]; rintro e w_ ⟨rfl, hb⟩; replace HA := Lib.hid (HA.out.below hb); replace HB := Lib.hid (HB.out.below hb); replace HW := Lib.hid (HW.out.below hb); replace HR := Lib.hid (HR.out.below hb); replace HQ := Lib.hid (HQ.out.below hb); clear hb; (try clear c0 c1); obtain ⟨c0, c1⟩ := HR.out.c2; (try clear q0 q1); obtain ⟨q0, q1⟩ := HQ.out.c2
    go_wp2
    go_ret2
    exact ⟨by rw [HN.out]; rfl, HW.out⟩

theorem implApart_any (v : Int) (A : Option Addr) (c : Nat) (xs : List Blk) (u : Int) (B : Option Addr) (d : Nat) (ys : List Blk) (w : World) (hA : Bl w A xs) (hl : xs.length ≤ 1048576) (hB : Bl w B ys) (hlb : ys.length ≤ 1048576) :
    Calls Try.prog 25 #[.agg #[.int .i64 v, .slice A xs.length c], .agg #[.int .i64 u, .slice B ys.length d]] w fun e w' => e = .returned (.tuple #[.bool (apartR v xs u ys).1, .int .i64 (apartR v xs u ys).2]) ∧ Below w.heap.size w w' := by
  cases hs : isSysB v xs
  · have HN : Hid (apartR v xs u ys = (false, 1)) := by unfold Hid apartR; simp [hs]
    generalize apartR v xs u ys = R at *
    have HW := Lib.hid (below_up (below_alloc w (.cells #[.int .i64 v, .slice A xs.length c] 30)) (below_alloc _ (.cells #[.int .i64 u, .slice B ys.length d] 30))); have HA := Lib.hid (hA.below HW.out); have HB := Lib.hid (hB.below HW.out); clear hA hB; have HR := Lib.hid ((Row.box w 30 (.int .i64 v) (.slice A xs.length c)).below (below_alloc _ (.cells #[.int .i64 u, .slice B ys.length d] 30))); have HQ := Lib.hid (Row.box (w.alloc (.cells #[.int .i64 v, .slice A xs.length c] 30)) 30 (.int .i64 u) (.slice B ys.length d)); rw [World.size_alloc] at HQ; replace HW : Hid (Since w _) := HW; go_enter Try.func25, Try.ntmps25; go_wp2_with fail
    refine (IsSystem_any v A c xs _ HA.out hl).mono ?_; rw [hs]; rintro e w_ ⟨rfl, hb⟩; replace HW := Lib.hid (HW.out.below hb); clear hb
    go_wp2
    go_ret2
    exact ⟨by rw [HN.out]; rfl, HW.out⟩
  cases ht : isSysB u ys
  · have HN : Hid (apartR v xs u ys = (false, 1)) := by unfold Hid apartR; simp [hs, ht]
    generalize apartR v xs u ys = R at *
    have HW := Lib.hid (below_up (below_alloc w (.cells #[.int .i64 v, .slice A xs.length c] 30)) (below_alloc _ (.cells #[.int .i64 u, .slice B ys.length d] 30))); have HA := Lib.hid (hA.below HW.out); have HB := Lib.hid (hB.below HW.out); clear hA hB; have HR := Lib.hid ((Row.box w 30 (.int .i64 v) (.slice A xs.length c)).below (below_alloc _ (.cells #[.int .i64 u, .slice B ys.length d] 30))); have HQ := Lib.hid (Row.box (w.alloc (.cells #[.int .i64 v, .slice A xs.length c] 30)) 30 (.int .i64 u) (.slice B ys.length d)); rw [World.size_alloc] at HQ; replace HW : Hid (Since w _) := HW; go_enter Try.func25, Try.ntmps25; go_wp2_with fail
    refine (IsSystem_any v A c xs _ HA.out hl).mono ?_; rw [hs]; rintro e w_ ⟨rfl, hb⟩; replace HA := Lib.hid (HA.out.below hb); replace HB := Lib.hid (HB.out.below hb); replace HW := Lib.hid (HW.out.below hb); replace HR := Lib.hid (HR.out.below hb); replace HQ := Lib.hid (HQ.out.below hb); clear hb; (try clear c0 c1); obtain ⟨c0, c1⟩ := HR.out.c2; (try clear q0 q1); obtain ⟨q0, q1⟩ := HQ.out.c2
    go_wp2_with fail
    refine (IsSystem_any u B d ys _ HB.out hlb).mono ?_; rw [ht]; rintro e w_ ⟨rfl, hb⟩; replace HW := Lib.hid (HW.out.below hb); clear hb
    go_wp2
    go_ret2
    exact ⟨by rw [HN.out]; rfl, HW.out⟩
  by_cases hv : v = u
  · have HN : Hid (apartR v xs u ys = (((comL xs ys xs.length).length : Int) == 0, 0)) := by unfold Hid apartR; subst hv; simp [hs, ht]
    generalize apartR v xs u ys = R at *
    have hcl := comL_len xs ys xs.length
    have hv' : (v != u) = false := by simpa using hv
    clear hv
    have HW := Lib.hid (below_up (below_alloc w (.cells #[.int .i64 v, .slice A xs.length c] 30)) (below_alloc _ (.cells #[.int .i64 u, .slice B ys.length d] 30))); have HA := Lib.hid (hA.below HW.out); have HB := Lib.hid (hB.below HW.out); clear hA hB; have HR := Lib.hid ((Row.box w 30 (.int .i64 v) (.slice A xs.length c)).below (below_alloc _ (.cells #[.int .i64 u, .slice B ys.length d] 30))); have HQ := Lib.hid (Row.box (w.alloc (.cells #[.int .i64 v, .slice A xs.length c] 30)) 30 (.int .i64 u) (.slice B ys.length d)); rw [World.size_alloc] at HQ; replace HW : Hid (Since w _) := HW; go_enter Try.func25, Try.ntmps25; go_wp2_with fail
    refine (IsSystem_any v A c xs _ HA.out hl).mono ?_; rw [hs]; rintro e w_ ⟨rfl, hb⟩; replace HA := Lib.hid (HA.out.below hb); replace HB := Lib.hid (HB.out.below hb); replace HW := Lib.hid (HW.out.below hb); replace HR := Lib.hid (HR.out.below hb); replace HQ := Lib.hid (HQ.out.below hb); clear hb; (try clear c0 c1); obtain ⟨c0, c1⟩ := HR.out.c2; (try clear q0 q1); obtain ⟨q0, q1⟩ := HQ.out.c2
    go_wp2_with fail
    refine (IsSystem_any u B d ys _ HB.out hlb).mono ?_; rw [ht]; rintro e w_ ⟨rfl, hb⟩; replace HA := Lib.hid (HA.out.below hb); replace HB := Lib.hid (HB.out.below hb); replace HW := Lib.hid (HW.out.below hb); replace HR := Lib.hid (HR.out.below hb); replace HQ := Lib.hid (HQ.out.below hb); clear hb; (try clear c0 c1); obtain ⟨c0, c1⟩ := HR.out.c2; (try clear q0 q1); obtain ⟨q0, q1⟩ := HQ.out.c2
    go_wp2_with fail
    · refine (common_any A c xs B d ys _ HA.out hl HB.out hlb).mono ?_
      rintro e w_ ⟨q, rfl, hO, hb⟩
      obtain ⟨B', d', rfl⟩ := own_slice hO
      clear hO
      replace HW := Lib.hid (HW.out.below hb); clear hb
      go_wp2
      go_ret2
      exact ⟨by rw [HN.out]; rfl, HW.out⟩
  · have HN : Hid (apartR v xs u ys = (false, 5)) := by unfold Hid apartR; simp [hs, ht, hv]
    generalize apartR v xs u ys = R at *
    have hv' : (v != u) = true := by simpa using hv
    clear hv
    have HW := Lib.hid (below_up (below_alloc w (.cells #[.int .i64 v, .slice A xs.length c] 30)) (below_alloc _ (.cells #[.int .i64 u, .slice B ys.length d] 30))); have HA := Lib.hid (hA.below HW.out); have HB := Lib.hid (hB.below HW.out); clear hA hB; have HR := Lib.hid ((Row.box w 30 (.int .i64 v) (.slice A xs.length c)).below (below_alloc _ (.cells #[.int .i64 u, .slice B ys.length d] 30))); have HQ := Lib.hid (Row.box (w.alloc (.cells #[.int .i64 v, .slice A xs.length c] 30)) 30 (.int .i64 u) (.slice B ys.length d)); rw [World.size_alloc] at HQ; replace HW : Hid (Since w _) := HW; go_enter Try.func25, Try.ntmps25; go_wp2_with fail
    refine (IsSystem_any v A c xs _ HA.out hl).mono ?_; rw [hs]; rintro e w_ ⟨rfl, hb⟩; replace HA := Lib.hid (HA.out.below hb); replace HB := Lib.hid (HB.out.below hb); replace HW := Lib.hid (HW.out.below hb); replace HR := Lib.hid (HR.out.below hb); replace HQ := Lib.hid (HQ.out.below hb); clear hb; (try clear c0 c1); obtain ⟨c0, c1⟩ := HR.out.c2; (try clear q0 q1); obtain ⟨q0, q1⟩ := HQ.out.c2
    go_wp2_with fail
    refine (IsSystem_any u B d ys _ HB.out hlb).mono ?_; rw [ht]; rintro e w_ ⟨rfl, hb⟩; replace HA := Lib.hid (HA.out.below hb); replace HB := Lib.hid (HB.out.below hb); replace HW := Lib.hid (HW.out.below hb); replace HR := Lib.hid (HR.out.below hb); replace HQ := Lib.hid (HQ.out.below hb); clear hb; (try clear c0 c1); obtain ⟨c0, c1⟩ := HR.out.c2; (try clear q0 q1); obtain ⟨q0, q1⟩ := HQ.out.c2
    go_wp2
    go_ret2
    exact ⟨by rw [HN.out]; rfl, HW.out⟩

end Go.Proofs.Ytbiepcafnhhfgaa
