/- Contracts for IsStuck, of the reference and of the program; conditions: stated in each. -/
import Derived.Test.YtbiepcafnhhfgaaW9
import Derived.Deep.RegionHeld3
namespace Go.Proofs.Ytbiepcafnhhfgaa
open Go.RowKit
set_option maxHeartbeats 400000
set_option maxRecDepth 100000
set_option linter.unusedSimpArgs false
set_option linter.unusedVariables false

theorem grid_any (v : Int) (A : Option Addr) (c : Nat) (xs : List Blk) (w : World) (hA : Bl w A xs) (hl : xs.length ≤ 1048576) (hs : isSys v xs) :
    Calls Try.prog 85 #[.agg #[.int .i64 v, .slice A xs.length c]] w fun e w' => ∃ g, e = .returned (.pointer (some ⟨g, 0, none⟩)) ∧ w.heap.size ≤ g ∧ Gr w' g (gridN xs xs.length) ∧ Below w.heap.size w w' := by
  have hg : ∀ j, j < xs.length → goodB 15 (nth xs j) = true := fun j hj => good_mono (hs.2.2.1 j hj).1 hs.1.2
  have HG := Lib.hid hg; have HF := Lib.hid hs.2.2.2
  clear hg hs
  have HA := Lib.hid hA; clear hA; have HR := Lib.hid (Row.box w 30 (.int .i64 v) (.slice A xs.length c)); have HW := Lib.hid (Since.refl w); go_enter Try.func85, Try.ntmps85; go_wp2_with fail; replace HA := Lib.hid (HA.out.below (below_alloc _ (.cells #[.int .i64 v, .slice A xs.length c] 30))); replace HW := Lib.hid (HW.out.below (below_alloc _ (.cells #[.int .i64 v, .slice A xs.length c] 30)))
  refine (gridOf_any A c xs _ HA.out hl HG.out).mono ?_
  rintro e w_ ⟨ptr, rfl, hb, hgr⟩
  obtain ⟨g, rfl, hle, hGr⟩ := hgr HF.out
  have HGr := Lib.hid hGr; have HLE := Lib.hid hle
  clear hgr hGr hle
  have HSZ := Lib.hid HW.out.size
  replace HW := Lib.hid (HW.out.below hb); clear hb
  go_wp2
  go_ret
  exact ⟨g, rfl, Nat.le_trans HSZ.out HLE.out, HGr.out, HW.out⟩

theorem free_any (v : Int) (A : Option Addr) (c : Nat) (xs : List Blk) (w : World) (hA : Bl w A xs) (hl : xs.length ≤ 1048576) (hs : isSys v xs) :
    Calls Try.prog 62 #[.agg #[.int .i64 v, .slice A xs.length c]] w fun e w' => ∃ u, e = .returned u ∧ OB w' w.heap.size u (triL (freeB xs) v.toNat) ∧ Below w.heap.size w w' := by
  have hv3 := hs.1.1; have hv15 := hs.1.2
  obtain ⟨n, rfl⟩ := Int.eq_ofNat_of_zero_le (by omega : 0 ≤ v)
  have HS := Lib.hid hs
  have hcg : triL (leftB (gridN xs xs.length)) n = triL (freeB xs) n := triL_congr fun a b d h1 h2 h3 => freeB_left hs (by simp [goodB]; omega)
  have HCG := Lib.hid hcg
  have HA := Lib.hid (hA.below (below_alloc w (.cells #[.int .i64 n, .slice A xs.length c] 30)))
  have HR := Lib.hid (Row.box w 30 (.int .i64 n) (.slice A xs.length c))
  have HW := Lib.hid (below_alloc w (.cells #[.int .i64 n, .slice A xs.length c] 30))
  clear hs hcg hA
  go_enter Try.func62, Try.ntmps62
  go_wp2_with fail
  obtain ⟨c0, c1⟩ := HR.out.c2
  have HKEEP := Lib.hid (And.intro c0 c1)
  clear c0 c1
  go_region_held3 (fun w' => w'.cell? ⟨w.heap.size, 0, none⟩ = some (.int .i64 n) ∧ w'.cell? ⟨w.heap.size, 1, none⟩ = some (.slice A xs.length c)) (first | exact HKEEP.out) (first
     | (go_at_call 85
        refine (grid_any n A c xs _ (HA.out.below (below_drew _)) hl HS.out).mono ?_
        rintro e w_ ⟨g, rfl, hle, hGr, hb⟩
        have HGr := Lib.hid hGr; have HLE := Lib.hid hle
        have HSZ := Lib.hid HW.out.size
        replace HW := Lib.hid (below_up HW.out (below_up (below_drew _) hb))
        replace HR := Lib.hid ((HR.out.below (below_drew _)).below hb)
        replace HKEEP := Lib.hid HR.out.c2
        clear hb hGr hle)
     | (go_at_call 99
        refine (triples_any n 100 #[.pointer (some ⟨g, 0, none⟩)] #[] (leftB (gridN xs xs.length)) _ (by omega) (fun args w => by kernel_rfl)
          (fun W b hgd hb => isLeft_any g _ b W (HGr.out.below hb) (good_mono hgd (by omega)))).mono ?_
        rw [HCG.out]
        rintro e w_ ⟨u, rfl, hO, hb⟩
        have HO := Lib.hid (hO.base HW.out.size)
        replace HW := Lib.hid (below_up HW.out hb)
        replace HR := Lib.hid (HR.out.below hb)
        replace HKEEP := Lib.hid HR.out.c2
        clear hb hO))
  all_goals
    go_wp2
    go_ret
    exact ⟨u, rfl, HO.out, HW.out⟩

/-- IsStuck's answer -/
noncomputable def stuckR (v : Int) (xs : List Blk) : Bool × Int := if isSysB v xs = true then (((triL (freeB xs) v.toNat).length : Int) == 0, 0) else (false, 1)

theorem specStuck_any (v : Int) (A : Option Addr) (c : Nat) (xs : List Blk) (w : World) (hA : Bl w A xs) (hl : xs.length ≤ 1048576) :
    Calls Try.prog 22 #[.agg #[.int .i64 v, .slice A xs.length c]] w fun e w' => e = .returned (.tuple #[.bool (stuckR v xs).1, .int .i64 (stuckR v xs).2]) ∧ Below w.heap.size w w' := by
  cases hs : isSysB v xs
  · have HN : Hid (stuckR v xs = (false, 1)) := by unfold Hid stuckR; simp [hs]
    generalize stuckR v xs = R at *
    have HA := Lib.hid hA; clear hA; have HR := Lib.hid (Row.box w 30 (.int .i64 v) (.slice A xs.length c)); have HW := Lib.hid (Since.refl w); go_enter Try.func22, Try.ntmps22; go_wp2_with fail; replace HA := Lib.hid (HA.out.below (below_alloc _ (.cells #[.int .i64 v, .slice A xs.length c] 30))); replace HW := Lib.hid (HW.out.below (below_alloc _ (.cells #[.int .i64 v, .slice A xs.length c] 30)))
    refine (l01Is_any v A c xs _ HA.out hl).mono ?_; rw [hs]; rintro e w_ ⟨rfl, hb⟩; replace HW := Lib.hid (HW.out.below hb); clear hb
    go_wp2
    go_ret2
    exact ⟨by rw [HN.out]; rfl, HW.out⟩
  · have HN : Hid (stuckR v xs = (((triL (freeB xs) v.toNat).length : Int) == 0, 0)) := by unfold Hid stuckR; simp [hs]
    have hv := (isSysB_iff.1 hs).1
    generalize stuckR v xs = R at *
    have hlen := triL_len (freeB xs) (n := v.toNat) (by omega)
    have HA := Lib.hid hA; clear hA; have HR := Lib.hid (Row.box w 30 (.int .i64 v) (.slice A xs.length c)); have HW := Lib.hid (Since.refl w); go_enter Try.func22, Try.ntmps22; go_wp2_with fail; replace HA := Lib.hid (HA.out.below (below_alloc _ (.cells #[.int .i64 v, .slice A xs.length c] 30))); replace HW := Lib.hid (HW.out.below (below_alloc _ (.cells #[.int .i64 v, .slice A xs.length c] 30)))
    refine (l01Is_any v A c xs _ HA.out hl).mono ?_; rw [hs]; rintro e w_ ⟨rfl, hb⟩; replace HA := Lib.hid (HA.out.below hb); replace HW := Lib.hid (HW.out.below hb); replace HR := Lib.hid (HR.out.below hb); clear hb; (try clear c0 c1); obtain ⟨c0, c1⟩ := HR.out.c2
    go_wp2_with fail
    obtain ⟨n, rfl⟩ := Int.eq_ofNat_of_zero_le (by omega : 0 ≤ v)
    refine (l01Rest_any n A c xs _ (by omega) HA.out hl).mono ?_
    rintro e w_ ⟨u, rfl, hO, hb⟩
    obtain ⟨B, d, rfl⟩ := own_slice hO
    replace HW := Lib.hid (HW.out.below hb); clear hb
    go_wp2
    go_ret2
    exact ⟨by rw [HN.out]; exact ret_bi rfl rfl, HW.out⟩

theorem implStuck_any (v : Int) (A : Option Addr) (c : Nat) (xs : List Blk) (w : World) (hA : Bl w A xs) (hl : xs.length ≤ 1048576) :
    Calls Try.prog 23 #[.agg #[.int .i64 v, .slice A xs.length c]] w fun e w' => e = .returned (.tuple #[.bool (stuckR v xs).1, .int .i64 (stuckR v xs).2]) ∧ Below w.heap.size w w' := by
  cases hs : isSysB v xs
  · have HN : Hid (stuckR v xs = (false, 1)) := by unfold Hid stuckR; simp [hs]
    generalize stuckR v xs = R at *
    have HA := Lib.hid hA; clear hA; have HR := Lib.hid (Row.box w 30 (.int .i64 v) (.slice A xs.length c)); have HW := Lib.hid (Since.refl w); go_enter Try.func23, Try.ntmps23; go_wp2_with fail; replace HA := Lib.hid (HA.out.below (below_alloc _ (.cells #[.int .i64 v, .slice A xs.length c] 30))); replace HW := Lib.hid (HW.out.below (below_alloc _ (.cells #[.int .i64 v, .slice A xs.length c] 30)))
    refine (IsSystem_any v A c xs _ HA.out hl).mono ?_; rw [hs]; rintro e w_ ⟨rfl, hb⟩; replace HW := Lib.hid (HW.out.below hb); clear hb
    go_wp2
    go_ret2
    exact ⟨by rw [HN.out]; rfl, HW.out⟩
  · have HN : Hid (stuckR v xs = (((triL (freeB xs) v.toNat).length : Int) == 0, 0)) := by unfold Hid stuckR; simp [hs]
    have HS := Lib.hid (isSysB_iff.1 hs)
    have hv := HS.out.1
    generalize stuckR v xs = R at *
    have hlen := triL_len (freeB xs) (n := v.toNat) (by omega)
    have HA := Lib.hid hA; clear hA; have HR := Lib.hid (Row.box w 30 (.int .i64 v) (.slice A xs.length c)); have HW := Lib.hid (Since.refl w); go_enter Try.func23, Try.ntmps23; go_wp2_with fail; replace HA := Lib.hid (HA.out.below (below_alloc _ (.cells #[.int .i64 v, .slice A xs.length c] 30))); replace HW := Lib.hid (HW.out.below (below_alloc _ (.cells #[.int .i64 v, .slice A xs.length c] 30)))
    refine (IsSystem_any v A c xs _ HA.out hl).mono ?_; rw [hs]; rintro e w_ ⟨rfl, hb⟩; replace HA := Lib.hid (HA.out.below hb); replace HW := Lib.hid (HW.out.below hb); replace HR := Lib.hid (HR.out.below hb); clear hb; (try clear c0 c1); obtain ⟨c0, c1⟩ := HR.out.c2
    go_wp2_with fail
    refine (free_any v A c xs _ HA.out hl HS.out).mono ?_
    rintro e w_ ⟨u, rfl, hO, hb⟩
    obtain ⟨B, d, rfl⟩ := own_slice hO
    replace HW := Lib.hid (HW.out.below hb); clear hb
    go_wp2
    go_ret2
    exact ⟨by rw [HN.out]; exact ret_bi rfl rfl, HW.out⟩

end Go.Proofs.Ytbiepcafnhhfgaa
