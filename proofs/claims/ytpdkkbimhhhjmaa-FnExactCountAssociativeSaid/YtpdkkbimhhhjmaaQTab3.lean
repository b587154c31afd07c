/- Contracts for CountPointTriples and CountAssociative, of the reference and of the program; conditions: stated in each. -/
import Derived.Test.YtpdkkbimhhhjmaaQTab1
namespace Go.Proofs.Ytpdkkbimhhhjmaa
open Go.RowKit
set_option maxHeartbeats 400000
set_option maxRecDepth 100000
set_option linter.unusedSimpArgs false
set_option linter.unusedVariables false

/-- associative triples -/
def assB (op : Int → Int → Int) (a b c : Nat) : Bool := op (op a b) c == op a (op b c)
noncomputable def trR (v : Int) (xs : List Blk) : Int × Int := if elCode v xs 0 [] ≠ 0 then (0, elCode v xs 0 []) else (((cntT v.toNat (assB (prodI xs)) : Nat) : Int), 0)
noncomputable def asR (v : Int) (xs : List Blk) : Int × Int := if elCode v xs 0 [] ≠ 0 then (0, elCode v xs 0 []) else (((cntT (v.toNat + 1) (assB (loopI xs v)) : Nat) : Int), 0)
theorem assB_prod {n : Nat} {xs : List Blk} (hs : isSys n xs) (hf : fullB n xs = true) {a b c : Nat} (ha : a < n) (hb : b < n) (hc : c < n) :
    (prodG (gridN xs xs.length) (prodG (gridN xs xs.length) a b) c == prodG (gridN xs xs.length) a (prodG (gridN xs xs.length) b c)) = assB (prodI xs) a b c := by
  unfold assB
  have h1 := prod_bd hs hf (a := a) (b := b) (by omega) (by omega)
  have h2 := prod_bd hs hf (a := b) (b := c) (by omega) (by omega)
  rw [grid_prod hs ha hb, grid_prod hs hb hc]
  obtain ⟨x, hx⟩ := Int.eq_ofNat_of_zero_le h1.1
  obtain ⟨y, hy⟩ := Int.eq_ofNat_of_zero_le h2.1
  rw [hx, hy, grid_prod hs (by omega) hc, grid_prod hs ha (by omega)]
theorem assB_loop {n : Nat} {xs : List Blk} (hs : isSys n xs) (hf : fullB n xs = true) {a b c : Nat} (ha : a < n + 1) (hb : b < n + 1) (hc : c < n + 1) :
    (loopG (gridN xs xs.length) n (loopG (gridN xs xs.length) n a b) c == loopG (gridN xs xs.length) n a (loopG (gridN xs xs.length) n b c)) = assB (loopI xs n) a b c := by
  unfold assB
  have h1 := loop_bd hs hf (a := a) (b := b) (by omega) (by omega)
  have h2 := loop_bd hs hf (a := b) (b := c) (by omega) (by omega)
  rw [grid_loop hs ha hb, grid_loop hs hb hc]
  obtain ⟨x, hx⟩ := Int.eq_ofNat_of_zero_le h1.1
  obtain ⟨y, hy⟩ := Int.eq_ofNat_of_zero_le h2.1
  rw [hx, hy, grid_loop hs (by omega) hc, grid_loop hs ha (by omega)]
theorem grid_bd {n : Nat} {xs : List Blk} (hs : isSys n xs) (hf : fullB n xs = true) : ∀ a b : Nat, a < n → b < n → a ≠ b → 0 ≤ gridN xs xs.length (a * 15 + b) ∧ gridN xs xs.length (a * 15 + b) < n := by
  intro a b ha hb hne
  have hv := hs.1
  have h := gridN_third hs (p := a) (q := b) (by omega) (by omega) (by omega) (by omega)
  simp only [Int.toNat_natCast] at h
  rw [h]
  have := third_full hs hf (p := a) (q := b) (by omega) (by omega) hne
  exact ⟨this.1, this.2.1⟩

theorem specTrip_any (v : Int) (A : Option Addr) (c : Nat) (xs : List Blk) (w : World) (hA : Bl w A xs) (hl : xs.length ≤ 1048576) :
    Calls Try.prog 32 #[.agg #[.int .i64 v, .slice A xs.length c]] w fun e w' => e = .returned (.tuple #[.int .i64 (trR v xs).1, .int .i64 (trR v xs).2]) ∧ Below w.heap.size w w' := by
  have HN : Hid (trR v xs = if elCode v xs 0 [] ≠ 0 then (0, elCode v xs 0 []) else (((cntT v.toNat (assB (prodI xs)) : Nat) : Int), 0)) := rfl
  generalize trR v xs = R at *
  by_cases h1 : elCode v xs 0 [] = 0
  · obtain ⟨hs, hin, hf⟩ := elCode_zero h1
    have HS := Lib.hid (isSysB_iff.1 hs); have HF := Lib.hid hf
    have hv := HS.out.1
    have H := Lib.hid h1; clear h1 hin hs hf
    obtain ⟨n, rfl⟩ := Int.eq_ofNat_of_zero_le (by omega : 0 ≤ v)
    have HBD : Hid (∀ a b : Nat, a < n → b < n → 0 ≤ prodI xs a b ∧ prodI xs a b < n) := fun a b ha hb => prod_bd HS.out HF.out (by omega) (by omega)
    go_enter Try.func32, Try.ntmps32
    have HA := Lib.hid hA; clear hA; have HR := Lib.hid (Row.box w 30 (.int .i64 n) (.slice A xs.length c)); have HW := Lib.hid (Since.refl w)
    replace HA := Lib.hid (HA.out.below (below_alloc _ (.cells #[.int .i64 n, .slice A xs.length c] 30))); replace HW := Lib.hid (HW.out.below (below_alloc _ (.cells #[.int .i64 n, .slice A xs.length c] 30)))
    go_wp2_with fail
    refine (l03Whole_any n A c xs _ HA.out hl).mono ?_; rw [H.out]; rintro e w_ ⟨rfl, hb⟩; replace HA := Lib.hid (HA.out.below hb); replace HW := Lib.hid (HW.out.below hb); replace HR := Lib.hid (HR.out.below hb); clear hb; (try clear c0 c1); obtain ⟨c0, c1⟩ := HR.out.c2
    go_wp2_with fail
    refine (l09Table_any n A c xs _ HA.out hl HS.out).mono ?_
    rintro e W ⟨u, hs, rfl, hL, hb⟩
    replace HW := Lib.hid (HW.out.below hb); clear hb
    obtain ⟨gu, cu, rfl, hgb, hgl⟩ := hL.form (by omega)
    have HT := Lib.hid (hL.tb (by omega))
    clear hL
    go_wp2_with fail
    refine (l09Triples_any gu cu n (prodI xs) _ HT.out (by omega) HBD.out).mono ?_
    rintro e w3 ⟨rfl, hb⟩
    replace HW := Lib.hid (HW.out.below hb); clear hb
    go_wp2
    go_ret2
    exact ⟨by rw [HN.out, if_neg (by simp [H.out])]; rfl, HW.out⟩
  · have h1' : (elCode v xs 0 [] != 0) = true := by simpa using h1
    have h1'' : (elCode v xs 0 [] == 0) = false := by simpa using h1
    have H := Lib.hid h1; clear h1
    have HA := Lib.hid hA; clear hA; have HR := Lib.hid (Row.box w 30 (.int .i64 v) (.slice A xs.length c)); have HW := Lib.hid (Since.refl w); go_enter Try.func32, Try.ntmps32; go_wp2_with fail; replace HA := Lib.hid (HA.out.below (below_alloc _ (.cells #[.int .i64 v, .slice A xs.length c] 30))); replace HW := Lib.hid (HW.out.below (below_alloc _ (.cells #[.int .i64 v, .slice A xs.length c] 30)))
    refine (l03Whole_any v A c xs _ HA.out hl).mono ?_; rintro e w_ ⟨rfl, hb⟩; replace HW := Lib.hid (HW.out.below hb); clear hb
    go_wp2
    go_ret2
    exact ⟨by rw [HN.out, if_pos H.out]; rfl, HW.out⟩

theorem specAss_any (v : Int) (A : Option Addr) (c : Nat) (xs : List Blk) (w : World) (hA : Bl w A xs) (hl : xs.length ≤ 1048576) :
    Calls Try.prog 46 #[.agg #[.int .i64 v, .slice A xs.length c]] w fun e w' => e = .returned (.tuple #[.int .i64 (asR v xs).1, .int .i64 (asR v xs).2]) ∧ Below w.heap.size w w' := by
  have HN : Hid (asR v xs = if elCode v xs 0 [] ≠ 0 then (0, elCode v xs 0 []) else (((cntT (v.toNat + 1) (assB (loopI xs v)) : Nat) : Int), 0)) := rfl
  generalize asR v xs = R at *
  by_cases h1 : elCode v xs 0 [] = 0
  · obtain ⟨hs, hin, hf⟩ := elCode_zero h1
    have HS := Lib.hid (isSysB_iff.1 hs); have HF := Lib.hid hf
    have hv := HS.out.1
    have H := Lib.hid h1; clear h1 hin hs hf
    obtain ⟨n, rfl⟩ := Int.eq_ofNat_of_zero_le (by omega : 0 ≤ v)
    have HBD : Hid (∀ a b : Nat, a < n + 1 → b < n + 1 → 0 ≤ loopI xs n a b ∧ loopI xs n a b < ((n + 1 : Nat) : Int)) := fun a b ha hb => by
      have := loop_bd HS.out HF.out (a := a) (b := b) (by omega) (by omega); omega
    go_enter Try.func46, Try.ntmps46
    have HA := Lib.hid hA; clear hA; have HR := Lib.hid (Row.box w 30 (.int .i64 n) (.slice A xs.length c)); have HW := Lib.hid (Since.refl w)
    replace HA := Lib.hid (HA.out.below (below_alloc _ (.cells #[.int .i64 n, .slice A xs.length c] 30))); replace HW := Lib.hid (HW.out.below (below_alloc _ (.cells #[.int .i64 n, .slice A xs.length c] 30)))
    go_wp2_with fail
    refine (l03Whole_any n A c xs _ HA.out hl).mono ?_; rw [H.out]; rintro e w_ ⟨rfl, hb⟩; replace HA := Lib.hid (HA.out.below hb); replace HW := Lib.hid (HW.out.below hb); replace HR := Lib.hid (HR.out.below hb); clear hb; (try clear c0 c1); obtain ⟨c0, c1⟩ := HR.out.c2
    go_wp2_with fail
    refine (l09Loop_any n A c xs _ HA.out hl HS.out).mono ?_
    rintro e W ⟨u, hs, rfl, hL, hb⟩
    replace HW := Lib.hid (HW.out.below hb); clear hb
    obtain ⟨gu, cu, rfl, hgb, hgl⟩ := hL.form (by omega)
    have HT := Lib.hid (hL.tb (by omega))
    clear hL
    go_wp2_with fail
    refine (l09Triples_any gu cu (n + 1) (loopI xs n) _ HT.out (by omega) HBD.out).mono ?_
    rintro e w3 ⟨rfl, hb⟩
    replace HW := Lib.hid (HW.out.below hb); clear hb
    go_wp2
    go_ret2
    exact ⟨by rw [HN.out, if_neg (by simp [H.out])]; rfl, HW.out⟩
  · have h1' : (elCode v xs 0 [] != 0) = true := by simpa using h1
    have h1'' : (elCode v xs 0 [] == 0) = false := by simpa using h1
    have H := Lib.hid h1; clear h1
    have HA := Lib.hid hA; clear hA; have HR := Lib.hid (Row.box w 30 (.int .i64 v) (.slice A xs.length c)); have HW := Lib.hid (Since.refl w); go_enter Try.func46, Try.ntmps46; go_wp2_with fail; replace HA := Lib.hid (HA.out.below (below_alloc _ (.cells #[.int .i64 v, .slice A xs.length c] 30))); replace HW := Lib.hid (HW.out.below (below_alloc _ (.cells #[.int .i64 v, .slice A xs.length c] 30)))
    refine (l03Whole_any v A c xs _ HA.out hl).mono ?_; rintro e w_ ⟨rfl, hb⟩; replace HW := Lib.hid (HW.out.below hb); clear hb
    go_wp2
    go_ret2
    exact ⟨by rw [HN.out, if_pos H.out]; rfl, HW.out⟩

theorem implTrip_any (v : Int) (A : Option Addr) (c : Nat) (xs : List Blk) (w : World) (hA : Bl w A xs) (hl : xs.length ≤ 1048576) :
    Calls Try.prog 33 #[.agg #[.int .i64 v, .slice A xs.length c]] w fun e w' => e = .returned (.tuple #[.int .i64 (trR v xs).1, .int .i64 (trR v xs).2]) ∧ Below w.heap.size w w' := by
  have HN : Hid (trR v xs = if elCode v xs 0 [] ≠ 0 then (0, elCode v xs 0 []) else (((cntT v.toNat (assB (prodI xs)) : Nat) : Int), 0)) := rfl
  generalize trR v xs = R at *
  by_cases h1 : elCode v xs 0 [] = 0
  · obtain ⟨hs, hin, hf⟩ := elCode_zero h1
    have HS := Lib.hid (isSysB_iff.1 hs); have HF := Lib.hid hf
    have hv := HS.out.1
    have H := Lib.hid h1; clear h1 hin hs hf
    obtain ⟨n, rfl⟩ := Int.eq_ofNat_of_zero_le (by omega : 0 ≤ v)
    go_enter Try.func33, Try.ntmps33
    have HA := Lib.hid hA; clear hA; have HR := Lib.hid (Row.box w 30 (.int .i64 n) (.slice A xs.length c)); have HW := Lib.hid (Since.refl w)
    replace HA := Lib.hid (HA.out.below (below_alloc _ (.cells #[.int .i64 n, .slice A xs.length c] 30))); replace HW := Lib.hid (HW.out.below (below_alloc _ (.cells #[.int .i64 n, .slice A xs.length c] 30)))
    go_wp2_with fail
    refine (elementsNone_any n A c xs _ HA.out hl).mono ?_; rw [H.out]; rintro e w_ ⟨rfl, hb⟩; replace HA := Lib.hid (HA.out.below hb); replace HW := Lib.hid (HW.out.below hb); replace HR := Lib.hid (HR.out.below hb); clear hb; (try clear c0 c1); obtain ⟨c0, c1⟩ := HR.out.c2
    go_wp2_with fail
    refine (grid_any n A c xs _ HA.out hl HS.out).mono ?_
    rintro e w1 ⟨g, rfl, hle, hGr, hb⟩
    have HGr := Lib.hid hGr; clear hGr hle
    replace HW := Lib.hid (HW.out.below hb); replace HR := Lib.hid (HR.out.below hb); clear hb; (try clear c0 c1); obtain ⟨c0, c1⟩ := HR.out.c2
    have hszr := HR.out.lt
    go_wp2_with fail
    have HB := Lib.hid (below_alloc w1 (.cells #[.pointer (some ⟨g, 0, none⟩)] 80))
    have HM := Lib.hid (Row.new w1 80 #[.pointer (some ⟨g, 0, none⟩)])
    refine (countTriples_any n 81 #[] #[.pointer (some ⟨w1.heap.size, 0, none⟩)] (assB (prodI xs)) _ (by omega) (fun args w => by kernel_rfl)
      (fun W a b c ha hb hc hbW => by
        have h := trip_any w1.heap.size g n (gridN xs xs.length) a b c W ((HM.out.below hbW).cell 0) ((HGr.out.below HB.out).below hbW) (by omega) (grid_bd HS.out HF.out) ha hb hc
        rw [assB_prod HS.out HF.out ha hb hc] at h
        exact h)).mono ?_
    rintro e w3 ⟨rfl, hb⟩
    have HW3 := Lib.hid (HW.out.below (below_up HB.out hb)); clear hb
    go_wp2
    go_ret2
    exact ⟨by rw [HN.out, if_neg (by simp [H.out])]; rfl, HW3.out⟩
  · have h1' : (elCode v xs 0 [] != 0) = true := by simpa using h1
    have h1'' : (elCode v xs 0 [] == 0) = false := by simpa using h1
    have H := Lib.hid h1; clear h1
    have HA := Lib.hid hA; clear hA; have HR := Lib.hid (Row.box w 30 (.int .i64 v) (.slice A xs.length c)); have HW := Lib.hid (Since.refl w); go_enter Try.func33, Try.ntmps33; go_wp2_with fail; replace HA := Lib.hid (HA.out.below (below_alloc _ (.cells #[.int .i64 v, .slice A xs.length c] 30))); replace HW := Lib.hid (HW.out.below (below_alloc _ (.cells #[.int .i64 v, .slice A xs.length c] 30)))
    refine (elementsNone_any v A c xs _ HA.out hl).mono ?_; rintro e w_ ⟨rfl, hb⟩; replace HW := Lib.hid (HW.out.below hb); clear hb
    go_wp2
    go_ret2
    exact ⟨by rw [HN.out, if_pos H.out]; rfl, HW.out⟩

theorem ass_any (r s g n : Nat) (G : Nat → Int) (a b c : Nat) (w : World) (hr : w.cell? ⟨r, 0, none⟩ = some (.pointer (some ⟨g, 0, none⟩))) (hs : w.cell? ⟨s, 0, none⟩ = some (.int .i64 (n : Int))) (hG : Gr w g G) (hn : n ≤ 15)
    (h1 : 0 ≤ loopG G n a b ∧ loopG G n a b ≤ n) (h2 : 0 ≤ loopG G n b c ∧ loopG G n b c ≤ n) (ha : a < n + 1) (hb : b < n + 1) (hc : c < n + 1) :
    Calls Try.prog 98 #[.int .i64 (a : Int), .int .i64 (b : Int), .int .i64 (c : Int), .pointer (some ⟨r, 0, none⟩), .pointer (some ⟨s, 0, none⟩)] w fun e w' => e = .returned (.bool (loopG G n (loopG G n a b) c == loopG G n a (loopG G n b c))) ∧ Below w.heap.size w w' := by
  have HG := Lib.hid hG; have HR := Lib.hid (And.intro hr hs); clear hG hr hs
  go_enter Try.func98, Try.ntmps98
  go_wp2
  go_region_held3 (fun w' => w'.cell? ⟨r, 0, none⟩ = some (.pointer (some ⟨g, 0, none⟩)) ∧ w'.cell? ⟨s, 0, none⟩ = some (.int .i64 (n : Int))) (first | exact HR.out) (first
    | (go_at_call 74
       refine (gridLoop_any g G _ _ _ _ (HG.out.below (below_drew _)) (by omega) (by omega) (by omega)).mono ?_
       rintro e w' ⟨rfl, rfl⟩))
  go_wp2
  go_ret
  exact ⟨rfl, below_drew _⟩

end Go.Proofs.Ytpdkkbimhhhjmaa
