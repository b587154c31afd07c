/- Contracts of tables of products; conditions: stated in each. -/
import Derived.Test.YtpdkkbimhhhjmaaW12
import Derived.Test.YtpdkkbimhhhjmaaM6
import Derived.Test.YtpdkkbimhhhjmaaW7
import Derived.Deep.RegionHeld3
namespace Go.Proofs.Ytpdkkbimhhhjmaa
open Go.RowKit
set_option maxHeartbeats 400000
set_option maxRecDepth 100000
set_option linter.unusedSimpArgs false
set_option linter.unusedVariables false

theorem infoList' : (Try.prog.info? 34).map (fun i => (i.zero, i.size, i.bytes)) = some (some (.slice none 0 0), 1, 24) := by kernel_rfl

theorem l09Table_any (n : Nat) (A : Option Addr) (c : Nat) (xs : List Blk) (w : World) (hA : Bl w A xs) (hl : xs.length ≤ 1048576) (hs : isSys n xs) :
    Calls Try.prog 76 #[.agg #[.int .i64 n, .slice A xs.length c]] w fun e w' => ∃ u hs, e = .returned u ∧ LLh w' w.heap.size u hs (tabR (prodI xs) n) n n ∧ Below w.heap.size w w' := by
  obtain ⟨ni0, hni, hni0, hni1, hni2⟩ := info_parts infoInt'
  obtain ⟨li0, hli, hli0, hli1, hli2⟩ := info_parts infoList'
  have hn := hs.1
  have HS := Lib.hid hs
  have HA := Lib.hid (hA.below (below_alloc w (.cells #[.int .i64 n, .slice A xs.length c] 30)))
  have HR := Lib.hid (Row.box w 30 (.int .i64 n) (.slice A xs.length c))
  have HW := Lib.hid (below_alloc w (.cells #[.int .i64 n, .slice A xs.length c] 30))
  have HSZ : Hid ((w.alloc (.cells #[.int .i64 n, .slice A xs.length c] 30)).heap.size = w.heap.size + 1) := World.size_alloc _ _
  clear hA hs
  go_enter Try.func76, Try.ntmps76
  go_wp2
  generalize w.alloc _ = W at *
  go_loopw [3, 4] (fun u i wr => ∃ (k : Nat) (hs : Nat → Value), k ≤ n ∧ i = .int .i64 k ∧ Hid (Below W.heap.size W wr ∧ LLh wr W.heap.size u hs (tabR (prodI xs) n) k k)) (fun _ i _ => n - (intOf i).toNat)
  case atStart =>
    refine ⟨0, fun _ => .slice none 0 0, by omega, rfl, below_alloc _ _, ?_, fun k hk => by omega, fun k hk => by omega, fun j k hj => by omega⟩
    unfold Hd; rw [← HSZ.out]; exact own_empty _ _ _
  case round =>
    obtain ⟨k, hs, hk, rfl, HC⟩ := hrel
    obtain ⟨c0, c1⟩ := (HR.out.below HC.out.1).c2
    have hsz := (HR.out.below HC.out.1).lt
    by_cases hlt : k < n
    · go_wp2
      obtain ⟨wo, rfl⟩ : ∃ wo : World, wo = wr := ⟨_, rfl⟩
      have HRO : Hid (Ro (wo.alloc (.cells #[] 2)) wo.heap.size (.slice (some ⟨wo.heap.size, 0, none⟩) 0 0) []) := own_empty _ _ _
      have HBA := Lib.hid (below_alloc wo (.cells #[] 2))
      generalize hWo : wo.alloc (.cells #[] 2) = w5 at *
      clear hWo c0 c1
      go_loopw [5, 6] (fun r i wr => ∃ j : Nat, j ≤ n ∧ i = .int .i64 j ∧ Hid (Below wo.heap.size wo wr ∧ Ro wr wo.heap.size r (tabR (prodI xs) j k))) (fun _ i _ => n - (intOf i).toNat)
      case atStart => exact ⟨0, by omega, rfl, HBA.out, HRO.out⟩
      case round =>
        obtain ⟨j, hj, rfl, HD⟩ := hrel
        have HB1 : Hid (Below W.heap.size W wr) := below_up HC.out.1 HD.out.1
        obtain ⟨c0, c1⟩ := (HR.out.below HB1.out).c2
        have hsz := (HR.out.below HB1.out).lt
        have hjl := tabR_len (prodI xs) j k
        have HN : Hid (tabR (prodI xs) (j + 1) k = tabR (prodI xs) j k ++ [prodI xs k j]) := tabR_succ _ _ _
        by_cases hlt2 : j < n
        · go_wp2_with fail
          refine (l09Product_any n A c xs k j _ (HA.out.below HB1.out) hl HS.out (by omega) (by omega)).mono ?_
          rintro e w1 ⟨rfl, hb⟩
          have HB2 : Hid (Below wo.heap.size wo w1) := below_up HD.out.1 hb
          have HO : Hid (w1.ownsRow wo.heap.size 2 1 u5 (tabR (prodI xs) j k).length ((tabR (prodI xs) j k).map (Value.int .i64))) := own_below HD.out.2 hb
          clear hb
          have hbw_ := HB2.out.size; go_wp2_with (at_builtin; refine wpList_append_own _ rfl _ _ 34 rfl (wo).heap.size 2 ni0 (.int .i64 0) 1 8 Try.underlying34 hni hni0 hni1 hni2 rfl (by decide) _ _ _ rfl (HO.out.alloc _) ⟨(w1).heap.size, 0, none⟩ 1 1 [.int .i64 (prodI xs k j)] rfl rfl (cells_new _ _ _) (by simp [Value.oneCell']) (by unfold maxLen; omega) (by omega) (by simp; omega) ?_; intro v2 w2 hown2 hg2 _); have HO2 := Lib.hid hown2; have HB3 : Hid (Below (wo).heap.size (wo) w2) := (HB2.out.alloc HB2.out.size _).grown hg2 (by simp; omega) (own_block HO.out); clear hown2 hg2 hbw_
          go_wp2
          go_roundw
          case rel => exact ⟨j + 1, by omega, by go_num, HB3.out, by rw [HN.out]; have h2 := HO2.out; unfold Ro; simpa using h2⟩
          case measure => simp [intOf]; omega
        · obtain rfl : j = n := by omega
          obtain ⟨B, d, hu, _⟩ := HD.out.2.il
          rw [tabR_len] at hu; subst hu
          have HLM : Hid (LLh wr W.heap.size u3 (updA hs k (.slice B j d)) (tabR (prodI xs) j) k (k + 1)) := by
            have h := LLh.more HC.out.2 HD.out.1 (Nat.le_refl _) HC.out.1.size HD.out.2
            have e : updA (tabR (prodI xs) j) k (tabR (prodI xs) j k) = tabR (prodI xs) j := by funext i; unfold updA; split <;> simp_all
            rw [e] at h; exact h
          have HOO_ : Hid (World.ownsRow (wr) (W).heap.size 34 1 (u3) (k) ((List.range (k)).map (updA hs k (.slice B j d)))) := HLM.out.1; have hbw_ := HB1.out.size; (try simp only [World.size_alloc] at hbw_); go_wp2_with (at_builtin; go_loud (refine wpList_append_own_at _ rfl _ _ 64 rfl (W).heap.size 34 li0 (.slice none 0 0) 1 24 Try.underlying64 hli hli0 hli1 hli2 rfl (by decide) _ _ _ rfl (HOO_.out.alloc _) ⟨wr.heap.size, 0, none⟩ 1 1 [.slice (B) (j) (d)] rfl rfl (cells_newH (cw := wr) (by simp)) (by simp [Value.oneCell']) (by unfold maxLen; omega) (by omega) (by simp; omega) ?_); intro v2 w2 hown2 hg2 _ hat2); have HL2 : Hid (LLh w2 (W).heap.size v2 (updA hs k (.slice B j d)) (tabR (prodI xs) j) (k + 1) (k + 1)) := LLh.push HLM.out (by omega) (below_alloc _ _) hg2 (by simpa [updA_same] using hown2) hat2; have HB3 : Hid (Below (W).heap.size (W) w2) := (HB1.out.alloc HB1.out.size _).grown hg2 (by simp; omega) (own_block HOO_.out); clear hown2 hg2 hat2 hbw_
          go_wp2
          go_roundw
          case rel => exact ⟨k + 1, _, by omega, by go_num, HB3.out, HL2.out⟩
          case measure => simp [intOf]; omega
    · obtain rfl : k = n := by omega
      go_wp2
      go_ret
      exact ⟨u3, hs, rfl, HC.out.2.base HW.out.size, below_up HW.out HC.out.1⟩

theorem l03Whole_any (v : Int) (A : Option Addr) (c : Nat) (xs : List Blk) (w : World) (hA : Bl w A xs) (hl : xs.length ≤ 1048576) :
    Calls Try.prog 75 #[.agg #[.int .i64 v, .slice A xs.length c]] w fun e w' => e = .returned (.int .i64 (elCode v xs 0 [])) ∧ Below w.heap.size w w' := by
  have ha : allInB [] 0 = true := allInB_true fun k hk => by simp at hk
  cases hs : isSysB v xs
  · have HA := Lib.hid hA; clear hA; have HR := Lib.hid (Row.box w 30 (.int .i64 v) (.slice A xs.length c)); have HW := Lib.hid (Since.refl w); go_enter Try.func75, Try.ntmps75; go_wp2_with fail; replace HA := Lib.hid (HA.out.below (below_alloc _ (.cells #[.int .i64 v, .slice A xs.length c] 30))); replace HW := Lib.hid (HW.out.below (below_alloc _ (.cells #[.int .i64 v, .slice A xs.length c] 30)))
    refine (l01Is_any v A c xs _ HA.out hl).mono ?_; rw [hs]; rintro e w_ ⟨rfl, hb⟩; replace HW := Lib.hid (HW.out.below hb); clear hb
    go_wp2
    go_ret
    exact ⟨ret_int (by simp [elCode, hs]), HW.out⟩
  · have hv := (isSysB_iff.1 hs).1
    cases hf : fullB v xs
    · have HA := Lib.hid hA; clear hA; have HR := Lib.hid (Row.box w 30 (.int .i64 v) (.slice A xs.length c)); have HW := Lib.hid (Since.refl w); go_enter Try.func75, Try.ntmps75; go_wp2_with fail; replace HA := Lib.hid (HA.out.below (below_alloc _ (.cells #[.int .i64 v, .slice A xs.length c] 30))); replace HW := Lib.hid (HW.out.below (below_alloc _ (.cells #[.int .i64 v, .slice A xs.length c] 30)))
      refine (l01Is_any v A c xs _ HA.out hl).mono ?_; rw [hs]; rintro e w_ ⟨rfl, hb⟩; replace HA := Lib.hid (HA.out.below hb); replace HW := Lib.hid (HW.out.below hb); replace HR := Lib.hid (HR.out.below hb); clear hb; (try clear c0 c1); obtain ⟨c0, c1⟩ := HR.out.c2
      go_wp2_with fail
      refine (l01Full_any v A c xs _ hl ⟨by omega, hv.2⟩).mono ?_; rw [hf]; rintro e w_ ⟨rfl, hb⟩; replace HW := Lib.hid (HW.out.below hb); clear hb
      go_wp2
      go_ret
      exact ⟨ret_int (by simp [elCode, hs, hf, ha]), HW.out⟩
    · have HA := Lib.hid hA; clear hA; have HR := Lib.hid (Row.box w 30 (.int .i64 v) (.slice A xs.length c)); have HW := Lib.hid (Since.refl w); go_enter Try.func75, Try.ntmps75; go_wp2_with fail; replace HA := Lib.hid (HA.out.below (below_alloc _ (.cells #[.int .i64 v, .slice A xs.length c] 30))); replace HW := Lib.hid (HW.out.below (below_alloc _ (.cells #[.int .i64 v, .slice A xs.length c] 30)))
      refine (l01Is_any v A c xs _ HA.out hl).mono ?_; rw [hs]; rintro e w_ ⟨rfl, hb⟩; replace HA := Lib.hid (HA.out.below hb); replace HW := Lib.hid (HW.out.below hb); replace HR := Lib.hid (HR.out.below hb); clear hb; (try clear c0 c1); obtain ⟨c0, c1⟩ := HR.out.c2
      go_wp2_with fail
      refine (l01Full_any v A c xs _ hl ⟨by omega, hv.2⟩).mono ?_; rw [hf]; rintro e w_ ⟨rfl, hb⟩; replace HW := Lib.hid (HW.out.below hb); clear hb
      go_wp2
      go_ret
      exact ⟨ret_int (by simp [elCode, hs, hf, ha]), HW.out⟩

theorem Ro.cells {w : World} {base g : Nat} {c : Nat} {xs : List Int} (h : Ro w base (.slice (some ⟨g, 0, none⟩) xs.length c) xs) : ∀ j u, (xs.map (Value.int .i64))[j]? = some u → w.cell? ((⟨g, 0, none⟩ : Addr).add j) = some u := World.ownsRow.cells h (by simp [Value.ownBlock])
theorem l01Own_any (u : Value) (base : Nat) (ns : List Int) (w : World) (hR : Ro w base u ns) (hl : ns.length ≤ 1048576) :
    Calls Try.prog 99 #[u] w fun e w' => ∃ r, e = .returned r ∧ Ro w' w.heap.size r ns ∧ Below w.heap.size w w' := by
  obtain ⟨ni0, hni, hni0, hni1, hni2⟩ := info_parts infoInt'
  have HE : Hid (Ro (w.alloc (.cells #[] 2)) w.heap.size (.slice (some ⟨w.heap.size, 0, none⟩) 0 0) []) := own_empty _ _ _
  have HB := Lib.hid (below_alloc w (.cells #[] 2))
  have HR := Lib.hid hR
  rcases hR.2 with ⟨rfl, h0⟩ | ⟨g, cap, cur, rfl, _⟩
  · obtain rfl := List.eq_nil_of_length_eq_zero h0
    clear hR
    go_enter Try.func99, Try.ntmps99
    go_wp2_with (at_builtin; refine wpList_append_own_none rfl _ _ 34 rfl w.heap.size 2 ni0 1 (by rfl) hni _ 0 [] rfl HE.out rfl ?_)
    go_ret
    exact ⟨_, rfl, HE.out, HB.out⟩
  · clear hR
    have HRC := Lib.hid (HR.out.below HB.out)
    go_enter Try.func99, Try.ntmps99
    go_wp2_with (at_builtin; refine wpList_append_own _ rfl _ _ 34 rfl w.heap.size 2 ni0 (.int .i64 0) 1 8 Try.underlying34 hni hni0 hni1 hni2 rfl (by decide) _ _ _ rfl HE.out ⟨g, 0, none⟩ ns.length cap (ns.map (Value.int .i64)) rfl (by simp) (Ro.cells HRC.out) (by simp [Value.oneCell']) (by unfold maxLen; simp; omega) (by simp; omega) (by simp) ?_; intro v2 w2 hown2 hg2 _)
    have HO : Hid (Ro w2 w.heap.size v2 ns) := by unfold Hid Ro; simpa using hown2
    have HB2 : Hid (Below w.heap.size w w2) := HB.out.grown hg2 HB.out.size (own_block HE.out)
    clear hown2 hg2
    go_ret
    exact ⟨_, rfl, HO.out, HB2.out⟩

end Go.Proofs.Ytpdkkbimhhhjmaa
