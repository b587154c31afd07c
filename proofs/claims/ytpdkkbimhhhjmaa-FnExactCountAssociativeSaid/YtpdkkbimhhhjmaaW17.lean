/- Contracts of the loop's table; conditions: stated in each. -/
import Derived.Test.YtpdkkbimhhhjmaaW16
import Derived.Deep.AppendLies
namespace Go.Proofs.Ytpdkkbimhhhjmaa
open Go.RowKit
set_option maxHeartbeats 400000
set_option maxRecDepth 100000
set_option linter.unusedSimpArgs false
set_option linter.unusedVariables false

/-- the loop's rows as far as they are made: k of them, the last one k long -/
def loopX (xs : List Blk) (n k : Nat) (a : Nat) : List Int := if a = n then tabR (loopI xs n) k n else if a < k then tabR (loopI xs n) (n + 1) a else tabR (prodI xs) n a
theorem loopI_top (xs : List Blk) (n : Nat) (b : Int) : loopI xs n n b = b := by simp [loopI]
theorem row_loop (xs : List Blk) {n k : Nat} (hk : k < n) : (tabR (prodI xs) n k).set k (n : Int) ++ [(k : Int)] = tabR (loopI xs n) (n + 1) k := by
  rw [tabR_succ]
  congr 1
  · apply List.ext_getElem?
    intro i
    by_cases hi : i < n
    · by_cases e : i = k
      · subst e
        have h1 : (i : Int) ≠ n := by omega
        simp [tabR, hi, loopI, h1]
      · rw [List.getElem?_set_ne (Ne.symm e)]
        have h1 : (k : Int) ≠ n := by omega
        have h2 : (i : Int) ≠ n := by omega
        have h3 : (k : Int) ≠ i := by omega
        simp [tabR, hi, loopI, prodI, h1, h2, h3]
    · rw [List.getElem?_eq_none (by simp [tabR]; omega), List.getElem?_eq_none (by simp [tabR]; omega)]
  · have h1 : (k : Int) ≠ n := by omega
    simp [loopI, h1]

theorem Row.belowB {w w' : World} {B g : Nat} {t : TypeId} {cur : Array Value} (h : Row w g t cur) (hg : g < B) (hb : Below B w w') : Row w' g t cur := (hb.block g hg).trans h
theorem Since.below2 {w a b : World} (h : Since w a) (h' : Below (w.heap.size + 1) a b) : Below w.heap.size w b := Below.trans h (h'.mono (Nat.le_succ _))
theorem l09Loop_any (n : Nat) (A : Option Addr) (c : Nat) (xs : List Blk) (w : World) (hA : Bl w A xs) (hl : xs.length ≤ 1048576) (hs : isSys n xs) :
    Calls Try.prog 71 #[.agg #[.int .i64 n, .slice A xs.length c]] w fun e w' => ∃ u hs, e = .returned u ∧ LLh w' w.heap.size u hs (tabR (loopI xs n) (n + 1)) (n + 1) (n + 1) ∧ Below w.heap.size w w' := by
  obtain ⟨ni0, hni, hni0, hni1, hni2⟩ := info_parts infoInt'
  obtain ⟨li0, hli, hli0, hli1, hli2⟩ := info_parts infoList'
  have hn := hs.1
  have HS := Lib.hid hs
  clear hs
  have HA := Lib.hid (hA.below (below_alloc w (.cells #[.int .i64 n, .slice A xs.length c] 30)))
  have HR := Lib.hid (Row.box w 30 (.int .i64 n) (.slice A xs.length c))
  have HW : Hid (Since w _) := Lib.hid (below_alloc w (.cells #[.int .i64 n, .slice A xs.length c] 30))
  clear hA
  go_enter Try.func71, Try.ntmps71
  go_wp2_with fail
  refine (l09Table_any n A c xs _ HA.out hl HS.out).mono ?_
  rintro e W ⟨u, hs0, rfl, hL, hb⟩
  rw [World.size_alloc] at hL
  have HL := Lib.hid hL; clear hL
  replace HW := Lib.hid (HW.out.below hb); replace HR := Lib.hid (HR.out.below hb); clear hb; (try clear c0 c1); obtain ⟨c0, c1⟩ := HR.out.c2
  obtain ⟨gu, cu, rfl, hgb, hgl⟩ := HL.out.form (by omega)
  go_wp2
  have HRO : Hid (Ro (W.alloc (.cells #[] 2)) W.heap.size (.slice (some ⟨W.heap.size, 0, none⟩) 0 0) []) := own_empty _ _ _
  have HBA := Lib.hid (below_alloc W (.cells #[] 2))
  have HLM : Hid (LLh (W.alloc (.cells #[] 2)) (w.heap.size + 1) (.slice (some ⟨gu, 0, none⟩) n cu) (updA hs0 n (.slice (some ⟨W.heap.size, 0, none⟩) 0 0)) (loopX xs n 0) n (n + 1)) := by
    have h := LLh.more HL.out HBA.out (Nat.le_refl _) HR.out.lt HRO.out
    refine h.congr fun k hk => ?_
    unfold updA loopX
    split
    · rfl
    · rw [if_neg (by omega)]
  replace HW := Lib.hid (HW.out.below HBA.out); replace HR := Lib.hid (HR.out.below HBA.out); (try clear c0 c1); obtain ⟨c0, c1⟩ := HR.out.c2
  generalize hWo : W.alloc (.cells #[] 2) = w5 at *
  have hWs : W.heap.size < w5.heap.size := by rw [← hWo]; simp
  clear hWo c0 c1
  go_loopw [4, 5] (fun r i wr => ∃ (k : Nat) (hs : Nat → Value), k ≤ n ∧ i = .int .i64 k ∧ r = hs n ∧ Hid (Below (w.heap.size + 1) w5 wr ∧ LLh wr (w.heap.size + 1) (.slice (some ⟨gu, 0, none⟩) n cu) hs (loopX xs n k) n (n + 1))) (fun _ i _ => n - (intOf i).toNat)
  case atStart => exact ⟨0, _, by omega, rfl, by rw [updA_same], Below.refl _ _, HLM.out⟩
  case round =>
    obtain ⟨k, hs, hk, rfl, rfl, HC⟩ := hrel
    have HRW := Lib.hid (HR.out.belowB (Nat.lt_succ_self _) HC.out.1)
    obtain ⟨c0, c1⟩ := HRW.out.c2
    have hsz := HRW.out.lt
    by_cases hlt : k < n
    · have e0 : loopX xs n k k = tabR (prodI xs) n k := by unfold loopX; rw [if_neg (by omega), if_neg (by omega)]
      have hRk := HC.out.2.2.1 k (by omega)
      rw [e0] at hRk
      obtain ⟨gr, cr, hhk, hgr, hgrl, hcs⟩ := hRk.form (by rw [tabR_len]; omega)
      rw [tabR_len] at hhk hcs
      obtain ⟨hcell, hgul, hgub⟩ := HC.out.2.at_ hlt
      rw [hhk] at hcell hRk
      have hck := hcs k hlt
      unfold Ro at hRk
      rw [tabR_len] at hRk
      have hfr := World.ownsRow.frozenAt hRk k
      obtain ⟨hst, hgst⟩ := World.ownsRow.stored hRk k (.int .i64 (n : Int))
      have HST := Lib.hid hst; have HGST := Lib.hid hgst; have HHK := Lib.hid hhk
      have HE0 := Lib.hid e0
      clear hst hgst hhk hcs hRk e0
      go_wp2_with (first | (at_builtin; (refine wpList_append_lies _ rfl _ _ 34 rfl (w.heap.size + 1) 2 ni0 (.int .i64 0) 1 8 Try.underlying34 hni hni0 hni1 hni2 rfl (by decide) _ _ _ rfl (HST.out.alloc _) ⟨wr.heap.size, 0, none⟩ 1 1 [.int .i64 k] rfl rfl (cells_newH (cw := wr.setCell ⟨gr, k, none⟩ (.int .i64 (n : Int))) (by simp)) (by simp [Value.oneCell']) (by omega) (by unfold maxLen; omega) (by omega) (by simp; omega) (wr.heap.size + 1) (by simp) ?_); intro g2 cap2 w2 hown2 hg2 hat2 hlt2; (have HGT : Hid (wr.grownBy w2 (hs k).ownBlock) := by { unfold Hid; rw [HHK.out]; exact World.grownBy.trans HGST.out (World.grownBy.trans (World.grownBy_alloc _ _ _) hg2) }); (have HRO2 : Hid (Ro w2 (w.heap.size + 1) (.slice (some ⟨g2, 0, none⟩) (n + 1) cap2) (tabR (loopI xs n) (n + 1) k)) := by { unfold Hid Ro; rw [tabR_len, ← row_loop xs hlt, List.map_append, List.map_set]; exact hown2 }); (have HAT2 : Hid ((Value.slice (some ⟨g2, 0, none⟩) (n + 1) cap2).ownBlock = (hs k).ownBlock ∨ ∃ b, (Value.slice (some ⟨g2, 0, none⟩) (n + 1) cap2).ownBlock = some b ∧ wr.heap.size ≤ b) := by { rw [HHK.out]; exact hat2.imp (fun h => h.symm) fun h => ⟨g2, rfl, by omega⟩ }); (have hLG := HC.out.2.grow (k := k) (by omega) HGT.out HRO2.out HAT2.out); (have hc2 : w2.cell? ⟨gu, k, none⟩ = some (hs k) := by { have h := World.ownsRow.cells hLG.1 (g := gu) (by simp [Value.ownBlock]) k (hs k) (by simp [hlt]); have hadd : (⟨gu, 0, none⟩ : Addr).add k = ⟨gu, k, none⟩ := (by unfold Addr.add; split <;> simp_all); rw [hadd] at h; exact h }); (have hf2 : w2.frozen? ⟨gu, k, none⟩ = false := World.ownsRow.frozenAt hLG.1 k); (have hsz2 : gu < w2.heap.size := (World.ownsRow.lt hLG.1 gu (by simp [Value.ownBlock])).2); clear hown2 hg2 hat2 hLG; (have HL3 := Lib.hid (HC.out.2.put hlt (by omega) HGT.out HRO2.out HAT2.out)); (have HB3 : Hid (Below (w.heap.size + 1) w5 (w2.setCell ⟨gu, k, none⟩ (.slice (some ⟨g2, 0, none⟩) (n + 1) cap2))) := (HC.out.1.grown HGT.out hsz (by rw [HHK.out]; intro q hq; simp [Value.ownBlock] at hq; omega)).setCell (p := ⟨gu, k, none⟩) hgub _); (have HU0 := HL3.out.2.1 n (by omega)); (have e1 : updA hs k (Value.slice (some ⟨g2, 0, none⟩) (n + 1) cap2) n = hs n := updA_ne _ _ (by omega)); (have e2 : updA (loopX xs n k) k (tabR (loopI xs n) (n + 1) k) n = tabR (loopI xs n) k n := by rw [updA_ne _ _ (by omega)]; unfold loopX; rw [if_pos rfl]); rw [e1, e2] at HU0; (have HU : Hid ((w2.setCell ⟨gu, k, none⟩ (.slice (some ⟨g2, 0, none⟩) (n + 1) cap2)).ownsRow (w.heap.size + 1) 2 1 (hs n) k ((tabR (loopI xs n) k n).map (Value.int .i64))) := by unfold Hid; unfold Ro at HU0; rw [tabR_len] at HU0; exact HU0); (have HE1 := Lib.hid e1); clear HU0 e1 e2; (have hsz3 : w.heap.size + 1 ≤ w2.heap.size := by have := HB3.out.size; simp at this; have := HR.out.lt; omega)) | (at_builtin; (refine wpList_append_lies _ rfl _ _ 34 rfl (w.heap.size + 1) 2 ni0 (.int .i64 0) 1 8 Try.underlying34 hni hni0 hni1 hni2 rfl (by decide) _ _ _ rfl (HU.out.alloc _) ⟨w2.heap.size, 0, none⟩ 1 1 [.int .i64 k] rfl rfl (cells_newH (cw := w2.setCell ⟨gu, k, none⟩ (.slice (some ⟨g2, 0, none⟩) (n + 1) cap2)) (by simp)) (by simp [Value.oneCell']) (by omega) (by unfold maxLen; omega) (by omega) (by simp; omega) (w2.heap.size + 1) (by simp) ?_); intro g3 cap3 w3 hown3 hg3 hat3 hlt3))
      have HG3 : Hid ((w2.setCell ⟨gu, k, none⟩ (.slice (some ⟨g2, 0, none⟩) (n + 1) cap2)).grownBy w3 (updA hs k (Value.slice (some ⟨g2, 0, none⟩) (n + 1) cap2) n).ownBlock) := by unfold Hid; rw [HE1.out]; exact World.grownBy.trans (World.grownBy_alloc _ _ _) hg3
      have HRO3 : Hid (Ro w3 (w.heap.size + 1) (.slice (some ⟨g3, 0, none⟩) (k + 1) cap3) (tabR (loopI xs n) (k + 1) n)) := by
        unfold Hid Ro; rw [tabR_len, tabR_succ, loopI_top, List.map_append]; exact hown3
      have HAT3 : Hid ((Value.slice (some ⟨g3, 0, none⟩) (k + 1) cap3).ownBlock = (updA hs k (Value.slice (some ⟨g2, 0, none⟩) (n + 1) cap2) n).ownBlock ∨ ∃ b, (Value.slice (some ⟨g3, 0, none⟩) (k + 1) cap3).ownBlock = some b ∧ (w2.setCell ⟨gu, k, none⟩ (.slice (some ⟨g2, 0, none⟩) (n + 1) cap2)).heap.size ≤ b) := by
        unfold Hid; rw [HE1.out]; exact hat3.imp (fun h => h.symm) fun h => ⟨g3, rfl, by simp; omega⟩
      have HL4 := Lib.hid (HL3.out.grow_out (k := n) (by omega) (Nat.le_refl _) HG3.out HRO3.out HAT3.out)
      have HB4 : Hid (Below (w.heap.size + 1) w5 w3) := HB3.out.grown HG3.out (by simpa using hsz3) (fun q hq => ((HL3.out.2.1 n (by omega)).lt q hq).1)
      clear hown3 hg3 hat3
      go_wp2
      go_roundw
      case rel =>
        refine ⟨k + 1, _, by omega, by go_num, ?_, HB4.out, HL4.out.congr ?_⟩
        · rw [updA_same]
        · intro a ha
          unfold updA loopX
          (repeat' split) <;> first | rfl | omega | (subst_vars; rfl) | (exfalso; omega)
      case measure => simp [intOf]; omega
    · obtain rfl : k = n := by omega
      have hU0 := HC.out.2.2.1 k (by omega)
      have e2 : loopX xs k k k = tabR (loopI xs k) k k := by unfold loopX; rw [if_pos rfl]
      rw [e2] at hU0; unfold Ro at hU0; rw [tabR_len] at hU0
      have HU := Lib.hid hU0; clear hU0 e2
      go_wp2_with (first | (at_builtin; (refine wpList_append_lies _ rfl _ _ 34 rfl (w.heap.size + 1) 2 ni0 (.int .i64 0) 1 8 Try.underlying34 hni hni0 hni1 hni2 rfl (by decide) _ _ _ rfl (HU.out.alloc _) ⟨wr.heap.size, 0, none⟩ 1 1 [.int .i64 k] rfl rfl (cells_newH (cw := wr) (by simp)) (by simp [Value.oneCell']) (by omega) (by unfold maxLen; omega) (by omega) (by simp; omega) (wr.heap.size + 1) (by simp) ?_); intro g3 cap3 w3 hown3 hg3 hat3 hlt3; (have HG3 : Hid (wr.grownBy w3 (hs k).ownBlock) := World.grownBy.trans (World.grownBy_alloc _ _ _) hg3); (have HRO3 : Hid (Ro w3 (w.heap.size + 1) (.slice (some ⟨g3, 0, none⟩) (k + 1) cap3) (tabR (loopI xs k) (k + 1) k)) := by { unfold Hid Ro; rw [tabR_len, tabR_succ, loopI_top, List.map_append]; exact hown3 }); (have HL4 := Lib.hid (HC.out.2.grow_out (k := k) (by omega) (Nat.le_refl _) HG3.out HRO3.out (hat3.imp (fun h => h.symm) fun h => ⟨g3, rfl, by omega⟩))); (have HB4 : Hid (Below (w.heap.size + 1) w5 w3) := HC.out.1.grown HG3.out hsz (fun q hq => ((HC.out.2.2.1 k (by omega)).lt q hq).1)); (have hsz3 : w.heap.size + 1 ≤ w3.heap.size := by have := HB4.out.size; have := HR.out.lt; omega); clear hown3 hg3 hat3 c0 c1; (have HOO : Hid (w3.ownsRow (w.heap.size + 1) 34 1 (.slice (some ⟨gu, 0, none⟩) k cu) k ((List.range k).map (updA hs k (.slice (some ⟨g3, 0, none⟩) (k + 1) cap3)))) := HL4.out.1)) | (at_builtin; (refine wpList_append_own_at _ rfl _ _ 64 rfl (w.heap.size + 1) 34 li0 (.slice none 0 0) 1 24 Try.underlying64 hli hli0 hli1 hli2 rfl (by decide) _ _ _ rfl (HOO.out.alloc _) ⟨w3.heap.size, 0, none⟩ 1 1 [.slice (some ⟨g3, 0, none⟩) (k + 1) cap3] rfl rfl (cells_newH (cw := w3) (by simp)) (by simp [Value.oneCell']) (by unfold maxLen; omega) (by omega) (by simp; omega) ?_); intro v4 w4 hown4 hg4 _ hat4))
      have HL5 : Hid (LLh w4 (w.heap.size + 1) v4 (updA hs k (.slice (some ⟨g3, 0, none⟩) (k + 1) cap3)) (updA (loopX xs k k) k (tabR (loopI xs k) (k + 1) k)) (k + 1) (k + 1)) := LLh.push HL4.out (by omega) (below_alloc _ _) hg4 (by simpa [updA_same] using hown4) hat4
      have HB5 : Hid (Below (w.heap.size + 1) w5 w4) := (HB4.out.alloc hsz3 _).grown hg4 (by simp; omega) (own_block HOO.out)
      clear hown4 hg4 hat4
      go_wp2
      go_ret
      refine ⟨_, _, rfl, (HL5.out.base (Nat.le_succ _)).congr ?_, Since.below2 HW.out HB5.out⟩
      intro a ha
      unfold updA loopX
      (repeat' split) <;> first | rfl | omega | (subst_vars; rfl) | (exfalso; omega)

end Go.Proofs.Ytpdkkbimhhhjmaa
