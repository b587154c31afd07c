/- Contracts of the walk through all blocks that are such; conditions: stated in each. -/
import Derived.Test.YtbiepcafnhhfgaaW5
import Derived.Test.YtbiepcafnhhfgaaM3
import Derived.Test.YtbiepcafnhhfgaaP4
namespace Go.Proofs.Ytbiepcafnhhfgaa
open Go.RowKit
set_option maxHeartbeats 400000
set_option maxRecDepth 100000
set_option linter.unusedSimpArgs false
set_option linter.unusedVariables false

theorem infoBlk' : (Try.prog.info? 65).map (fun i => (i.zero, i.size, i.bytes)) = some (some (.agg #[.int .i64 0, .int .i64 0, .int .i64 0]), 3, 24) := by kernel_rfl
/-- the cells of blocks -/
def cells3' (xs : List Blk) : List Value := xs.flatMap fun b => [.int .i64 b.1, .int .i64 b.2.1, .int .i64 b.2.2]
theorem cells3'_app (xs ys : List Blk) : cells3' (xs ++ ys) = cells3' xs ++ cells3' ys := by simp [cells3']
/-- u is a row of its own that holds the blocks -/
def OB (w : World) (base : Nat) (u : Value) (xs : List Blk) : Prop := w.ownsRow base 65 3 u xs.length (cells3' xs)
theorem OB.below {w w' : World} {base : Nat} {u : Value} {xs : List Blk} (h : OB w base u xs) (hb : Below w.heap.size w w') : OB w' base u xs := own_below h hb
theorem OB.base {w : World} {base base' : Nat} {u : Value} {xs : List Blk} (h : OB w base u xs) (hb : base' ≤ base) : OB w base' u xs := own_base h hb
theorem OB.snoc {w : World} {base : Nat} {u : Value} {xs : List Blk} {b : Blk} (h : w.ownsRow base 65 3 u (xs.length + 1) (cells3' xs ++ [.int .i64 b.1, .int .i64 b.2.1, .int .i64 b.2.2])) : OB w base u (xs ++ [b]) := by
  unfold OB; rw [cells3'_app, List.length_append]; exact h

theorem triples_any (n : Nat) (g : Nat) (fa la : Array Value) (p : Blk → Bool) (w : World) (hn : n ≤ 15)
    (eg : ∀ args w, (callFunc g args).run Try.prog w = .ok (.enter g args) w)
    (hp : ∀ (W : World) (b : Blk), goodB n b = true → Below w.heap.size w W → Calls Try.prog g (fa ++ #[.agg #[.int .i64 b.1, .int .i64 b.2.1, .int .i64 b.2.2]] ++ la) W fun e w' => e = .returned (.bool (p b)) ∧ Below W.heap.size W w') :
    Calls Try.prog 99 #[.int .i64 n, .func (.func g) fa la] w fun e w' => ∃ u, e = .returned u ∧ OB w' w.heap.size u (triL p n) ∧ Below w.heap.size w w' := by
  obtain ⟨bi0, hbi, hbi0, hbi1, hbi2⟩ := info_parts infoBlk'
  have HP := Lib.hid hp; clear hp
  go_enter Try.func99, Try.ntmps99
  go_wp2
  go_loopw [5, 10] (fun u i wr => ∃ k : Nat, k ≤ n ∧ i = .int .i64 k ∧ Hid (Below w.heap.size w wr ∧ OB wr w.heap.size u (asT p n k))) (fun _ i _ => n - (intOf i).toNat)
  case atStart => exact ⟨0, by omega, rfl, Below.refl _ _, World.ownsRow_nil _ _ _ _⟩
  case round =>
    obtain ⟨k, hk, rfl, HC⟩ := hrel
    by_cases hlt : k < n
    · go_wp2
      obtain ⟨wo, rfl⟩ : ∃ wo : World, wo = wr := ⟨_, rfl⟩
      go_loopw [5, 7] (fun u i wr => ∃ j : Nat, k + 1 ≤ j ∧ j ≤ n ∧ i = .int .i64 j ∧ Hid (Below w.heap.size w wr ∧ OB wr w.heap.size u (asT p n k ++ bsT p n k j))) (fun _ i _ => n - (intOf i).toNat)
      case atStart => exact ⟨k + 1, by omega, by omega, by go_num, HC.out.1, by rw [bsT_nil p n k _ (Nat.le_refl _), List.append_nil]; exact HC.out.2⟩
      case round =>
        obtain ⟨j, hj1, hj2, rfl, HC⟩ := hrel
        by_cases hlt2 : j < n
        · go_wp2
          obtain ⟨wo, rfl⟩ : ∃ wo : World, wo = wr := ⟨_, rfl⟩
          go_loopw [5, 8] (fun u i wr => ∃ m : Nat, j + 1 ≤ m ∧ m ≤ n ∧ i = .int .i64 m ∧ Hid (Below w.heap.size w wr ∧ OB wr w.heap.size u (asT p n k ++ bsT p n k j ++ csT p k j m))) (fun _ i _ => n - (intOf i).toNat)
          case atStart => exact ⟨j + 1, by omega, by omega, by go_num, HC.out.1, by rw [csT_nil p k j _ (Nat.le_refl _), List.append_nil]; exact HC.out.2⟩
          case round =>
            obtain ⟨m, hm1, hm2, rfl, HC⟩ := hrel
            by_cases hlt3 : m < n
            · have HG : Hid (goodB n ((k : Int), (j : Int), (m : Int)) = true) := by unfold Hid goodB; simp; omega
              go_wp2_with fail
              refine (HP.out _ ((k : Int), (j : Int), (m : Int)) HG.out HC.out.1).mono ?_
              rintro e w1 ⟨rfl, hb⟩
              have HB2 : Hid (Below w.heap.size w w1) := below_up HC.out.1 hb
              have HO : Hid (w1.ownsRow w.heap.size 65 3 u5 (asT p n k ++ bsT p n k j ++ csT p k j m).length (cells3' (asT p n k ++ bsT p n k j ++ csT p k j m))) := HC.out.2.below hb
              clear hb
              have HN : Hid (csT p k j (m + 1) = csT p k j m ++ (if j < m ∧ p ((k : Int), (j : Int), (m : Int)) = true then [((k : Int), (j : Int), (m : Int))] else [])) := rfl
              cases hpk : p ((k : Int), (j : Int), (m : Int))
              · go_wp2
                go_roundw
                case rel => exact ⟨m + 1, by omega, by omega, by go_num, HB2.out, by rw [HN.out, if_neg (by simp [hpk]), List.append_nil]; exact HO.out⟩
                case measure => simp [intOf]; omega
              · have hlen : (asT p n k ++ bsT p n k j ++ csT p k j m).length ≤ 4000 := by
                  have h1 := asT_len p hn k; have h2 := bsT_len p hn k j; have h3 := csT_len p k j m
                  simp only [List.length_append]; omega
                have hbw_ := HB2.out.size; go_wp2_with (at_builtin; refine wpList_append_own _ rfl _ _ 28 rfl (w).heap.size 65 bi0 (.agg #[.int .i64 0, .int .i64 0, .int .i64 0]) 3 24 Try.underlying28 hbi hbi0 hbi1 hbi2 rfl (by decide) _ _ _ rfl (HO.out.alloc _) ⟨(w1).heap.size, 0, none⟩ 1 1 [.int .i64 ((k : Int)), .int .i64 ((j : Int)), .int .i64 ((m : Int))] rfl rfl (cells_new _ _ _) (by simp [Value.oneCell']) (by unfold maxLen; omega) (by omega) (by simp; omega) ?_; intro v2 w2 hown2 hg2 _); have HO2 := Lib.hid hown2; have HB3 : Hid (Below (w).heap.size (w) w2) := (HB2.out.alloc HB2.out.size _).grown hg2 (by simp; omega) (own_block HO.out); clear hown2 hg2 hbw_
                go_wp2
                go_roundw
                case rel => exact ⟨m + 1, by omega, by omega, by go_num, HB3.out, by rw [HN.out, if_pos ⟨by omega, hpk⟩, ← List.append_assoc]; exact OB.snoc (b := ((k : Int), (j : Int), (m : Int))) HO2.out⟩
                case measure => simp [intOf]; omega
            · obtain rfl : m = n := by omega
              go_wp2
              go_roundw
              case rel => exact ⟨j + 1, by omega, by omega, by go_num, HC.out.1, by rw [bsT, if_pos (by omega), ← List.append_assoc]; exact HC.out.2⟩
              case measure => simp [intOf]; omega
        · obtain rfl : j = n := by omega
          go_wp2
          go_roundw
          case rel => exact ⟨k + 1, by omega, by go_num, HC.out.1, by rw [asT]; exact HC.out.2⟩
          case measure => simp [intOf]; omega
    · obtain rfl : k = n := by omega
      go_wp2
      go_ret
      exact ⟨_, rfl, HC.out.2, HC.out.1⟩

theorem l01Free_any (v : Int) (A : Option Addr) (c : Nat) (xs : List Blk) (b : Blk) (w : World) (hA : Bl w A xs) (hl : xs.length ≤ 1048576) :
    Calls Try.prog 98 #[.agg #[.int .i64 v, .slice A xs.length c], .agg #[.int .i64 b.1, .int .i64 b.2.1, .int .i64 b.2.2]] w fun e w' => e = .returned (.bool (freeB xs b)) ∧ Below w.heap.size w w' := by
  have HR := Lib.hid ((Row.box w 30 (.int .i64 v) (.slice A xs.length c)).below (below_alloc _ (.cells #[.int .i64 b.1, .int .i64 b.2.1, .int .i64 b.2.2] 65)))
  have HX := Lib.hid (Box.new (w.alloc (.cells #[.int .i64 v, .slice A xs.length c] 30)) b 65)
  rw [World.size_alloc] at HX
  have HW := Lib.hid (below_up (below_alloc w (.cells #[.int .i64 v, .slice A xs.length c] 30)) (below_alloc _ (.cells #[.int .i64 b.1, .int .i64 b.2.1, .int .i64 b.2.2] 65)))
  have HA := Lib.hid (hA.below HW.out)
  clear hA
  go_enter Try.func98, Try.ntmps98
  go_wp2
  generalize (w.alloc _).alloc _ = W at *
  go_loopw [5] (fun i wr => ∃ k : Nat, k ≤ xs.length ∧ i = .int .i64 k ∧ Below W.heap.size W wr ∧ Hid (∀ i, i < k → comI (nth xs i) b ≤ 1)) (fun i _ => xs.length - (intOf i).toNat)
  case atStart => exact ⟨0, by omega, rfl, Below.refl _ _, fun i hi => by omega⟩
  case round =>
    obtain ⟨k, hk, rfl, hb, HC⟩ := hrel
    obtain ⟨c0, c1⟩ := (HR.out.below hb).c2
    obtain ⟨x0, x1, x2⟩ := (HX.out.below hb).three
    have hsz := (HR.out.below hb).lt
    have hsz2 := (HX.out.below hb).1
    by_cases hlt : k < xs.length
    · obtain ⟨b1, o1, hA1, hb1, p0, p1, p2⟩ := (HA.out.below hb).at_ hlt
      subst hA1
      have cb := comI_bd (nth xs k) b
      by_cases hc : comI (nth xs k) b ≤ 1
      · have hc' : decide (1 < comI (nth xs k) b) = false := by simpa using hc
        go_wp2
        refine wp_region_ge_lit (by kernel_rfl) (by kernel_rfl) ?_; (repeat (go_big_quiet_step ((go_at_call 56; exact ge_call (l01Common_any (nth xs k) b _))))); refine wpQuiet_nil ?_
        rintro w1 ⟨x, rfl⟩
        go_wp2
        go_roundw
        case rel =>
          refine ⟨k + 1, by omega, by go_num, below_up hb (ge_below _ _), fun i hi => ?_⟩
          by_cases hij : i < k
          · exact HC.out i hij
          · obtain rfl : i = k := by omega
            exact hc
        case measure => simp [intOf]; omega
      · have hc' : 1 < comI (nth xs k) b := by omega
        clear hc
        go_wp2
        refine wp_region_ge_lit (by kernel_rfl) (by kernel_rfl) ?_; (repeat (go_big_quiet_step ((go_at_call 56; exact ge_call (l01Common_any (nth xs k) b _))))); refine wpQuiet_nil ?_
        rintro w1 ⟨x, rfl⟩
        go_wp2
        go_ret
        exact ⟨ret_bool (freeB_false fun h => absurd (h k hlt) (by omega)).symm, below_up HW.out (below_up hb (ge_below _ _))⟩
    · obtain rfl : k = xs.length := by omega
      go_wp2
      go_ret
      exact ⟨ret_bool (freeB_true HC.out).symm, below_up HW.out hb⟩

theorem l01Rest_any (n : Nat) (A : Option Addr) (c : Nat) (xs : List Blk) (w : World) (hn : n ≤ 15) (hA : Bl w A xs) (hl : xs.length ≤ 1048576) :
    Calls Try.prog 61 #[.agg #[.int .i64 n, .slice A xs.length c]] w fun e w' => ∃ u, e = .returned u ∧ OB w' w.heap.size u (triL (freeB xs) n) ∧ Below w.heap.size w w' := by
  obtain ⟨bi0, hbi, hbi0, hbi1, hbi2⟩ := info_parts infoBlk'
  have HA := Lib.hid (hA.below (below_alloc w (.cells #[.int .i64 n, .slice A xs.length c] 30)))
  have HR := Lib.hid (Row.box w 30 (.int .i64 n) (.slice A xs.length c))
  have HW := Lib.hid (below_alloc w (.cells #[.int .i64 n, .slice A xs.length c] 30))
  clear hA
  go_enter Try.func61, Try.ntmps61
  go_wp2
  have HSZ : Hid ((w.alloc (.cells #[.int .i64 n, .slice A xs.length c] 30)).heap.size = w.heap.size + 1) := World.size_alloc _ _
  generalize w.alloc _ = W at *
  generalize hp : freeB xs = p at *
  go_loopw [3, 4] (fun u i wr => ∃ k : Nat, k ≤ n ∧ i = .int .i64 k ∧ Hid (Below W.heap.size W wr ∧ OB wr W.heap.size u (asT p n k))) (fun _ i _ => n - (intOf i).toNat)
  case atStart => exact ⟨0, by omega, rfl, below_alloc _ _, by rw [← HSZ.out]; exact own_empty _ _ _⟩
  case round =>
    obtain ⟨k, hk, rfl, HC⟩ := hrel
    obtain ⟨c0, c1⟩ := (HR.out.below HC.out.1).c2
    by_cases hlt : k < n
    · go_wp2
      obtain ⟨wo, rfl⟩ : ∃ wo : World, wo = wr := ⟨_, rfl⟩
      clear c0 c1
      go_loopw [3, 5] (fun u i wr => ∃ j : Nat, k + 1 ≤ j ∧ j ≤ n ∧ i = .int .i64 j ∧ Hid (Below W.heap.size W wr ∧ OB wr W.heap.size u (asT p n k ++ bsT p n k j))) (fun _ i _ => n - (intOf i).toNat)
      case atStart => exact ⟨k + 1, by omega, by omega, by go_num, HC.out.1, by rw [bsT_nil p n k _ (Nat.le_refl _), List.append_nil]; exact HC.out.2⟩
      case round =>
        obtain ⟨j, hj1, hj2, rfl, HC⟩ := hrel
        obtain ⟨c0, c1⟩ := (HR.out.below HC.out.1).c2
        by_cases hlt2 : j < n
        · go_wp2
          obtain ⟨wo, rfl⟩ : ∃ wo : World, wo = wr := ⟨_, rfl⟩
          clear c0 c1
          go_loopw [3, 6] (fun u i wr => ∃ m : Nat, j + 1 ≤ m ∧ m ≤ n ∧ i = .int .i64 m ∧ Hid (Below W.heap.size W wr ∧ OB wr W.heap.size u (asT p n k ++ bsT p n k j ++ csT p k j m))) (fun _ i _ => n - (intOf i).toNat)
          case atStart => exact ⟨j + 1, by omega, by omega, by go_num, HC.out.1, by rw [csT_nil p k j _ (Nat.le_refl _), List.append_nil]; exact HC.out.2⟩
          case round =>
            obtain ⟨m, hm1, hm2, rfl, HC⟩ := hrel
            obtain ⟨c0, c1⟩ := (HR.out.below HC.out.1).c2
            by_cases hlt3 : m < n
            · go_wp2_with fail
              refine (l01Free_any n A c xs ((k : Int), (j : Int), (m : Int)) _ (HA.out.below HC.out.1) hl).mono ?_
              rw [hp]
              rintro e w1 ⟨rfl, hb⟩
              have HB2 : Hid (Below W.heap.size W w1) := below_up HC.out.1 hb
              have HO : Hid (w1.ownsRow W.heap.size 65 3 u3 (asT p n k ++ bsT p n k j ++ csT p k j m).length (cells3' (asT p n k ++ bsT p n k j ++ csT p k j m))) := HC.out.2.below hb
              clear hb
              have HN : Hid (csT p k j (m + 1) = csT p k j m ++ (if j < m ∧ p ((k : Int), (j : Int), (m : Int)) = true then [((k : Int), (j : Int), (m : Int))] else [])) := rfl
              cases hpk : p ((k : Int), (j : Int), (m : Int))
              · go_wp2
                go_roundw
                case rel => exact ⟨m + 1, by omega, by omega, by go_num, HB2.out, by rw [HN.out, if_neg (by simp [hpk]), List.append_nil]; exact HO.out⟩
                case measure => simp [intOf]; omega
              · have hlen : (asT p n k ++ bsT p n k j ++ csT p k j m).length ≤ 4000 := by
                  have h1 := asT_len p hn k; have h2 := bsT_len p hn k j; have h3 := csT_len p k j m
                  simp only [List.length_append]; omega
                have hbw_ := HB2.out.size; go_wp2_with (at_builtin; refine wpList_append_own _ rfl _ _ 28 rfl (W).heap.size 65 bi0 (.agg #[.int .i64 0, .int .i64 0, .int .i64 0]) 3 24 Try.underlying28 hbi hbi0 hbi1 hbi2 rfl (by decide) _ _ _ rfl (HO.out.alloc _) ⟨(w1).heap.size, 0, none⟩ 1 1 [.int .i64 ((k : Int)), .int .i64 ((j : Int)), .int .i64 ((m : Int))] rfl rfl (cells_new _ _ _) (by simp [Value.oneCell']) (by unfold maxLen; omega) (by omega) (by simp; omega) ?_; intro v2 w2 hown2 hg2 _); have HO2 := Lib.hid hown2; have HB3 : Hid (Below (W).heap.size (W) w2) := (HB2.out.alloc HB2.out.size _).grown hg2 (by simp; omega) (own_block HO.out); clear hown2 hg2 hbw_
                go_wp2
                go_roundw
                case rel => exact ⟨m + 1, by omega, by omega, by go_num, HB3.out, by rw [HN.out, if_pos ⟨by omega, hpk⟩, ← List.append_assoc]; exact OB.snoc (b := ((k : Int), (j : Int), (m : Int))) HO2.out⟩
                case measure => simp [intOf]; omega
            · obtain rfl : m = n := by omega
              go_wp2
              go_roundw
              case rel => exact ⟨j + 1, by omega, by omega, by go_num, HC.out.1, by rw [bsT, if_pos (by omega), ← List.append_assoc]; exact HC.out.2⟩
              case measure => simp [intOf]; omega
        · obtain rfl : j = n := by omega
          go_wp2
          go_roundw
          case rel => exact ⟨k + 1, by omega, by go_num, HC.out.1, by rw [asT]; exact HC.out.2⟩
          case measure => simp [intOf]; omega
    · obtain rfl : k = n := by omega
      go_wp2
      go_ret
      exact ⟨u3, rfl, by rw [hp]; exact HC.out.2.base HW.out.size, below_up HW.out HC.out.1⟩

end Go.Proofs.Ytbiepcafnhhfgaa
