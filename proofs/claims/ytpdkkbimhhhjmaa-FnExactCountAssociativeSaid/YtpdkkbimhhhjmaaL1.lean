/- Contracts of the law's own small functions: toBlock, toBlockS, toSystem, szBlockS, szSystem, eqBlockS, eqSystem; conditions: stated in each. -/
import Derived.Test.YtpdkkbimhhhjmaaW1
import Derived.Test.YtpdkkbimhhhjmaaL0
namespace Go.Proofs.Ytpdkkbimhhhjmaa
open Go.RowKit
set_option maxHeartbeats 400000
set_option linter.unusedSimpArgs false
set_option linter.unusedVariables false

theorem toBlock_any (b : Blk) (w : World) :
    Calls Try.prog 105 #[.agg #[.int .i64 b.1, .int .i64 b.2.1, .int .i64 b.2.2]] w fun e w' => e = .returned (.agg #[.int .i64 b.1, .int .i64 b.2.1, .int .i64 b.2.2]) ∧ Below w.heap.size w w' := by
  obtain ⟨p, q, r⟩ := b
  dsimp only
  go_enter Try.func105, Try.ntmps105
  go_wp2
  refine wp_loop_rounds 4 ?_
  rw [rounds_succ]; go_wp2
  rw [rounds_succ]; go_wp2
  rw [rounds_succ]; go_wp2
  rw [rounds_succ]; go_wp2
  go_returns
  exact ⟨rfl, by go_grown⟩

theorem infoBlk : (Try.prog.info? 72).map (fun i => (i.zero, i.size, i.bytes)) = some (some (.agg #[.int .i64 0, .int .i64 0, .int .i64 0]), 3, 24) := by kernel_rfl

theorem toBlockS_any (A : Option Addr) (c : Nat) (xs : List Blk) (w : World) (hA : Bl w A xs) (hl : xs.length ≤ 1048576) :
    Calls Try.prog 54 #[.slice A xs.length c] w fun e w' => ∃ g, e = .returned (.slice (some ⟨g, 0, none⟩) xs.length xs.length) ∧ (∃ cur, Row w' g 72 cur ∧ cur.size = xs.length * 3 ∧ ∀ k, k < xs.length → At3 cur k (nth xs k)) ∧ w.heap.size ≤ g ∧ Below w.heap.size w w' := by
  obtain ⟨i0, hi, hz0, hz1, hz2⟩ := info_parts infoBlk
  have HA := Lib.hid hA; clear hA
  go_enter Try.func54, Try.ntmps54
  go_wp2_with (at_make; refine wpList_make_full _ rfl _ _ 28 rfl w.heap.size 72 i0 _ 3 Try.underlying28 hi hz0 hz1 .i64 .i64 _ _ xs.length rfl rfl rfl rfl (by rw [hz2]; omega) (by unfold maxLen; omega) (Nat.le_refl _) ?_; intro w0 hown0 hgrow0)
  obtain ⟨cur0, hR0, hcs0⟩ := Row.own hown0
  have hB0 : Below w.heap.size w w0 := below_grown (Below.refl _ _) hgrow0 (fun k hk => by cases hk)
  have HR0 := Lib.hid hR0; have HB0 := Lib.hid hB0; have HS := Lib.hid hcs0
  clear hown0 hgrow0 hR0 hB0 hcs0 hi hz0 hz1 hz2
  go_loopw [4] (fun i wr => ∃ k : Nat, k ≤ xs.length ∧ i = .int .i64 k ∧ Hid (Below w.heap.size w wr ∧ ∃ cur, Row wr w.heap.size 72 cur ∧ cur.size = xs.length * 3 ∧ ∀ j, j < k → At3 cur j (nth xs j))) (fun i _ => xs.length - (intOf i).toNat)
  case atStart => exact ⟨0, by omega, rfl, HB0.out, cur0, HR0.out, HS.out, fun j hj => by omega⟩
  case round =>
    obtain ⟨k, hk, rfl, HC⟩ := hrel
    by_cases hlt : k < xs.length
    · obtain ⟨b1, o1, hA1, hb1, p0, p1, p2⟩ := (HA.out.below HC.out.1).at_ hlt
      subst hA1
      obtain ⟨hb, cur, hR, hcs, hat⟩ := HC.out
      have HB := Lib.hid hb; have HR := Lib.hid hR; have HCS := Lib.hid hcs; have HAT := Lib.hid hat
      clear hb hR hcs hat HC
      go_wp2_with fail
      refine (toBlock_any (nth xs k) _).mono ?_
      rintro e w1 ⟨rfl, hb2⟩
      have HR1 := Lib.hid (HR.out.below hb2)
      have HB1 := Lib.hid (below_up HB.out hb2)
      clear hb2 HR HB
      have hcs := HCS.out
      obtain ⟨u0, q0⟩ := HR1.out.cellAt (i := k * 3) (by omega)
      obtain ⟨u1, q1⟩ := HR1.out.cellAt (i := k * 3 + 1) (by omega)
      obtain ⟨u2, q2⟩ := HR1.out.cellAt (i := k * 3 + 2) (by omega)
      have f0 := HR1.out.frozen (k * 3)
      have f1 := HR1.out.frozen (k * 3 + 1)
      have f2 := HR1.out.frozen (k * 3 + 2)
      clear hcs
      go_wp2
      go_roundw
      case rel =>
        refine ⟨k + 1, by omega, by go_num, ((HB1.out.setCell (Nat.le_refl _) _).setCell (Nat.le_refl _) _).setCell (Nat.le_refl _) _, _, ((HR1.out.set _ _).set _ _).set _ _, by simpa using HCS.out, fun j hj => ?_⟩
        by_cases hjk : j = k
        · subst hjk
          exact At3.new (by have := HCS.out; omega) _
        · exact (HAT.out j (by omega)).set3 hjk _ _ _
      case measure => simp [intOf]; omega
    · obtain rfl : k = xs.length := by omega
      go_wp2
      go_ret
      obtain ⟨hb, cur, hR, hcs, hat⟩ := HC.out
      exact ⟨w.heap.size, rfl, ⟨cur, hR, hcs, hat⟩, Nat.le_refl _, hb⟩

theorem toSystem_row (v : Int) (A : Option Addr) (c : Nat) (xs : List Blk) (w : World) (hA : Bl w A xs) (hl : xs.length ≤ 1048576) :
    Calls Try.prog 17 #[.agg #[.int .i64 v, .slice A xs.length c]] w fun e w' => ∃ g, e = .returned (.agg #[.int .i64 v, .slice (some ⟨g, 0, none⟩) xs.length xs.length]) ∧ (∃ cur, Row w' g 72 cur ∧ cur.size = xs.length * 3 ∧ ∀ k, k < xs.length → At3 cur k (nth xs k)) ∧ w.heap.size ≤ g ∧ Below w.heap.size w w' := by
  have HA := Lib.hid hA; clear hA
  go_enter Try.func17, Try.ntmps17
  go_wp2_with fail
  refine (toBlockS_any A c xs _ (HA.out.below (by go_grown)) hl).mono ?_
  rintro e w1 ⟨g, rfl, ⟨cur, hR, hcs, hat⟩, hle, hb⟩
  have hR0 : Row w1 (w.heap.size + 1) 30 #[.int .i64 0, .slice none 0 0] := by
    have h0 := Row.new (w.alloc (.cells #[.int .i64 v, .slice A xs.length c] 24)) 30 #[.int .i64 0, .slice none 0 0]
    rw [World.size_alloc] at h0
    exact (h0.below (below_alloc _ _)).below hb
  obtain ⟨hc1, hf1⟩ := old_cells hb
  have hsz : w.heap.size + 3 ≤ w1.heap.size := by have := hb.size; simp at this; omega
  have HBL := Lib.hid hR; have HCS := Lib.hid hcs; have HAT := Lib.hid hat
  have HB := Lib.hid hb
  have HR0 := Lib.hid hR0
  have hg3 : w.heap.size + 3 ≤ g := by simpa using hle
  clear hR hcs hat hb hle hR0
  go_wp2
  have hR3 : Row (((w1.setCell ⟨w.heap.size + 1 + 1, 1, none⟩ (.slice (some ⟨g, 0, none⟩) xs.length xs.length)).setCell ⟨w.heap.size + 1, 0, none⟩ (.int .i64 v)).setCell ⟨w.heap.size + 1, 1, none⟩ (.slice (some ⟨g, 0, none⟩) xs.length xs.length)) (w.heap.size + 1) 30 #[.int .i64 v, .slice (some ⟨g, 0, none⟩) xs.length xs.length] :=
    ((HR0.out.far (by simp) _).set 0 _).set 1 _
  have r0 := hR3.cell 0
  have r1 := hR3.cell 1
  refine bodyPost_ret (v := .agg #[.int .i64 v, .slice (some ⟨g, 0, none⟩) xs.length xs.length]) (by simp [results, Try.results17, go_sem, r0, r1]) rfl ⟨g, rfl, ?_, by omega, ?_⟩
  · exact ⟨cur, ((HBL.out.far (by simp; omega) _).far (by simp; omega) _).far (by simp; omega) _, HCS.out, HAT.out⟩
  · refine Below.setCell (Below.setCell (Below.setCell (below_up ?_ HB.out) ?_ _) ?_ _) ?_ _
    · go_grown
    all_goals simp
    all_goals omega

theorem toSystem_any (v : Int) (A : Option Addr) (c : Nat) (xs : List Blk) (w : World) (hA : Bl w A xs) (hl : xs.length ≤ 1048576) :
    Calls Try.prog 17 #[.agg #[.int .i64 v, .slice A xs.length c]] w fun e w' => ∃ g, e = .returned (.agg #[.int .i64 v, .slice (some ⟨g, 0, none⟩) xs.length xs.length]) ∧ Bl w' (some ⟨g, 0, none⟩) xs ∧ w.heap.size ≤ g ∧ Below w.heap.size w w' := by
  refine (toSystem_row v A c xs w hA hl).mono ?_
  rintro e w1 ⟨g, rfl, ⟨cur, hR, _, hat⟩, hg, hb⟩
  exact ⟨g, rfl, Bl.row hR hat, hg, hb⟩

theorem szBlockS_any (A : Option Addr) (n c : Nat) (left : Int) (w : World) (hn : n ≤ 9223372036854775807) (h0 : 0 ≤ left) (h1 : left ≤ 1048576) :
    Calls Try.prog 50 #[.slice A n c, .int .i64 left] w fun e w' => e = .returned (.int .i64 (if left - n < 0 then -1 else left - n)) ∧ w = w' := by
  go_enter Try.func50, Try.ntmps50
  by_cases h : left - n < 0
  · go_wp2
    go_ret
    exact ⟨ret_int (by first | rfl | rw [if_pos h]), rfl⟩
  · go_wp2
    go_ret
    exact ⟨ret_int (by first | rfl | rw [if_neg (by omega)]), rfl⟩

theorem szSystem_any (v : Int) (A : Option Addr) (n c : Nat) (left : Int) (w : World) (hn : n ≤ 9223372036854775807) (h0 : 0 ≤ left) (h1 : left ≤ 1048576) :
    Calls Try.prog 15 #[.agg #[.int .i64 v, .slice A n c], .int .i64 left] w fun e w' => e = .returned (.int .i64 (if left - n < 0 then -1 else left - n)) ∧ Below w.heap.size w w' := by
  go_enter Try.func15, Try.ntmps15
  by_cases h : left - n < 0
  · have hi : (if left - (n : Int) < 0 then (-1 : Int) else left - n) = -1 := if_pos h
    rw [hi]
    have hi' := Lib.hid hi
    clear hi
    go_wp2_with (go_at_call 50; refine (szBlockS_any A n c left _ hn h0 h1).mono ?_; rw [hi'.out]; rintro e w' ⟨rfl, rfl⟩)
    go_ret
    exact ⟨rfl, below_alloc _ _⟩
  · have hi : (if left - (n : Int) < 0 then (-1 : Int) else left - n) = left - n := if_neg h
    rw [hi]
    have hi' := Lib.hid hi
    clear hi
    go_wp2_with (go_at_call 50; refine (szBlockS_any A n c left _ hn h0 h1).mono ?_; rw [hi'.out]; rintro e w' ⟨rfl, rfl⟩)
    go_ret
    exact ⟨rfl, below_alloc _ _⟩

theorem nth_ext {xs ys : List Blk} (hl : xs.length = ys.length) (h : ∀ j, j < xs.length → nth xs j = nth ys j) : xs = ys := by
  apply List.ext_getElem hl
  intro i h1 h2
  have := h i h1
  simpa [nth, h1, h2] using this
noncomputable def eqBls (xs ys : List Blk) : Bool := open Classical in decide (xs = ys)
theorem eqBls_true {xs ys : List Blk} (h : xs = ys) : eqBls xs ys = true := by unfold eqBls; simp [h]
theorem eqBls_false {xs ys : List Blk} (h : ¬ xs = ys) : eqBls xs ys = false := by unfold eqBls; simp [h]

theorem eqBlockS_any (A B : Option Addr) (c d : Nat) (xs ys : List Blk) (w : World) (hA : Bl w A xs) (hB : Bl w B ys) (hla : xs.length ≤ 1073741824) (hlb : ys.length ≤ 1073741824) :
    Calls Try.prog 58 #[.slice A xs.length c, .slice B ys.length d] w fun e w' => e = .returned (.bool (eqBls xs ys)) ∧ Below w.heap.size w w' := by
  have HA := Lib.hid hA; have HB := Lib.hid hB; clear hA hB
  by_cases hl : xs.length = ys.length
  · have HL := Lib.hid hl
    clear hl
    have hne : ((xs.length : Int) != (ys.length : Int)) = false := by simp [HL.out]
    go_enter Try.func58, Try.ntmps58
    go_wp2
    go_loopw [5] (fun i wr => ∃ k : Nat, k ≤ xs.length ∧ i = .int .i64 k ∧ Below w.heap.size w wr ∧ Hid (∀ j, j < k → nth xs j = nth ys j)) (fun i _ => xs.length - (intOf i).toNat)
    case atStart => exact ⟨0, by omega, rfl, Below.refl _ _, fun j hj => by omega⟩
    case round =>
      obtain ⟨k, hk, rfl, hb, HJ⟩ := hrel
      by_cases hlt : k < xs.length
      · have hltb : k < ys.length := by rw [← HL.out]; exact hlt
        obtain ⟨b1, o1, hA1, hb1, p0, p1, p2⟩ := (HA.out.below hb).at_ hlt
        subst hA1
        obtain ⟨b2, o2, hA2, hb2, q0, q1, q2⟩ := (HB.out.below hb).at_ hltb
        subst hA2
        by_cases he : eqB (nth xs k) (nth ys k) = true
        · go_wp2
          refine wp_region_ge_lit (by kernel_rfl) (by kernel_rfl) ?_; (repeat (go_big_quiet_step ((go_at_call 111; exact ge_call (eqBlock_any (nth xs k) (nth ys k) _))))); refine wpQuiet_nil ?_
          rintro w1 ⟨x, rfl⟩
          go_wp2
          go_roundw
          case rel =>
            refine ⟨k + 1, by omega, by go_num, below_up hb (ge_below _ _), fun j hj => ?_⟩
            by_cases hjk : j < k
            · exact HJ.out j hjk
            · obtain rfl : j = k := by omega
              simpa [eqB] using he
          case measure => simp [intOf]; omega
        · have he' : eqB (nth xs k) (nth ys k) = false := by simpa using he
          clear he
          go_wp2
          refine wp_region_ge_lit (by kernel_rfl) (by kernel_rfl) ?_; (repeat (go_big_quiet_step ((go_at_call 111; exact ge_call (eqBlock_any (nth xs k) (nth ys k) _))))); refine wpQuiet_nil ?_
          rintro w1 ⟨x, rfl⟩
          go_wp2
          go_ret
          exact ⟨ret_bool (eqBls_false fun h => by rw [h] at he'; simp [eqB] at he').symm, below_up hb (ge_below _ _)⟩
      · obtain rfl : k = xs.length := by omega
        go_wp2
        go_ret
        exact ⟨ret_bool (eqBls_true (nth_ext HL.out HJ.out)).symm, hb⟩
  · have hne : ((xs.length : Int) != (ys.length : Int)) = true := by rw [bne_iff_ne]; omega
    have HN := Lib.hid hl
    clear hl
    go_enter Try.func58, Try.ntmps58
    go_wp2
    go_ret
    exact ⟨ret_bool (eqBls_false fun h => HN.out (by rw [h])).symm, Below.refl _ _⟩

noncomputable def eqSys (v : Int) (xs : List Blk) (u : Int) (ys : List Blk) : Bool := open Classical in decide (v = u ∧ xs = ys)
theorem eqSys_true {v : Int} {xs : List Blk} {u : Int} {ys : List Blk} (h : v = u ∧ xs = ys) : eqSys v xs u ys = true := by unfold eqSys; simp [h]
theorem eqSys_false {v : Int} {xs : List Blk} {u : Int} {ys : List Blk} (h : ¬ (v = u ∧ xs = ys)) : eqSys v xs u ys = false := by unfold eqSys; simp [h]

theorem eqSystem_any (v u : Int) (A B : Option Addr) (c d : Nat) (xs ys : List Blk) (w : World) (hA : Bl w A xs) (hB : Bl w B ys) (hla : xs.length ≤ 1073741824) (hlb : ys.length ≤ 1073741824) :
    Calls Try.prog 19 #[.agg #[.int .i64 v, .slice A xs.length c], .agg #[.int .i64 u, .slice B ys.length d]] w fun e w' => e = .returned (.bool (eqSys v xs u ys)) ∧ Below w.heap.size w w' := by
  have HA := Lib.hid hA; have HB := Lib.hid hB; clear hA hB
  by_cases hv : v = u
  · subst hv
    by_cases he : eqBls xs ys = true
    all_goals
      go_enter Try.func19, Try.ntmps19
      go_wp2_with (go_at_call 58; refine (eqBlockS_any A B c d xs ys _ (HA.out.below (by go_grown)) (HB.out.below (by go_grown)) hla hlb).mono ?_; rintro e w' ⟨rfl, hb⟩)
      go_ret
    · refine ⟨ret_bool (eqSys_true ⟨rfl, ?_⟩).symm, below_up (by go_grown) hb⟩
      unfold eqBls at he; simpa using he
    · refine ⟨ret_bool (eqSys_false fun h => he (eqBls_true h.2)).symm, below_up (by go_grown) hb⟩
  · have hne : (v != u) = true := by simpa using hv
    go_enter Try.func19, Try.ntmps19
    go_wp2
    go_ret
    exact ⟨ret_bool (eqSys_false fun h => hv h.1).symm, by go_grown⟩

end Go.Proofs.Ytpdkkbimhhhjmaa
