/- Plain laws and contracts, part 7; conditions: stated in each. -/
import Derived.ChangeKeysEq
import Derived.Deep.RegionHeld3
import Derived.Test.YtbknpflbafjblaaB1
import Derived.Test.YtbknpflbafjblaaB3
set_option linter.unusedSimpArgs false
set_option linter.unusedVariables false
/- Contracts of closures over blocks; conditions: stated in each. -/
namespace Go.Proofs.Ytbknpflbafjblaa
open Go.RowKit
set_option maxHeartbeats 400000
set_option maxRecDepth 100000
set_option linter.unusedSimpArgs false
set_option linter.unusedVariables false

def awayP (a : Blk) (c : Blk) : Bool := !eqB c a && meetB c a

theorem part3 (x y z : Value) : (∀ w, (part 2 #[x, y, z] (0 * 1)).run Try.prog w = .ok x w) ∧ (∀ w, (part 2 #[x, y, z] (1 * 1)).run Try.prog w = .ok y w) ∧ (∀ w, (part 2 #[x, y, z] (2 * 1)).run Try.prog w = .ok z w) :=
  ⟨fun _ => by kernel_rfl, fun _ => by kernel_rfl, fun _ => by kernel_rfl⟩
/-- '==' of two blocks. -/
@[go_sem] theorem run_eqB (a0 a1 a2 c0 c1 c2 : Int) (w : World) : (Op.equalIn 10000 99 (.agg #[.int .i64 c0, .int .i64 c1, .int .i64 c2]) (.agg #[.int .i64 a0, .int .i64 a1, .int .i64 a2])).run Try.prog w = .ok (eqB (c0, c1, c2) (a0, a1, a2)) w := by
  have h1 : eqB (c0, c1, c2) (a0, a1, a2) = (if (c0 == a0) = true then (if (c1 == a1) = true then (c2 == a2) else false) else false) := by
    unfold eqB; rw [Bool.eq_iff_iff]; simp only [Prod.mk.injEq, beq_iff_eq, decide_eq_true_eq]; (repeat' split) <;> simp_all
  obtain ⟨i, hi, _⟩ := info_parts infoInt'
  have hc : Try.prog.cellsOf 2 = 1 := by kernel_rfl
  rw [h1, run_equalIn_array (P := Try.prog) w 9999 _ _ Try.underlying99 hi, hc]
  obtain ⟨p0, p1, p2⟩ := part3 (.int .i64 c0) (.int .i64 c1) (.int .i64 c2)
  obtain ⟨r0, r1, r2⟩ := part3 (.int .i64 a0) (.int .i64 a1) (.int .i64 a2)
  have e0 := fun w a b => run_equalIn_int (P := Try.prog) w 9998 2 .i64 .i64 a b Try.underlying2
  show (Op.eqItems 9999 2 1 _ _ [0, 1, 2]).run Try.prog w = _
  simp only [Op.eqItems, Sem.run_bind, p0, p1, p2, r0, r1, r2, e0, Result.andThen_ok, Sem.run_ite, Sem.run_pure]
  cases (c0 == a0) <;> cases (c1 == a1) <;> cases (c2 == a2) <;> simp

end Go.Proofs.Ytbknpflbafjblaa

/- Plain laws of blocks that two lists have in common. Conditions: none. -/
namespace Go.Proofs.Ytbknpflbafjblaa

noncomputable def memL (xs : List Blk) (b : Blk) : Bool := open Classical in decide (∃ k, k < xs.length ∧ nth xs k = b)
theorem memL_true {xs : List Blk} {b : Blk} {k : Nat} (hk : k < xs.length) (h : nth xs k = b) : memL xs b = true := by unfold memL; simp; exact ⟨k, hk, h⟩
theorem memL_false {xs : List Blk} {b : Blk} (h : ∀ k, k < xs.length → nth xs k ≠ b) : memL xs b = false := by unfold memL; simp; exact h
/-- the blocks of the first k of xs that are in ys -/
noncomputable def comL (xs ys : List Blk) : Nat → List Blk
  | 0 => []
  | k + 1 => comL xs ys k ++ (if memL ys (nth xs k) = true then [nth xs k] else [])
theorem comL_len (xs ys : List Blk) (k : Nat) : (comL xs ys k).length ≤ k := by
  induction k with
  | zero => simp [comL]
  | succ k ih => simp only [comL]; split <;> simp <;> omega

end Go.Proofs.Ytbknpflbafjblaa

/- Contracts of membership of blocks and of common blocks; conditions: stated in each. -/
namespace Go.Proofs.Ytbknpflbafjblaa
open Go.RowKit
set_option maxHeartbeats 400000
set_option maxRecDepth 100000
set_option linter.unusedSimpArgs false
set_option linter.unusedVariables false

theorem l04Member_any (A : Option Addr) (c : Nat) (xs : List Blk) (b : Blk) (w : World) (hA : Bl w A xs) (hl : xs.length ≤ 1048576) :
    Calls Try.prog 112 #[.slice A xs.length c, .agg #[.int .i64 b.1, .int .i64 b.2.1, .int .i64 b.2.2]] w fun e w' => e = .returned (.bool (memL xs b)) ∧ Below w.heap.size w w' := by
  have HX := Lib.hid (Box.new w b 99)
  have HW := Lib.hid (below_alloc w (.cells #[.int .i64 b.1, .int .i64 b.2.1, .int .i64 b.2.2] 99))
  have HA := Lib.hid (hA.below HW.out)
  clear hA
  go_enter Try.func112, Try.ntmps112
  go_wp2
  generalize w.alloc _ = W at *
  go_loopw [5] (fun i wr => ∃ k : Nat, k ≤ xs.length ∧ i = .int .i64 k ∧ Below W.heap.size W wr ∧ Hid (∀ i, i < k → nth xs i ≠ b)) (fun i _ => xs.length - (intOf i).toNat)
  case atStart => exact ⟨0, by omega, rfl, Below.refl _ _, fun i hi => by omega⟩
  case round =>
    obtain ⟨k, hk, rfl, hb, HC⟩ := hrel
    obtain ⟨x0, x1, x2⟩ := (HX.out.below hb).three
    have hsz2 := (HX.out.below hb).1
    by_cases hlt : k < xs.length
    · obtain ⟨b1, o1, hA1, hb1, p0, p1, p2⟩ := (HA.out.below hb).at_ hlt
      subst hA1
      have HE := Lib.hid (eqB_iff (a := nth xs k) (b := b))
      cases hq : eqB (nth xs k) b
      · go_wp2
        go_quiet (fail)
        go_wp2
        go_roundw
        case rel =>
          refine ⟨k + 1, by omega, by go_num, below_drewN hb _, fun i hi => ?_⟩
          by_cases hij : i < k
          · exact HC.out i hij
          · obtain rfl : i = k := by omega
            intro h; rw [HE.out.2 h] at hq; cases hq
        case measure => simp [intOf]; omega
      · go_wp2
        go_quiet (fail)
        go_wp2
        go_ret
        exact ⟨ret_bool (memL_true hlt (HE.out.1 hq)).symm, below_drewN (below_up HW.out hb) _⟩
    · obtain rfl : k = xs.length := by omega
      go_wp2
      go_ret
      exact ⟨ret_bool (memL_false HC.out).symm, below_up HW.out hb⟩

theorem indexB_any (A : Option Addr) (c : Nat) (xs : List Blk) (b : Blk) (w : World) (hA : Bl w A xs) (hl : xs.length ≤ 1048576) :
    Calls Try.prog 153 #[.slice A xs.length c, .agg #[.int .i64 b.1, .int .i64 b.2.1, .int .i64 b.2.2]] w fun e w' => ∃ r : Int, e = .returned (.int .i64 r) ∧ (decide (r ≥ 0) = memL xs b) ∧ Below w.heap.size w w' := by
  have HX := Lib.hid (Box.new w b 99)
  have HW := Lib.hid (below_alloc w (.cells #[.int .i64 b.1, .int .i64 b.2.1, .int .i64 b.2.2] 99))
  have HA := Lib.hid (hA.below HW.out)
  clear hA
  go_enter Try.func153, Try.ntmps153
  go_wp2
  generalize w.alloc _ = W at *
  go_loopw [8] (fun i wr => ∃ k : Nat, k ≤ xs.length ∧ i = .int .i64 k ∧ Below W.heap.size W wr ∧ Hid (∀ i, i < k → nth xs i ≠ b)) (fun i _ => xs.length - (intOf i).toNat)
  case atStart => exact ⟨0, by omega, rfl, Below.refl _ _, fun i hi => by omega⟩
  case round =>
    obtain ⟨k, hk, rfl, hb, HC⟩ := hrel
    obtain ⟨x0, x1, x2⟩ := (HX.out.below hb).three
    have hsz2 := (HX.out.below hb).1
    by_cases hlt : k < xs.length
    · obtain ⟨b1, o1, hA1, hb1, p0, p1, p2⟩ := (HA.out.below hb).at_ hlt
      subst hA1
      have HE := Lib.hid (eqB_iff (a := b) (b := nth xs k))
      cases hq : eqB b (nth xs k)
      · go_wp2
        go_quiet (fail)
        go_wp2
        go_roundw
        case rel =>
          refine ⟨k + 1, by omega, by go_num, below_drewN hb _, fun i hi => ?_⟩
          by_cases hij : i < k
          · exact HC.out i hij
          · obtain rfl : i = k := by omega
            intro h; rw [HE.out.2 h.symm] at hq; cases hq
        case measure => simp [intOf]; omega
      · go_wp2
        go_quiet (fail)
        go_wp2
        go_ret
        exact ⟨(k : Int), rfl, by rw [memL_true hlt (HE.out.1 hq).symm]; simp, below_drewN (below_up HW.out hb) _⟩
    · obtain rfl : k = xs.length := by omega
      go_wp2
      go_ret
      exact ⟨-1, rfl, by rw [memL_false HC.out]; rfl, below_up HW.out hb⟩

theorem containsB_any (A : Option Addr) (c : Nat) (xs : List Blk) (b : Blk) (w : World) (hA : Bl w A xs) (hl : xs.length ≤ 1048576) :
    Calls Try.prog 114 #[.slice A xs.length c, .agg #[.int .i64 b.1, .int .i64 b.2.1, .int .i64 b.2.2]] w fun e w' => e = .returned (.bool (memL xs b)) ∧ Below w.heap.size w w' := by
  have HX := Lib.hid (Box.new w b 99)
  have HW := Lib.hid (below_alloc w (.cells #[.int .i64 b.1, .int .i64 b.2.1, .int .i64 b.2.2] 99))
  have HA := Lib.hid (hA.below HW.out)
  clear hA
  obtain ⟨x0, x1, x2⟩ := HX.out.three
  go_enter Try.func114, Try.ntmps114
  go_wp2_with fail
  refine (indexB_any A c xs b _ HA.out hl).mono ?_
  rintro e w_ ⟨r, rfl, hr, hb⟩
  replace HW := Lib.hid (below_up HW.out hb)
  clear hb
  go_wp2
  go_ret
  exact ⟨ret_bool rfl, HW.out⟩

theorem common_any (A : Option Addr) (c : Nat) (xs : List Blk) (B : Option Addr) (d : Nat) (ys : List Blk) (w : World) (hA : Bl w A xs) (hl : xs.length ≤ 1048576) (hB : Bl w B ys) (hlb : ys.length ≤ 1048576) :
    Calls Try.prog 66 #[.slice A xs.length c, .slice B ys.length d] w fun e w' => ∃ u, e = .returned u ∧ OB w' w.heap.size u (comL xs ys xs.length) ∧ Below w.heap.size w w' := by
  obtain ⟨bi0, hbi, hbi0, hbi1, hbi2⟩ := info_parts infoBlk'
  have HA := Lib.hid hA; have HB := Lib.hid hB; clear hA hB
  go_enter Try.func66, Try.ntmps66
  go_wp2
  go_loopw [5, 10] (fun u i wr => ∃ k : Nat, k ≤ xs.length ∧ i = .int .i64 k ∧ Hid (Below w.heap.size w wr ∧ OB wr w.heap.size u (comL xs ys k))) (fun _ i _ => xs.length - (intOf i).toNat)
  case atStart => exact ⟨0, by omega, rfl, Below.refl _ _, World.ownsRow_nil _ _ _ _⟩
  case round =>
    obtain ⟨k, hk, rfl, HC⟩ := hrel
    by_cases hlt : k < xs.length
    · obtain ⟨b1, o1, hA1, hb1, p0, p1, p2⟩ := (HA.out.below HC.out.1).at_ hlt
      subst hA1
      have HX := Lib.hid (Box.new wr (nth xs k) 99)
      have hal := below_alloc wr (.cells #[.int .i64 (nth xs k).1, .int .i64 (nth xs k).2.1, .int .i64 (nth xs k).2.2] 99)
      have HAL := Lib.hid hal; clear hal
      have hlen := comL_len xs ys k
      go_wp2_with fail
      refine (containsB_any B d ys (nth xs k) _ ((HB.out.below HC.out.1).below HAL.out) hlb).mono ?_
      rintro e w1 ⟨rfl, hb⟩
      obtain ⟨x0, x1, x2⟩ := (HX.out.below hb).three
      have HB2 : Hid (Below w.heap.size w w1) := below_up (below_up HC.out.1 HAL.out) hb
      have HO : Hid (w1.ownsRow w.heap.size 99 3 u5 (comL xs ys k).length (cells3' (comL xs ys k))) := own_below (own_below HC.out.2 HAL.out) hb
      clear hb
      have HN : Hid (comL xs ys (k + 1) = comL xs ys k ++ (if memL ys (nth xs k) = true then [nth xs k] else [])) := rfl
      cases hm : memL ys (nth xs k)
      · go_wp2
        go_roundw
        case rel => exact ⟨k + 1, by omega, by go_num, HB2.out, by rw [HN.out, if_neg (by simp [hm]), List.append_nil]; exact HO.out⟩
        case measure => simp [intOf]; omega
      · have hbw_ := HB2.out.size; go_wp2_with (at_builtin; refine wpList_append_own _ rfl _ _ 28 rfl (w).heap.size 99 bi0 (.agg #[.int .i64 0, .int .i64 0, .int .i64 0]) 3 24 Try.underlying28 hbi hbi0 hbi1 hbi2 rfl (by decide) _ _ _ rfl (HO.out.alloc _) ⟨(w1).heap.size, 0, none⟩ 1 1 [.int .i64 ((nth xs k).1), .int .i64 ((nth xs k).2.1), .int .i64 ((nth xs k).2.2)] rfl rfl (cells_new _ _ _) (by simp [Value.oneCell']) (by unfold maxLen; omega) (by omega) (by simp; omega) ?_; intro v2 w2 hown2 hg2 _); have HO2 := Lib.hid hown2; have HB3 : Hid (Below (w).heap.size (w) w2) := (HB2.out.alloc HB2.out.size _).grown hg2 (by simp; omega) (own_block HO.out); clear hown2 hg2 hbw_
        go_wp2
        go_roundw
        case rel => exact ⟨k + 1, by omega, by go_num, HB3.out, by rw [HN.out, if_pos hm]; exact OB.snoc HO2.out⟩
        case measure => simp [intOf]; omega
    · obtain rfl : k = xs.length := by omega
      go_wp2
      go_ret
      exact ⟨_, rfl, HC.out.2, HC.out.1⟩

end Go.Proofs.Ytbknpflbafjblaa

/- Contracts for IsFamily, of the reference and of the program; conditions: stated in each. -/
namespace Go.Proofs.Ytbknpflbafjblaa
open Go.RowKit
set_option maxHeartbeats 4000000
set_option maxRecDepth 100000
set_option linter.unusedSimpArgs false
set_option linter.unusedVariables false

def nthP (ps : List (Int × List Blk)) (k : Nat) : Int × List Blk := ps.getD k (0, [])
/-- the address leads to systems, two cells each -/
def Sl (w : World) (A : Option Addr) (ps : List (Int × List Blk)) : Prop :=
  ps = [] ∨ ∃ b o, A = some ⟨b, o, none⟩ ∧ b < w.heap.size ∧ ∀ k, k < ps.length → ∃ C c, w.cell? ⟨b, o + k * 2, none⟩ = some (.int .i64 (nthP ps k).1) ∧ w.cell? ⟨b, o + k * 2 + 1, none⟩ = some (.slice C (nthP ps k).2.length c) ∧ Bl w C (nthP ps k).2
theorem Sl.at_ {w : World} {A : Option Addr} {ps : List (Int × List Blk)} (h : Sl w A ps) {k : Nat} (hk : k < ps.length) :
    ∃ b o C c, A = some ⟨b, o, none⟩ ∧ b < w.heap.size ∧ w.cell? ⟨b, o + k * 2, none⟩ = some (.int .i64 (nthP ps k).1) ∧ w.cell? ⟨b, o + k * 2 + 1, none⟩ = some (.slice C (nthP ps k).2.length c) ∧ Bl w C (nthP ps k).2 := by
  rcases h with rfl | ⟨b, o, rfl, hb, hc⟩
  · simp at hk
  · obtain ⟨C, c, h1, h2, h3⟩ := hc k hk
    exact ⟨b, o, C, c, rfl, hb, h1, h2, h3⟩
theorem Sl.as {w : World} {A : Option Addr} {ps : List (Int × List Blk)} (h : Sl w A ps) {k : Nat} (hk : k < ps.length) :
    ∃ b o C c v zs, A = some ⟨b, o, none⟩ ∧ b < w.heap.size ∧ nthP ps k = (v, zs) ∧ w.cell? ⟨b, o + k * 2, none⟩ = some (.int .i64 v) ∧ w.cell? ⟨b, o + k * 2 + 1, none⟩ = some (.slice C zs.length c) ∧ Bl w C zs := by
  obtain ⟨b, o, C, c, h0, h1, h2, h3, h4⟩ := h.at_ hk
  exact ⟨b, o, C, c, _, _, h0, h1, rfl, h2, h3, h4⟩
theorem Sl.below {w w' : World} {A : Option Addr} {ps : List (Int × List Blk)} (h : Sl w A ps) (hb : Below w.heap.size w w') : Sl w' A ps := by
  rcases h with rfl | ⟨b, o, rfl, hlt, hc⟩
  · exact .inl rfl
  · refine .inr ⟨b, o, rfl, Nat.lt_of_lt_of_le hlt hb.size, fun k hk => ?_⟩
    obtain ⟨C, c, h0, h1, h2⟩ := hc k hk
    exact ⟨C, c, (hb.cell hlt).trans h0, (hb.cell hlt).trans h1, h2.below hb⟩
/-- how many blocks two systems have in common -/
noncomputable def comC (xs ys : List Blk) (k : Nat) : Nat := cntF (fun i => memL ys (nth xs i)) k
theorem comL_cnt (xs ys : List Blk) : ∀ k, (comL xs ys k).length = comC xs ys k := by
  intro k
  induction k with
  | zero => rfl
  | succ k ih =>
    unfold comC at *
    rw [comL, List.length_append, ih, cntF]
    cases memL ys (nth xs k) <;> simp
def famP (ps : List (Int × List Blk)) (n : Nat) : Prop := ∀ i, i < n → ((nthP ps i).1 = 9 ∧ fullB (nthP ps i).1 (nthP ps i).2 = true) ∧ ∀ k, k < i → comC (nthP ps i).2 (nthP ps k).2 (nthP ps i).2.length = 0
noncomputable def famB (ps : List (Int × List Blk)) : Bool := open Classical in decide (famP ps ps.length)
theorem famB_true {ps : List (Int × List Blk)} (h : famP ps ps.length) : famB ps = true := by unfold famB; simpa using h
theorem famB_false {ps : List (Int × List Blk)} (h : ¬ famP ps ps.length) : famB ps = false := by unfold famB; simpa using h
noncomputable def sysAll (ps : List (Int × List Blk)) : Bool := open Classical in decide (∀ k, k < ps.length → isSysB (nthP ps k).1 (nthP ps k).2 = true)
theorem sysAll_iff {ps : List (Int × List Blk)} : sysAll ps = true ↔ ∀ k, k < ps.length → isSysB (nthP ps k).1 (nthP ps k).2 = true := by unfold sysAll; simp
theorem sysAll_false {ps : List (Int × List Blk)} {k : Nat} (hk : k < ps.length) (h : isSysB (nthP ps k).1 (nthP ps k).2 = false) : sysAll ps = false := by
  rw [← Bool.not_eq_true, sysAll_iff]; intro h2; rw [h2 k hk] at h; cases h
noncomputable def famR (ps : List (Int × List Blk)) : Bool × Int := if sysAll ps = true then (if ps.length ≤ 7 then (famB ps, 0) else (false, 2)) else (false, 1)

theorem member_is {ys : List Blk} {b : Blk} {r : Bool} (h : memL ys b = r) (A : Option Addr) (c : Nat) (w : World) (hA : Bl w A ys) (hl : ys.length ≤ 1048576) :
    Calls Try.prog 112 #[.slice A ys.length c, .agg #[.int .i64 b.1, .int .i64 b.2.1, .int .i64 b.2.2]] w fun e w' => e = .returned (.bool r) ∧ Below w.heap.size w w' := h ▸ l04Member_any A c ys b w hA hl
theorem l10Common_any (v : Int) (A : Option Addr) (c : Nat) (xs : List Blk) (u : Int) (B : Option Addr) (d : Nat) (ys : List Blk) (w : World) (hA : Bl w A xs) (hl : xs.length ≤ 1048576) (hB : Bl w B ys) (hlb : ys.length ≤ 1048576) :
    Calls Try.prog 62 #[.agg #[.int .i64 v, .slice A xs.length c], .agg #[.int .i64 u, .slice B ys.length d]] w fun e w' => e = .returned (.int .i64 (comC xs ys xs.length : Nat)) ∧ Below w.heap.size w w' := by
  have HW := Lib.hid (below_up (below_alloc w (.cells #[.int .i64 v, .slice A xs.length c] 30)) (below_alloc _ (.cells #[.int .i64 u, .slice B ys.length d] 30))); have HA := Lib.hid (hA.below HW.out); have HB := Lib.hid (hB.below HW.out); clear hA hB; have HR := Lib.hid ((Row.box w 30 (.int .i64 v) (.slice A xs.length c)).below (below_alloc _ (.cells #[.int .i64 u, .slice B ys.length d] 30))); have HQ := Lib.hid (Row.box (w.alloc (.cells #[.int .i64 v, .slice A xs.length c] 30)) 30 (.int .i64 u) (.slice B ys.length d)); rw [World.size_alloc] at HQ; replace HW : Hid (Since w _) := HW; go_enter Try.func62, Try.ntmps62; go_wp2_with fail
  go_wp2
  generalize (w.alloc _).alloc _ = wo at *
  go_loopw [5, 6] (fun q i wr => ∃ k N : Nat, k ≤ xs.length ∧ N ≤ k ∧ i = .int .i64 k ∧ q = .int .i64 N ∧ Hid (Below wo.heap.size wo wr ∧ N = comC xs ys k)) (fun _ i _ => xs.length - (intOf i).toNat)
  case atStart => exact ⟨0, 0, by omega, by omega, rfl, rfl, Below.refl _ _, rfl⟩
  case round =>
    obtain ⟨k, N, hk, hN, rfl, rfl, HC⟩ := hrel
    obtain ⟨c0, c1⟩ := (HR.out.below HC.out.1).c2
    obtain ⟨d0, d1⟩ := (HQ.out.below HC.out.1).c2
    have hsz := (HR.out.below HC.out.1).lt
    have hsq := (HQ.out.below HC.out.1).lt
    by_cases hlt : k < xs.length
    · obtain ⟨b1, o1, hA1, hb1, p0, p1, p2⟩ := (HA.out.below HC.out.1).at_ hlt
      subst hA1
      have HST : Hid (comC xs ys (k + 1) = comC xs ys k + (if memL ys (nth xs k) = true then 1 else 0)) := rfl
      have HBw := Lib.hid (HB.out.below HC.out.1)
      cases hm : memL ys (nth xs k)
      · go_wp2
        refine wp_region_ge_lit (by kernel_rfl) (by kernel_rfl) ?_; (repeat (go_big_quiet_step ((go_at_call 112; exact ge_call (member_is hm B d _ (HBw.out.below (ge_below _ _)) hlb))))); refine wpQuiet_nil ?_
        rintro w1 ⟨x, rfl⟩
        go_wp2
        go_roundw
        case rel => exact ⟨k + 1, N, by omega, by omega, by go_num, rfl, below_up HC.out.1 (ge_below _ _), by rw [HST.out, hm, HC.out.2]; rfl⟩
        case measure => simp [intOf]; omega
      · go_wp2
        refine wp_region_ge_lit (by kernel_rfl) (by kernel_rfl) ?_; (repeat (go_big_quiet_step ((go_at_call 112; exact ge_call (member_is hm B d _ (HBw.out.below (ge_below _ _)) hlb))))); refine wpQuiet_nil ?_
        rintro w1 ⟨x, rfl⟩
        go_wp2
        go_roundw
        case rel => exact ⟨k + 1, N + 1, by omega, by omega, by go_num, by go_num, below_up HC.out.1 (ge_below _ _), by rw [HST.out, hm, HC.out.2]; rfl⟩
        case measure => simp [intOf]; omega
    · obtain rfl : k = xs.length := by omega
      go_wp2
      go_ret
      exact ⟨ret_int (by rw [HC.out.2]), HW.out.below HC.out.1⟩

theorem com_is {xs ys : List Blk} {N : Nat} (h : comC xs ys xs.length = N) (v u : Int) (A : Option Addr) (c : Nat) (B : Option Addr) (d : Nat) (w : World) (hA : Bl w A xs) (hl : xs.length ≤ 1048576) (hB : Bl w B ys) (hlb : ys.length ≤ 1048576) :
    Calls Try.prog 62 #[.agg #[.int .i64 v, .slice A xs.length c], .agg #[.int .i64 u, .slice B ys.length d]] w fun e w' => e = .returned (.int .i64 (N : Int)) ∧ Below w.heap.size w w' := h ▸ l10Common_any v A c xs u B d ys w hA hl hB hlb
theorem specFam_any (A : Option Addr) (c : Nat) (ps : List (Int × List Blk)) (w : World) (hA : Sl w A ps) (hl : ps.length ≤ 1048576) (hx : ∀ k, k < ps.length → (nthP ps k).2.length ≤ 1048576) :
    Calls Try.prog 21 #[.slice A ps.length c] w fun e w' => e = .returned (.tuple #[.bool (famR ps).1, .int .i64 (famR ps).2]) ∧ Below w.heap.size w w' := by
  have HA := Lib.hid hA; have HX := Lib.hid hx
  have HN : Hid (famR ps = if sysAll ps = true then (if ps.length ≤ 7 then (famB ps, 0) else (false, 2)) else (false, 1)) := rfl
  generalize famR ps = R at *
  clear hA hx
  go_enter Try.func21, Try.ntmps21
  go_wp2
  go_loopw [4] (fun i wr => ∃ k : Nat, k ≤ ps.length ∧ i = .int .i64 k ∧ Hid (Below w.heap.size w wr ∧ ∀ j, j < k → isSysB (nthP ps j).1 (nthP ps j).2 = true)) (fun i _ => ps.length - (intOf i).toNat)
  case atStart => exact ⟨0, by omega, rfl, Below.refl _ _, fun j hj => by omega⟩
  case round =>
    obtain ⟨k, hk, rfl, HC⟩ := hrel
    by_cases hlt : k < ps.length
    · obtain ⟨b1, o1, C, d, hA1, hb1, p0, p1, hB⟩ := (HA.out.below HC.out.1).at_ hlt
      subst hA1
      have HB := Lib.hid hB; clear hB
      go_wp2_with fail
      refine (l01Is_any (nthP ps k).1 C d (nthP ps k).2 _ HB.out (HX.out k hlt)).mono ?_
      cases hs : isSysB (nthP ps k).1 (nthP ps k).2
      · rintro e w1 ⟨rfl, hb⟩
        have HB1 := Lib.hid (below_up HC.out.1 hb); clear hb
        go_wp2
        go_ret2
        exact ⟨by rw [HN.out, if_neg (by rw [sysAll_false hlt hs]; simp)]; rfl, HB1.out⟩
      · rintro e w1 ⟨rfl, hb⟩
        have HB1 := Lib.hid (below_up HC.out.1 hb); clear hb
        go_wp2
        go_roundw
        case rel =>
          refine ⟨k + 1, by omega, by go_num, HB1.out, fun j hj => ?_⟩
          by_cases hjk : j < k
          · exact HC.out.2 j hjk
          · obtain rfl : j = k := by omega
            exact hs
        case measure => simp [intOf]; omega
    · obtain rfl : k = ps.length := by omega
      have HSA : Hid (sysAll ps = true) := sysAll_iff.2 HC.out.2
      have HB0 := Lib.hid HC.out.1
      have HSY := Lib.hid HC.out.2
      by_cases h7 : ps.length ≤ 7
      · have HRR : Hid (R = (famB ps, 0)) := by unfold Hid; rw [HN.out, if_pos HSA.out, if_pos h7]
        go_wp2
        obtain ⟨w0, rfl⟩ : ∃ w0 : World, w0 = wr := ⟨_, rfl⟩
        go_loopw [5] (fun i wr => ∃ k : Nat, k ≤ ps.length ∧ i = .int .i64 k ∧ Hid (Below w.heap.size w wr ∧ famP ps k)) (fun i _ => ps.length - (intOf i).toNat)
        case atStart => exact ⟨0, by omega, rfl, HB0.out, fun j hj => by omega⟩
        case round =>
          obtain ⟨k, hk, rfl, HC⟩ := hrel
          by_cases hlt : k < ps.length
          · obtain ⟨b1, o1, C, d, v, zs, hA1, hb1, hkz, p0, p1, hB⟩ := (HA.out.below HC.out.1).as hlt
            subst hA1
            have HB := Lib.hid hB; have HKZ := Lib.hid hkz; clear hB hkz
            have hvs := (isSysB_iff.1 (HSY.out k hlt)).1
            have hxk := HX.out k hlt
            rw [HKZ.out] at hvs hxk
            simp only at hvs hxk
            by_cases h9 : v = 9
            · subst h9
              clear hvs
              cases hf : fullB 9 zs
              · have HF := Lib.hid hf; clear hf
                go_wp2_with fail
                refine (l01Full_any 9 C d zs _ hxk (by omega)).mono ?_
                rw [HF.out]
                rintro e w1 ⟨rfl, hb⟩
                have HB1 := Lib.hid (below_up HC.out.1 hb); clear hb
                go_wp2
                go_ret2
                refine ⟨?_, HB1.out⟩
                rw [HRR.out, famB_false (fun h => by have := (h k hlt).1.2; rw [HKZ.out, HF.out] at this; cases this)]; rfl
              · have HF := Lib.hid hf; clear hf
                go_wp2_with fail
                refine (l01Full_any 9 C d zs _ hxk (by omega)).mono ?_
                rw [HF.out]
                rintro e w1 ⟨rfl, hb⟩
                have HB1 := Lib.hid (below_up HC.out.1 hb); clear hb
                go_wp2
                go_loopw [6] (fun i wr => ∃ j : Nat, j ≤ k ∧ i = .int .i64 j ∧ Hid (Below w.heap.size w wr ∧ ∀ q, q < j → comC zs (nthP ps q).2 zs.length = 0)) (fun i _ => k - (intOf i).toNat)
                case atStart => exact ⟨0, by omega, rfl, HB1.out, fun q hq => by omega⟩
                case round =>
                  obtain ⟨j, hj, rfl, HD⟩ := hrel
                  clear p0 p1 hb1
                  by_cases hlt2 : j < k
                  · obtain ⟨b2, o2, C2, d2, u, ys, hA2, hb2, hjy, q0, q1, hB2⟩ := (HA.out.below HD.out.1).as (k := j) (by omega)
                    simp only [Option.some.injEq, Addr.mk.injEq] at hA2
                    obtain ⟨rfl, rfl, -⟩ := hA2
                    obtain ⟨b3, o3, C3, d3, v3, zs3, hA3, hb3, hkz3, r0, r1, hB3⟩ := (HA.out.below HD.out.1).as hlt
                    simp only [Option.some.injEq, Addr.mk.injEq] at hA3
                    obtain ⟨rfl, rfl, -⟩ := hA3
                    rw [HKZ.out, Prod.mk.injEq] at hkz3
                    obtain ⟨rfl, rfl⟩ := hkz3
                    have HB2 := Lib.hid hB2; have HB3 := Lib.hid hB3; have HJY := Lib.hid hjy; clear hB2 hB3 hjy hb3
                    have hjl : j < ps.length := by omega
                    have hxj := HX.out j hjl
                    rw [HJY.out] at hxj
                    simp only at hxj
                    have hcl := cntF_le (fun i => memL ys (nth zs i)) zs.length
                    obtain ⟨N, hcc⟩ : ∃ N, comC zs ys zs.length = N := ⟨_, rfl⟩
                    have hNl : N ≤ 1048576 := by rw [← hcc]; unfold comC; omega
                    have HCC := Lib.hid hcc
                    clear hcl hcc
                    have HKEEP := Lib.hid (And.intro r0 (And.intro r1 (And.intro q0 q1)))
                    clear r0 r1 q0 q1
                    by_cases hz : N = 0
                    · subst hz
                      go_wp2
                      go_region_held3 (fun w' => w'.cell? ⟨b1, o1 + k * 2, none⟩ = some (.int .i64 9) ∧ w'.cell? ⟨b1, o1 + k * 2 + 1, none⟩ = some (.slice C3 zs.length d3) ∧ w'.cell? ⟨b1, o1 + j * 2, none⟩ = some (.int .i64 u) ∧ w'.cell? ⟨b1, o1 + j * 2 + 1, none⟩ = some (.slice C2 ys.length d2)) (first | exact HKEEP.out) (first
                        | (go_at_call 62
                           refine (com_is HCC.out 9 u C3 d3 C2 d2 _ (HB3.out.below (below_drew _)) hxk (HB2.out.below (below_drew _)) hxj).mono ?_
                           rintro e w2 ⟨rfl, hb⟩
                           have HBN := Lib.hid (below_up (below_drew _) hb)
                           obtain ⟨k0, k1, k2, k3⟩ := HKEEP.out
                           replace HKEEP := Lib.hid (And.intro ((HBN.out.cell (p := ⟨b1, o1 + k * 2, none⟩) hb2).trans k0) (And.intro ((HBN.out.cell (p := ⟨b1, o1 + k * 2 + 1, none⟩) hb2).trans k1) (And.intro ((HBN.out.cell (p := ⟨b1, o1 + j * 2, none⟩) hb2).trans k2) ((HBN.out.cell (p := ⟨b1, o1 + j * 2 + 1, none⟩) hb2).trans k3))))
                           clear hb k0 k1 k2 k3))
                      go_wp2
                      go_roundw
                      case rel =>
                        refine ⟨j + 1, by omega, by go_num, below_up HD.out.1 HBN.out, fun q hq => ?_⟩
                        by_cases hqj : q < j
                        · exact HD.out.2 q hqj
                        · obtain rfl : q = j := by omega
                          rw [HJY.out]; exact HCC.out
                      case measure => simp [intOf]; omega
                    · have hpos : 0 < N := by omega
                      go_wp2
                      go_region_held3 (fun w' => w'.cell? ⟨b1, o1 + k * 2, none⟩ = some (.int .i64 9) ∧ w'.cell? ⟨b1, o1 + k * 2 + 1, none⟩ = some (.slice C3 zs.length d3) ∧ w'.cell? ⟨b1, o1 + j * 2, none⟩ = some (.int .i64 u) ∧ w'.cell? ⟨b1, o1 + j * 2 + 1, none⟩ = some (.slice C2 ys.length d2)) (first | exact HKEEP.out) (first
                        | (go_at_call 62
                           refine (com_is HCC.out 9 u C3 d3 C2 d2 _ (HB3.out.below (below_drew _)) hxk (HB2.out.below (below_drew _)) hxj).mono ?_
                           rintro e w2 ⟨rfl, hb⟩
                           have HBN := Lib.hid (below_up (below_drew _) hb)
                           obtain ⟨k0, k1, k2, k3⟩ := HKEEP.out
                           replace HKEEP := Lib.hid (And.intro ((HBN.out.cell (p := ⟨b1, o1 + k * 2, none⟩) hb2).trans k0) (And.intro ((HBN.out.cell (p := ⟨b1, o1 + k * 2 + 1, none⟩) hb2).trans k1) (And.intro ((HBN.out.cell (p := ⟨b1, o1 + j * 2, none⟩) hb2).trans k2) ((HBN.out.cell (p := ⟨b1, o1 + j * 2 + 1, none⟩) hb2).trans k3))))
                           clear hb k0 k1 k2 k3))
                      go_wp2
                      go_ret2
                      refine ⟨?_, below_up HD.out.1 HBN.out⟩
                      rw [HRR.out, famB_false (fun h => by have := (h k hlt).2 j hlt2; rw [HJY.out, HKZ.out] at this; exact hz (HCC.out.symm.trans this))]; rfl
                  · obtain rfl : j = k := by omega
                    go_wp2
                    go_roundw
                    case rel =>
                      refine ⟨j + 1, by omega, by go_num, HD.out.1, fun q hq => ?_⟩
                      by_cases hqj : q < j
                      · exact HC.out.2 q hqj
                      · obtain rfl : q = j := by omega
                        rw [HKZ.out]
                        exact ⟨⟨rfl, HF.out⟩, HD.out.2⟩
                    case measure => simp [intOf]; omega
            · have h9' : (v != 9) = true := by simpa using h9
              go_wp2
              go_ret2
              refine ⟨?_, HC.out.1⟩
              rw [HRR.out, famB_false (fun h => h9 (by have := (h k hlt).1.1; rw [HKZ.out] at this; exact this))]; rfl
          · obtain rfl : k = ps.length := by omega
            go_wp2
            go_ret2
            refine ⟨?_, HC.out.1⟩
            rw [HRR.out, famB_true HC.out.2]; rfl
      · have HRR : Hid (R = (false, 2)) := by unfold Hid; rw [HN.out, if_pos HSA.out, if_neg h7]
        go_wp2
        go_ret2
        exact ⟨by rw [HRR.out]; rfl, HB0.out⟩

end Go.Proofs.Ytbknpflbafjblaa

/- Contracts for IsFamily of the program; conditions: stated in each. -/
namespace Go.Proofs.Ytbknpflbafjblaa
open Go.RowKit
set_option maxHeartbeats 4000000
set_option maxRecDepth 100000
set_option linter.unusedSimpArgs false
set_option linter.unusedVariables false

theorem famCl_any (v : Int) (A : Option Addr) (c : Nat) (xs : List Blk) (w : World) (hA : Bl w A xs) (hl : xs.length ≤ 1048576) :
    Calls Try.prog 64 #[.agg #[.int .i64 v, .slice A xs.length c]] w fun e w' => e = .returned (.bool (!isSysB v xs)) ∧ Below w.heap.size w w' := by
  have HA := Lib.hid hA; clear hA; have HR := Lib.hid (Row.box w 30 (.int .i64 v) (.slice A xs.length c)); have HW := Lib.hid (Since.refl w); go_enter Try.func64, Try.ntmps64; go_wp2_with fail; replace HA := Lib.hid (HA.out.below (below_alloc _ (.cells #[.int .i64 v, .slice A xs.length c] 30))); replace HW := Lib.hid (HW.out.below (below_alloc _ (.cells #[.int .i64 v, .slice A xs.length c] 30)))
  refine (IsSystem_any v A c xs _ HA.out hl).mono ?_
  rintro e w_ ⟨rfl, hb⟩
  replace HW := Lib.hid (HW.out.below hb); clear hb
  go_wp2
  go_ret
  exact ⟨rfl, HW.out⟩

theorem famContains_any (A : Option Addr) (c : Nat) (ps : List (Int × List Blk)) (w : World) (hA : Sl w A ps) (hl : ps.length ≤ 1048576) (hx : ∀ k, k < ps.length → (nthP ps k).2.length ≤ 1048576) :
    Calls Try.prog 63 #[.slice A ps.length c, .func (.func 64) #[] #[]] w fun e w' => e = .returned (.bool (!sysAll ps)) ∧ Below w.heap.size w w' := by
  have HA := Lib.hid hA; have HX := Lib.hid hx
  clear hA hx
  have key : Calls Try.prog 113 #[.slice A ps.length c, .func (.func 64) #[] #[]] w fun e w' => ∃ r : Int, e = .returned (.int .i64 r) ∧ decide (r ≥ 0) = !sysAll ps ∧ Below w.heap.size w w' := by
    go_enter Try.func113, Try.ntmps113
    go_wp2
    go_loopw [8] (fun i wr => ∃ k : Nat, k ≤ ps.length ∧ i = .int .i64 k ∧ Hid (Below w.heap.size w wr ∧ ∀ j, j < k → isSysB (nthP ps j).1 (nthP ps j).2 = true)) (fun i _ => ps.length - (intOf i).toNat)
    case atStart => exact ⟨0, by omega, rfl, Below.refl _ _, fun j hj => by omega⟩
    case round =>
      obtain ⟨k, hk, rfl, HC⟩ := hrel
      by_cases hlt : k < ps.length
      · obtain ⟨b1, o1, C, d, hA1, hb1, p0, p1, hB⟩ := (HA.out.below HC.out.1).at_ hlt
        subst hA1
        have HB := Lib.hid hB; clear hB
        go_wp2_with fail
        refine (famCl_any (nthP ps k).1 C d (nthP ps k).2 _ HB.out (HX.out k hlt)).mono ?_
        cases hs : isSysB (nthP ps k).1 (nthP ps k).2
        · rintro e w1 ⟨rfl, hb⟩
          have HB1 := Lib.hid (below_up HC.out.1 hb); clear hb
          go_wp2
          go_ret
          exact ⟨(k : Int), rfl, by rw [sysAll_false hlt hs]; simp, HB1.out⟩
        · rintro e w1 ⟨rfl, hb⟩
          have HB1 := Lib.hid (below_up HC.out.1 hb); clear hb
          go_wp2
          go_roundw
          case rel =>
            refine ⟨k + 1, by omega, by go_num, HB1.out, fun j hj => ?_⟩
            by_cases hjk : j < k
            · exact HC.out.2 j hjk
            · obtain rfl : j = k := by omega
              exact hs
          case measure => simp [intOf]; omega
      · obtain rfl : k = ps.length := by omega
        go_wp2
        go_ret
        exact ⟨-1, rfl, by rw [sysAll_iff.2 HC.out.2]; rfl, HC.out.1⟩
  go_enter Try.func63, Try.ntmps63
  go_wp2_with fail
  refine key.mono ?_
  rintro e w1 ⟨r, rfl, hr, hb⟩
  have HB := Lib.hid hb; clear hb
  go_wp2
  go_ret
  exact ⟨ret_bool rfl, HB.out⟩

theorem implFam_any (A : Option Addr) (c : Nat) (ps : List (Int × List Blk)) (w : World) (hA : Sl w A ps) (hl : ps.length ≤ 1048576) (hx : ∀ k, k < ps.length → (nthP ps k).2.length ≤ 1048576) (hc : ps.length ≤ c) :
    Calls Try.prog 23 #[.slice A ps.length c] w fun e w' => e = .returned (.tuple #[.bool (famR ps).1, .int .i64 (famR ps).2]) ∧ Below w.heap.size w w' := by
  have HA := Lib.hid hA; have HX := Lib.hid hx
  have HN : Hid (famR ps = if sysAll ps = true then (if ps.length ≤ 7 then (famB ps, 0) else (false, 2)) else (false, 1)) := rfl
  generalize famR ps = R at *
  clear hA hx
  cases hsa : sysAll ps
  · have HRR : Hid (R = (false, 1)) := by unfold Hid; rw [HN.out, hsa]; rfl
    go_enter Try.func23, Try.ntmps23
    go_wp2_with fail
    refine (famContains_any A c ps _ HA.out hl HX.out).mono ?_
    rw [hsa]
    rintro e w1 ⟨rfl, hb⟩
    have HB1 := Lib.hid hb; clear hb
    go_wp2
    go_ret2
    exact ⟨by rw [HRR.out]; rfl, HB1.out⟩
  · have HSY := Lib.hid (sysAll_iff.1 hsa)
    by_cases h7 : ps.length ≤ 7
    · have HRR : Hid (R = (famB ps, 0)) := by unfold Hid; rw [HN.out, if_pos hsa, if_pos h7]
      go_enter Try.func23, Try.ntmps23
      go_wp2_with fail
      refine (famContains_any A c ps _ HA.out hl HX.out).mono ?_
      rw [hsa]
      rintro e w1 ⟨rfl, hb⟩
      have HB1 := Lib.hid hb; clear hb
      go_wp2
      go_loopw [15] (fun i wr => ∃ k : Nat, k ≤ ps.length ∧ i = .int .i64 k ∧ Hid (Below w.heap.size w wr ∧ famP ps k)) (fun i _ => ps.length - (intOf i).toNat)
      case atStart => exact ⟨0, by omega, rfl, HB1.out, fun j hj => by omega⟩
      case round =>
        obtain ⟨k, hk, rfl, HC⟩ := hrel
        by_cases hlt : k < ps.length
        · obtain ⟨b1, o1, C, d, v, zs, hA1, hb1, hkz, p0, p1, hB⟩ := (HA.out.below HC.out.1).as hlt
          subst hA1
          have HB := Lib.hid hB; have HKZ := Lib.hid hkz; clear hB hkz
          have hvs := (isSysB_iff.1 (HSY.out k hlt)).1
          have hxk := HX.out k hlt
          rw [HKZ.out] at hvs hxk
          simp only at hvs hxk
          have HAL := Lib.hid (below_alloc wr (.cells #[.int .i64 v, .slice C zs.length d] 30))
          have HBX := Lib.hid (Row.box wr 30 (.int .i64 v) (.slice C zs.length d))
          have HBA := Lib.hid (HB.out.below HAL.out)
          by_cases h9 : v = 9
          · subst h9
            clear hvs
            cases hf : fullB 9 zs
            · have HF := Lib.hid hf; clear hf
              go_wp2_with fail
              refine (isFull_any 9 C d zs _ hxk (by omega)).mono ?_
              rw [HF.out]
              rintro e w2 ⟨rfl, hb⟩
              have HB2 := Lib.hid (below_up HC.out.1 (below_up HAL.out hb)); clear hb
              go_wp2
              go_ret2
              refine ⟨?_, HB2.out⟩
              rw [HRR.out, famB_false (fun h => by have := (h k hlt).1.2; rw [HKZ.out, HF.out] at this; cases this)]; rfl
            · have HF := Lib.hid hf; clear hf
              go_wp2_with fail
              refine (isFull_any 9 C d zs _ hxk (by omega)).mono ?_
              rw [HF.out]
              rintro e w2 ⟨rfl, hb⟩
              have HB2 := Lib.hid (below_up HC.out.1 (below_up HAL.out hb))
              have HBX2 := Lib.hid (HBX.out.below hb)
              have HBC := Lib.hid (HBA.out.below hb)
              clear hb p0 p1
              go_wp2
              go_loopw [32] (fun i wq => ∃ j : Nat, j ≤ k ∧ i = .int .i64 j ∧ Hid (Below w2.heap.size w2 wq ∧ ∀ q, q < j → comC zs (nthP ps q).2 zs.length = 0)) (fun i _ => k - (intOf i).toNat)
              case atStart => exact ⟨0, by omega, rfl, Below.refl _ _, fun q hq => by omega⟩
              case round =>
                obtain ⟨j, hj, rfl, HD⟩ := hrel
                have HBW := Lib.hid (below_up HB2.out HD.out.1)
                obtain ⟨e0, e1⟩ := (HBX2.out.below HD.out.1).c2
                have hse := (HBX2.out.below HD.out.1).lt
                by_cases hlt2 : j < k
                · obtain ⟨b2, o2, C2, d2, u, ys, hA2, hb2, hjy, q0, q1, hB2⟩ := (HA.out.below HBW.out).as (k := j) (by omega)
                  simp only [Option.some.injEq, Addr.mk.injEq] at hA2
                  obtain ⟨rfl, rfl, -⟩ := hA2
                  have HBJ := Lib.hid hB2; have HJY := Lib.hid hjy; clear hB2 hjy
                  have hjl : j < ps.length := by omega
                  have hxj := HX.out j hjl
                  rw [HJY.out] at hxj
                  simp only at hxj
                  have HBK := Lib.hid (HBC.out.below HD.out.1)
                  go_wp2_with fail
                  have HAY := Lib.hid (below_alloc wr (.cells #[.int .i64 u, .slice C2 ys.length d2] 30))
                  have hcl := comL_len zs ys zs.length
                  have HEQ : Hid ((comL zs ys zs.length).length = comC zs ys zs.length) := comL_cnt zs ys zs.length
                  refine (common_any C d zs C2 d2 ys _ (HBK.out.below HAY.out) hxk (HBJ.out.below HAY.out) hxj).mono ?_
                  rintro e w3 ⟨q, rfl, hO, hb⟩
                  obtain ⟨B', d', rfl⟩ := own_slice hO
                  have HB3 := Lib.hid (below_up HD.out.1 (below_up HAY.out hb))
                  clear hO hb
                  generalize hN : (comL zs ys zs.length).length = N at *
                  have HNN := Lib.hid hN; clear hN
                  by_cases hz : N = 0
                  · subst hz
                    go_wp2
                    go_roundw
                    case rel =>
                      refine ⟨j + 1, by omega, by go_num, HB3.out, fun q hq => ?_⟩
                      by_cases hqj : q < j
                      · exact HD.out.2 q hqj
                      · obtain rfl : q = j := by omega
                        rw [HJY.out]; exact HEQ.out.symm
                    case measure => simp [intOf]; omega
                  · have hpos : 0 < N := by omega
                    go_wp2
                    go_ret2
                    refine ⟨?_, below_up HB2.out HB3.out⟩
                    rw [HRR.out, famB_false (fun h => by have := (h k hlt).2 j hlt2; rw [HJY.out, HKZ.out] at this; exact hz (HEQ.out.trans this))]; rfl
                · obtain rfl : j = k := by omega
                  go_wp2
                  go_roundw
                  case rel =>
                    refine ⟨j + 1, by omega, by go_num, HBW.out, fun q hq => ?_⟩
                    by_cases hqj : q < j
                    · exact HC.out.2 q hqj
                    · obtain rfl : q = j := by omega
                      rw [HKZ.out]
                      exact ⟨⟨rfl, HF.out⟩, HD.out.2⟩
                  case measure => simp [intOf]; omega
          · have h9' : (v != 9) = true := by simpa using h9
            go_wp2
            go_ret2
            refine ⟨?_, below_up HC.out.1 HAL.out⟩
            rw [HRR.out, famB_false (fun h => h9 (by have := (h k hlt).1.1; rw [HKZ.out] at this; exact this))]; rfl
        · obtain rfl : k = ps.length := by omega
          go_wp2
          go_ret2
          refine ⟨?_, HC.out.1⟩
          rw [HRR.out, famB_true HC.out.2]; rfl
    · have HRR : Hid (R = (false, 2)) := by unfold Hid; rw [HN.out, if_pos hsa, if_neg h7]
      go_enter Try.func23, Try.ntmps23
      go_wp2_with fail
      refine (famContains_any A c ps _ HA.out hl HX.out).mono ?_
      rw [hsa]
      rintro e w1 ⟨rfl, hb⟩
      have HB1 := Lib.hid hb; clear hb
      go_wp2
      go_ret2
      exact ⟨by rw [HRR.out]; rfl, HB1.out⟩

end Go.Proofs.Ytbknpflbafjblaa

/- Lists of systems in a law's own functions; conditions: stated in each. -/
namespace Go.Proofs.Ytbknpflbafjblaa
open Go.ChangeShapes Go.WideShapes Go.ChangeAt Go.RowKit Go.Deep Go.Joins
set_option maxHeartbeats 400000
set_option maxRecDepth 100000
set_option linter.unusedSimpArgs false
set_option linter.unusedVariables false

theorem infoSys : (Try.prog.info? 30).map (fun i => (i.zero, i.size, i.bytes)) = some (some (.agg #[.int .i64 0, .slice none 0 0]), 2, 32) := by kernel_rfl

theorem szSystemS_any (A : Option Addr) (c : Nat) (ps : List (Int × List Blk)) (w : World) (hA : Sl w A ps) (hn : ps.length ≤ 9223372036854775807) (hx : ∀ k, k < ps.length → (nthP ps k).2.length ≤ 9223372036854775807) :
    Calls Try.prog 20 #[.slice A ps.length c, .int .i64 1048576] w fun e w' => ∃ r : Int, e = .returned (.int .i64 r) ∧ (r < 0 ∨ 0 ≤ r ∧ ps.length ≤ 1048576 ∧ ∀ k, k < ps.length → (nthP ps k).2.length ≤ 1048576) ∧ Below w.heap.size w w' := by
  have HA := Lib.hid hA; have HX := Lib.hid hx; clear hA hx
  by_cases h0 : ps.length ≤ 1048576
  · go_enter Try.func20, Try.ntmps20
    go_wp2
    go_loopw [1, 5] (fun l i wr => ∃ (k : Nat) (r : Int), k ≤ ps.length ∧ 0 ≤ r ∧ r ≤ 1048576 ∧ i = .int .i64 k ∧ l = .int .i64 r ∧ Hid (Below w.heap.size w wr ∧ ∀ j, j < k → (nthP ps j).2.length ≤ 1048576)) (fun _ i _ => ps.length - (intOf i).toNat)
    case atStart => exact ⟨0, 1048576 - ps.length, by omega, by omega, by omega, rfl, rfl, Below.refl _ _, fun j hj => by omega⟩
    case round =>
      obtain ⟨k, r, hk, hr0, hr1, rfl, rfl, HC⟩ := hrel
      by_cases hlt : k < ps.length
      · obtain ⟨b1, o1, C, d, hA1, hb1, p0, p1, hB⟩ := (HA.out.below HC.out.1).at_ hlt
        subst hA1
        clear hB
        have hxk := HX.out k hlt
        by_cases hlx : r - ((nthP ps k).2.length : Int) < 0
        · go_wp2_with fail
          refine (szSystem_any (nthP ps k).1 C (nthP ps k).2.length d r _ hxk hr0 hr1).mono ?_
          rw [if_pos hlx]
          rintro e w1 ⟨rfl, hb⟩
          have HB1 := Lib.hid (below_up HC.out.1 hb); clear hb
          go_wp2
          go_ret
          exact ⟨-1, rfl, .inl (by omega), HB1.out⟩
        · have hge : ¬ (r - ((nthP ps k).2.length : Int) < 0) := hlx
          go_wp2_with fail
          refine (szSystem_any (nthP ps k).1 C (nthP ps k).2.length d r _ hxk hr0 hr1).mono ?_
          rw [if_neg (by omega)]
          rintro e w1 ⟨rfl, hb⟩
          have HB1 := Lib.hid (below_up HC.out.1 hb); clear hb
          go_wp2
          go_roundw
          case rel =>
            refine ⟨k + 1, r - (nthP ps k).2.length, by omega, by omega, by omega, by go_num, rfl, HB1.out, fun j hj => ?_⟩
            by_cases hjk : j < k
            · exact HC.out.2 j hjk
            · obtain rfl : j = k := by omega
              omega
          case measure => simp [intOf]; omega
      · obtain rfl : k = ps.length := by omega
        go_wp2
        go_ret
        exact ⟨r, rfl, .inr ⟨hr0, h0, HC.out.2⟩, HC.out.1⟩
  · go_enter Try.func20, Try.ntmps20
    go_wp2
    go_ret
    exact ⟨-1, rfl, .inl (by omega), Below.refl _ _⟩

/-- The cells of 'cur' from 2 * k on are a system's. -/
def At2 (w : World) (base : Nat) (cur : Array Value) (k : Nat) (p : Int × List Blk) : Prop := ∃ g : Nat, base ≤ g ∧ cur[k * 2]? = some (.int .i64 p.1) ∧ cur[k * 2 + 1]? = some (.slice (some ⟨g, 0, none⟩) p.2.length p.2.length) ∧ Bl w (some ⟨g, 0, none⟩) p.2
theorem toSystemS_any (A : Option Addr) (c : Nat) (ps : List (Int × List Blk)) (w : World) (hA : Sl w A ps) (hl : ps.length ≤ 1048576) (hx : ∀ k, k < ps.length → (nthP ps k).2.length ≤ 1048576) :
    Calls Try.prog 22 #[.slice A ps.length c] w fun e w' => ∃ g, e = .returned (.slice (some ⟨g, 0, none⟩) ps.length ps.length) ∧ Sl w' (some ⟨g, 0, none⟩) ps ∧ Below w.heap.size w w' := by
  obtain ⟨i0, hi, hz0, hz1, hz2⟩ := info_parts infoSys
  have HA := Lib.hid hA; have HX := Lib.hid hx; clear hA hx
  go_enter Try.func22, Try.ntmps22
  go_wp2_with (at_make; refine wpList_make_full _ rfl _ _ 38 rfl w.heap.size 30 i0 _ 2 Try.underlying38 hi hz0 hz1 .i64 .i64 _ _ ps.length rfl rfl rfl rfl (by rw [hz2]; omega) (by unfold maxLen; omega) (Nat.le_refl _) ?_; intro w0 hown0 hgrow0)
  obtain ⟨cur0, hR0, hcs0⟩ := Row.own hown0
  have hB0 : Below w.heap.size w w0 := below_grown (Below.refl _ _) hgrow0 (fun k hk => by cases hk)
  have HR0 := Lib.hid hR0; have HB0 := Lib.hid hB0; have HS := Lib.hid hcs0
  clear hown0 hgrow0 hR0 hB0 hcs0 hi hz0 hz1 hz2
  go_loopw [4] (fun i wr => ∃ k : Nat, k ≤ ps.length ∧ i = .int .i64 k ∧ Hid (Below w.heap.size w wr ∧ ∃ cur, Row wr w.heap.size 30 cur ∧ cur.size = ps.length * 2 ∧ ∀ j, j < k → At2 wr (w.heap.size + 1) cur j (nthP ps j))) (fun i _ => ps.length - (intOf i).toNat)
  case atStart => exact ⟨0, by omega, rfl, HB0.out, cur0, HR0.out, HS.out, fun j hj => by omega⟩
  case round =>
    obtain ⟨k, hk, rfl, HC⟩ := hrel
    by_cases hlt : k < ps.length
    · obtain ⟨b1, o1, C, d, hA1, hb1, p0, p1, hB⟩ := (HA.out.below HC.out.1).at_ hlt
      subst hA1
      have HBl := Lib.hid hB; clear hB
      obtain ⟨hb, cur, hR, hcs, hat⟩ := HC.out
      have HB := Lib.hid hb; have HR := Lib.hid hR; have HCS := Lib.hid hcs; have HAT := Lib.hid hat
      clear hb hR hcs hat HC
      go_wp2_with fail
      refine (toSystem_any (nthP ps k).1 C d (nthP ps k).2 _ HBl.out (HX.out k hlt)).mono ?_
      rintro e w1 ⟨g, rfl, hB1, hg1, hb2⟩
      have HBN := Lib.hid hB1
      have hgk : w.heap.size + 1 ≤ g := by have := HR.out.lt; omega
      have HR1 := Lib.hid (HR.out.below hb2)
      have HAT1 : Hid (∀ j, j < k → At2 w1 (w.heap.size + 1) cur j (nthP ps j)) := fun j hj => by
        obtain ⟨g', h1, h2, h3, h4⟩ := HAT.out j hj
        exact ⟨g', h1, h2, h3, h4.below hb2⟩
      have HB1 := Lib.hid (below_up HB.out hb2)
      clear hb2 HR HB HAT hB1
      have hcs := HCS.out
      obtain ⟨u0, q0⟩ := HR1.out.cellAt (i := k * 2) (by omega)
      obtain ⟨u1, q1⟩ := HR1.out.cellAt (i := k * 2 + 1) (by omega)
      have f0 := HR1.out.frozen (k * 2)
      have f1 := HR1.out.frozen (k * 2 + 1)
      clear hcs
      go_wp2
      go_roundw
      case rel =>
        refine ⟨k + 1, by omega, by go_num, (HB1.out.setCell (Nat.le_refl _) _).setCell (Nat.le_refl _) _, _, (HR1.out.set _ _).set _ _, by simpa using HCS.out, fun j hj => ?_⟩
        by_cases hjk : j = k
        · subst hjk
          have hcz := HCS.out
          refine ⟨g, hgk, ?_, ?_, (HBN.out.far (by simp; omega) _).far (by simp; omega) _⟩
          · simp only [Array.getElem?_setIfInBounds, Array.size_setIfInBounds]
            rw [if_neg (by omega)]; simp; omega
          · simp only [Array.getElem?_setIfInBounds, Array.size_setIfInBounds]
            simp; omega
        · obtain ⟨g', h1, h2, h3, h4⟩ := HAT1.out j (by omega)
          refine ⟨g', h1, ?_, ?_, (h4.far (by simp; omega) _).far (by simp; omega) _⟩
          · simp only [Array.getElem?_setIfInBounds]
            rw [if_neg (by omega), if_neg (by omega)]; exact h2
          · simp only [Array.getElem?_setIfInBounds]
            rw [if_neg (by omega), if_neg (by omega)]; exact h3
      case measure => simp [intOf]; omega
    · obtain rfl : k = ps.length := by omega
      go_wp2
      go_ret
      obtain ⟨hb, cur, hR, hcs, hat⟩ := HC.out
      refine ⟨w.heap.size, rfl, .inr ⟨w.heap.size, 0, rfl, hR.lt, fun j hj => ?_⟩, hb⟩
      obtain ⟨g', h1, h2, h3, h4⟩ := hat j hj
      exact ⟨_, _, by rw [Nat.zero_add]; exact (hR.cell _).trans h2, by rw [Nat.zero_add]; exact (hR.cell _).trans h3, h4⟩

theorem eqs_is {v : Int} {xs : List Blk} (A B : Option Addr) (c d : Nat) (w : World) (hA : Bl w A xs) (hB : Bl w B xs) (hl : xs.length ≤ 1073741824) :
    Calls Try.prog 19 #[.agg #[.int .i64 v, .slice A xs.length c], .agg #[.int .i64 v, .slice B xs.length d]] w fun e w' => e = .returned (.bool true) ∧ Below w.heap.size w w' :=
  (eqSys_true (v := v) (xs := xs) ⟨rfl, rfl⟩) ▸ eqSystem_any v v A B c d xs xs w hA hB hl hl
theorem eqSystemS_any (A B : Option Addr) (c d : Nat) (ps : List (Int × List Blk)) (w : World) (hA : Sl w A ps) (hB : Sl w B ps) (hl : ps.length ≤ 1048576) (hx : ∀ k, k < ps.length → (nthP ps k).2.length ≤ 1048576) :
    Calls Try.prog 24 #[.slice A ps.length c, .slice B ps.length d] w fun e w' => e = .returned (.bool true) ∧ Below w.heap.size w w' := by
  have HA := Lib.hid hA; have HB := Lib.hid hB; have HX := Lib.hid hx; clear hA hB hx
  go_enter Try.func24, Try.ntmps24
  go_wp2
  go_loopw [5] (fun i wr => ∃ k : Nat, k ≤ ps.length ∧ i = .int .i64 k ∧ Hid (Below w.heap.size w wr)) (fun i _ => ps.length - (intOf i).toNat)
  case atStart => exact ⟨0, by omega, rfl, Below.refl _ _⟩
  case round =>
    obtain ⟨k, hk, rfl, HC⟩ := hrel
    by_cases hlt : k < ps.length
    · obtain ⟨b1, o1, C, e1, hA1, hb1, p0, p1, hB1⟩ := (HA.out.below HC.out).at_ hlt
      subst hA1
      obtain ⟨b2, o2, D, e2, hA2, hb2, q0, q1, hB2⟩ := (HB.out.below HC.out).at_ hlt
      subst hA2
      have HB1 := Lib.hid hB1; have HB2 := Lib.hid hB2; clear hB1 hB2
      have hxk := HX.out k hlt
      go_wp2
      refine wp_region_ge_lit (by kernel_rfl) (by kernel_rfl) ?_; (repeat (go_big_quiet_step ((go_at_call 19; exact ge_call (eqs_is C D e1 e2 _ (HB1.out.below (ge_below _ _)) (HB2.out.below (ge_below _ _)) (by omega)))))); refine wpQuiet_nil ?_
      rintro w2 ⟨x, rfl⟩
      go_wp2
      go_roundw
      case rel => exact ⟨k + 1, by omega, by go_num, below_up HC.out (ge_below _ _)⟩
      case measure => simp [intOf]; omega
    · obtain rfl : k = ps.length := by omega
      go_wp2
      go_ret
      exact ⟨rfl, HC.out⟩

end Go.Proofs.Ytbknpflbafjblaa
