/- Contracts of third points, of codes of elements and of products; conditions: stated in each. -/
import Derived.Test.YtpdkkbimhhhjmaaQStuck
import Derived.Test.YtpdkkbimhhhjmaaP6
namespace Go.Proofs.Ytpdkkbimhhhjmaa
open Go.RowKit
set_option maxHeartbeats 400000
set_option maxRecDepth 100000
set_option linter.unusedSimpArgs false
set_option linter.unusedVariables false

theorem with_is {b : Blk} {p : Int} {r : Bool} (h : hasB b p = r) (w : World) :
    Calls Try.prog 112 #[.agg #[.int .i64 b.1, .int .i64 b.2.1, .int .i64 b.2.2], .int .i64 p] w fun e w' => e = .returned (.bool r) ∧ Below w.heap.size w w' := h ▸ l01With_any b p w

theorem l01Third_any (v : Int) (A : Option Addr) (c : Nat) (xs : List Blk) (p q : Int) (w : World) (hA : Bl w A xs) (hl : xs.length ≤ 1048576) (hs : isSys v xs) (hp : 0 ≤ p ∧ p < 15) (hq : 0 ≤ q ∧ q < 15) :
    Calls Try.prog 136 #[.agg #[.int .i64 v, .slice A xs.length c], .int .i64 p, .int .i64 q] w fun e w' => e = .returned (.int .i64 (third xs p q)) ∧ Below w.heap.size w w' := by
  have HAR : Hid (areB v xs) := hs.2.2.1
  have hv15 := hs.1.2
  have HA := Lib.hid (hA.below (below_alloc w (.cells #[.int .i64 v, .slice A xs.length c] 30)))
  have HR := Lib.hid (Row.box w 30 (.int .i64 v) (.slice A xs.length c))
  have HW := Lib.hid (below_alloc w (.cells #[.int .i64 v, .slice A xs.length c] 30))
  clear hA hs
  go_enter Try.func136, Try.ntmps136
  go_wp2
  generalize w.alloc _ = W at *
  go_loopw [7] (fun i wr => ∃ k : Nat, k ≤ xs.length ∧ i = .int .i64 k ∧ Below W.heap.size W wr ∧ Hid (∀ j, j < k → bothB (nth xs j) p q = false)) (fun i _ => xs.length - (intOf i).toNat)
  case atStart => exact ⟨0, by omega, rfl, Below.refl _ _, fun i hi => by omega⟩
  case round =>
    obtain ⟨k, hk, rfl, hb, HC⟩ := hrel
    obtain ⟨c0, c1⟩ := (HR.out.below hb).c2
    have hsz := (HR.out.below hb).lt
    by_cases hlt : k < xs.length
    · obtain ⟨b1, o1, hA1, hb1, p0, p1, p2⟩ := (HA.out.below hb).at_ hlt
      subst hA1
      have hg := good_bd (HAR.out k hlt).1
      have HX := Lib.hid (Box.new wr (nth xs k) 72)
      have HB := Lib.hid (below_up hb (below_alloc wr (.cells #[.int .i64 (nth xs k).1, .int .i64 (nth xs k).2.1, .int .i64 (nth xs k).2.2] 72)))
      clear hb
      cases h1 : hasB (nth xs k) p
      · go_wp2_with fail
        refine (with_is h1 _).mono ?_
        rintro e w1 ⟨rfl, hb⟩
        replace HB := Lib.hid (below_up HB.out hb); clear hb
        go_wp2
        go_roundw
        case rel =>
          refine ⟨k + 1, by omega, by go_num, HB.out, fun i hi => ?_⟩
          by_cases hij : i < k
          · exact HC.out i hij
          · obtain rfl : i = k := by omega
            unfold bothB; rw [h1]; rfl
        case measure => simp [intOf]; omega
      · cases h2 : hasB (nth xs k) q
        · go_wp2_with fail
          refine (with_is h1 _).mono ?_
          rintro e w1 ⟨rfl, hb⟩
          obtain ⟨x0, x1, x2⟩ := (HX.out.below hb).three
          replace HB := Lib.hid (below_up HB.out hb); clear hb
          go_wp2_with fail
          refine (with_is h2 _).mono ?_
          rintro e w2 ⟨rfl, hb⟩
          replace HB := Lib.hid (below_up HB.out hb); clear hb
          go_wp2
          go_roundw
          case rel =>
            refine ⟨k + 1, by omega, by go_num, HB.out, fun i hi => ?_⟩
            by_cases hij : i < k
            · exact HC.out i hij
            · obtain rfl : i = k := by omega
              unfold bothB; rw [h1, h2]; rfl
          case measure => simp [intOf]; omega
        · have HT : Hid (third xs p q = sumB (nth xs k) - p - q) := third_at p q xs k hlt (by unfold bothB; rw [h1, h2]; rfl) HC.out
          go_wp2_with fail
          refine (with_is h1 _).mono ?_
          rintro e w1 ⟨rfl, hb⟩
          obtain ⟨x0, x1, x2⟩ := (HX.out.below hb).three
          have HX1 := Lib.hid (HX.out.below hb)
          replace HB := Lib.hid (below_up HB.out hb); clear hb
          go_wp2_with fail
          refine (with_is h2 _).mono ?_
          rintro e w2 ⟨rfl, hb⟩
          clear x0 x1 x2
          obtain ⟨x0, x1, x2⟩ := (HX1.out.below hb).three
          replace HB := Lib.hid (below_up HB.out hb); clear hb
          go_wp2
          go_ret
          exact ⟨ret_int (by rw [HT.out]; rfl), below_up HW.out HB.out⟩
    · obtain rfl : k = xs.length := by omega
      go_wp2
      go_ret
      exact ⟨ret_int (third_none p q xs HC.out).symm, below_up HW.out hb⟩

theorem l01Full_any (v : Int) (A : Option Addr) (c : Nat) (xs : List Blk) (w : World) (hl : xs.length ≤ 1048576) (hv : 0 ≤ v ∧ v ≤ 15) :
    Calls Try.prog 82 #[.agg #[.int .i64 v, .slice A xs.length c]] w fun e w' => e = .returned (.bool (fullB v xs)) ∧ Below w.heap.size w w' := by
  have HF : Hid (fullB v xs = (6 * (xs.length : Int) == v * (v - 1))) := rfl
  generalize fullB v xs = R at *
  have hm : 0 ≤ v * (v - 1) + 1 ∧ v * (v - 1) ≤ 1000 := by
    obtain ⟨n, rfl⟩ := Int.eq_ofNat_of_zero_le hv.1
    have : n ≤ 15 := by omega
    have hh : ∀ n : Nat, n ≤ 15 → 0 ≤ (n : Int) * ((n : Int) - 1) + 1 ∧ (n : Int) * ((n : Int) - 1) ≤ 1000 := by decide +kernel
    exact hh n this
  go_enter Try.func82, Try.ntmps82
  go_wp2
  go_ret
  exact ⟨ret_bool (by rw [HF.out]), below_alloc _ _⟩

theorem isFull_any (v : Int) (A : Option Addr) (c : Nat) (xs : List Blk) (w : World) (hl : xs.length ≤ 1048576) (hv : 0 ≤ v ∧ v ≤ 15) :
    Calls Try.prog 86 #[.agg #[.int .i64 v, .slice A xs.length c]] w fun e w' => e = .returned (.bool (fullB v xs)) ∧ Below w.heap.size w w' := by
  have HF : Hid (fullB v xs = (6 * (xs.length : Int) == v * (v - 1))) := rfl
  generalize fullB v xs = R at *
  have hm : 0 ≤ v * (v - 1) + 1 ∧ v * (v - 1) ≤ 1000 := by
    obtain ⟨n, rfl⟩ := Int.eq_ofNat_of_zero_le hv.1
    have : n ≤ 15 := by omega
    have hh : ∀ n : Nat, n ≤ 15 → 0 ≤ (n : Int) * ((n : Int) - 1) + 1 ∧ (n : Int) * ((n : Int) - 1) ≤ 1000 := by decide +kernel
    exact hh n this
  go_enter Try.func86, Try.ntmps86
  go_wp2
  go_ret
  exact ⟨ret_bool (by rw [HF.out]), below_alloc _ _⟩

theorem fullCode_any (v : Int) (A : Option Addr) (c : Nat) (xs : List Blk) (w : World) (hA : Bl w A xs) (hl : xs.length ≤ 1048576) (hv : 0 ≤ v ∧ v ≤ 15) :
    Calls Try.prog 116 #[.agg #[.int .i64 v, .slice A xs.length c]] w fun e w' => e = .returned (.int .i64 (if fullB v xs = true then 0 else 5)) ∧ Below w.heap.size w w' := by
  cases hf : fullB v xs
  all_goals
    have HA := Lib.hid hA; clear hA; have HR := Lib.hid (Row.box w 30 (.int .i64 v) (.slice A xs.length c)); have HW := Lib.hid (Since.refl w); go_enter Try.func116, Try.ntmps116; go_wp2_with fail; replace HA := Lib.hid (HA.out.below (below_alloc _ (.cells #[.int .i64 v, .slice A xs.length c] 30))); replace HW := Lib.hid (HW.out.below (below_alloc _ (.cells #[.int .i64 v, .slice A xs.length c] 30)))
    refine (isFull_any v A c xs _ hl hv).mono ?_; rw [hf]; rintro e w_ ⟨rfl, hb⟩; replace HW := Lib.hid (HW.out.below hb); clear hb
    go_wp2
    go_ret
    exact ⟨ret_int (by simp), HW.out⟩

/-- whether some number of a list is such -/
noncomputable def anyP (p : Int → Bool) (ls : List Int) : Bool := open Classical in decide (∃ k, k < ls.length ∧ p (nthI ls k) = true)
theorem anyP_true {p : Int → Bool} {ls : List Int} {k : Nat} (hk : k < ls.length) (h : p (nthI ls k) = true) : anyP p ls = true := by unfold anyP; simp; exact ⟨k, hk, h⟩
theorem anyP_false {p : Int → Bool} {ls : List Int} (h : ∀ k, k < ls.length → p (nthI ls k) = false) : anyP p ls = false := by unfold anyP; simp; exact h

theorem indexFunc_any (A : Option Addr) (c : Nat) (ls : List Int) (g : Nat) (fa la : Array Value) (p : Int → Bool) (w : World) (hA : Il w A ls) (hl : ls.length ≤ 1048576)
    (eg : ∀ args w, (callFunc g args).run Try.prog w = .ok (.enter g args) w)
    (hp : ∀ (W : World) (x : Int), Below w.heap.size w W → Calls Try.prog g (fa ++ #[.int .i64 x] ++ la) W fun e w' => e = .returned (.bool (p x)) ∧ Below W.heap.size W w') :
    Calls Try.prog 132 #[.slice A ls.length c, .func (.func g) fa la] w fun e w' => ∃ r : Int, e = .returned (.int .i64 r) ∧ decide (r ≥ 0) = anyP p ls ∧ Below w.heap.size w w' := by
  have HA := Lib.hid hA; have HP := Lib.hid hp; clear hA hp
  go_enter Try.func132, Try.ntmps132
  go_wp2
  go_loopw [8] (fun i wr => ∃ k : Nat, k ≤ ls.length ∧ i = .int .i64 k ∧ Below w.heap.size w wr ∧ Hid (∀ j, j < k → p (nthI ls j) = false)) (fun i _ => ls.length - (intOf i).toNat)
  case atStart => exact ⟨0, by omega, rfl, Below.refl _ _, fun i hi => by omega⟩
  case round =>
    obtain ⟨k, hk, rfl, hb, HC⟩ := hrel
    by_cases hlt : k < ls.length
    · obtain ⟨b1, o1, hA1, hb1, p0⟩ := (HA.out.below hb).at_ hlt
      subst hA1
      go_wp2_with fail
      refine (HP.out _ (nthI ls k) hb).mono ?_
      cases hq : p (nthI ls k)
      · rintro e w1 ⟨rfl, hb1⟩
        have HB := Lib.hid (below_up hb hb1); clear hb1
        go_wp2
        go_roundw
        case rel =>
          refine ⟨k + 1, by omega, by go_num, HB.out, fun i hi => ?_⟩
          by_cases hij : i < k
          · exact HC.out i hij
          · obtain rfl : i = k := by omega
            exact hq
        case measure => simp [intOf]; omega
      · rintro e w1 ⟨rfl, hb1⟩
        have HB := Lib.hid (below_up hb hb1); clear hb1
        go_wp2
        go_ret
        exact ⟨(k : Int), rfl, by rw [anyP_true hlt hq]; simp, HB.out⟩
    · obtain rfl : k = ls.length := by omega
      go_wp2
      go_ret
      exact ⟨-1, rfl, by rw [anyP_false HC.out]; rfl, hb⟩

theorem containsFunc_any (A : Option Addr) (c : Nat) (ls : List Int) (g : Nat) (fa la : Array Value) (p : Int → Bool) (w : World) (hA : Il w A ls) (hl : ls.length ≤ 1048576)
    (eg : ∀ args w, (callFunc g args).run Try.prog w = .ok (.enter g args) w)
    (hp : ∀ (W : World) (x : Int), Below w.heap.size w W → Calls Try.prog g (fa ++ #[.int .i64 x] ++ la) W fun e w' => e = .returned (.bool (p x)) ∧ Below W.heap.size W w') :
    Calls Try.prog 108 #[.slice A ls.length c, .func (.func g) fa la] w fun e w' => e = .returned (.bool (anyP p ls)) ∧ Below w.heap.size w w' := by
  have HA := Lib.hid hA; have HP := Lib.hid hp; clear hA hp
  go_enter Try.func108, Try.ntmps108
  go_wp2_with fail
  refine (indexFunc_any A c ls g fa la p _ HA.out hl eg HP.out).mono ?_
  rintro e w1 ⟨r, rfl, hr, hb⟩
  have HB := Lib.hid hb; clear hb
  go_wp2
  go_ret
  exact ⟨ret_bool rfl, HB.out⟩

end Go.Proofs.Ytpdkkbimhhhjmaa
