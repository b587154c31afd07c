/- Contracts of the law's own small functions over lists of numbers, and of mark and held; conditions: stated in each. -/
import Derived.Test.YtpdkkbimhhhjmaaW1
import Derived.Test.YtpdkkbimhhhjmaaM2
import Derived.Test.YtpdkkbimhhhjmaaL0
namespace Go.Proofs.Ytpdkkbimhhhjmaa
open Go.RowKit
set_option maxHeartbeats 400000
set_option linter.unusedSimpArgs false
set_option linter.unusedVariables false

theorem infoInt : (Try.prog.info? 2).map (fun i => (i.zero, i.size, i.bytes)) = some (some (.int .i64 0), 1, 8) := by kernel_rfl

/-- m cells from the head of a row can be written. -/
def Wr (w : World) (t : TypeId) (A : Option Addr) (m : Nat) : Prop := m = 0 ∨ ∃ g cur, A = some ⟨g, 0, none⟩ ∧ Row w g t cur ∧ m ≤ cur.size
/-- .. and hold k, k + 1, .. -/
def Mk (w : World) (t : TypeId) (A : Option Addr) (m : Nat) (k : Int) : Prop := m = 0 ∨ ∃ g cur, A = some ⟨g, 0, none⟩ ∧ Row w g t cur ∧ m ≤ cur.size ∧ ∀ j, j < m → cur[j]? = some (.int .i64 (k + j))
theorem Mk.below {w w' : World} {t : TypeId} {A : Option Addr} {m : Nat} {k : Int} (h : Mk w t A m k) (hb : Below w.heap.size w w') : Mk w' t A m k := by
  rcases h with h | ⟨g, cur, hA, hR, hm, hc⟩
  · exact .inl h
  · exact .inr ⟨g, cur, hA, hR.below hb, hm, hc⟩
theorem Wr.below {w w' : World} {t : TypeId} {A : Option Addr} {m : Nat} (h : Wr w t A m) (hb : Below w.heap.size w w') : Wr w' t A m := by
  rcases h with h | ⟨g, cur, hA, hR, hm⟩
  · exact .inl h
  · exact .inr ⟨g, cur, hA, hR.below hb, hm⟩
theorem Wr.own {w : World} {base : Nat} {t : TypeId} {size n c : Nat} {A : Option Addr} {xs : List Value} (h : w.ownsRow base t size (.slice A n c) n xs) : Wr w t A (n * size) := by
  rcases h.2 with ⟨_, hn⟩ | ⟨g, cap, cur, hv, _, hg, hnc, _, hcs, _⟩
  · exact .inl (by rw [hn, Nat.zero_mul])
  · simp only [Value.slice.injEq] at hv
    exact .inr ⟨g, cur, hv.1, hg, by rw [hcs]; exact Nat.mul_le_mul_right _ hnc⟩
theorem Wr.row {w : World} {t : TypeId} {g m : Nat} {cur : Array Value} (h : Row w g t cur) (hm : m ≤ cur.size) : Wr w t (some ⟨g, 0, none⟩) m := .inr ⟨g, cur, rfl, h, hm⟩

theorem toInt64S_any (A : Option Addr) (c : Nat) (xs : List Int) (w : World) (hA : Il w A xs) (hl : xs.length ≤ 1048576) :
    Calls Try.prog 42 #[.slice A xs.length c] w fun e w' => ∃ g, e = .returned (.slice (some ⟨g, 0, none⟩) xs.length xs.length) ∧ (∃ cur, Row w' g 2 cur ∧ cur.size = xs.length * 1 ∧ ∀ k, k < xs.length → cur[k]? = some (.int .i64 (nthI xs k))) ∧ w.heap.size ≤ g ∧ Below w.heap.size w w' := by
  obtain ⟨i0, hi, hz0, hz1, hz2⟩ := info_parts infoInt
  have HA := Lib.hid hA; clear hA
  go_enter Try.func42, Try.ntmps42
  go_wp2_with (at_make; refine wpList_make_full _ rfl _ _ 34 rfl w.heap.size 2 i0 _ 1 Try.underlying34 hi hz0 hz1 .i64 .i64 _ _ xs.length rfl rfl rfl rfl (by rw [hz2]; omega) (by unfold maxLen; omega) (Nat.le_refl _) ?_; intro w0 hown0 hgrow0)
  obtain ⟨cur0, hR0, hcs0⟩ := Row.own hown0
  have hB0 : Below w.heap.size w w0 := below_grown (Below.refl _ _) hgrow0 (fun k hk => by cases hk)
  have HR0 := Lib.hid hR0; have HB0 := Lib.hid hB0; have HS := Lib.hid hcs0
  clear hown0 hgrow0 hR0 hB0 hcs0 hi hz0 hz1 hz2
  go_loopw [4] (fun i wr => ∃ k : Nat, k ≤ xs.length ∧ i = .int .i64 k ∧ Hid (Below w.heap.size w wr ∧ ∃ cur, Row wr w.heap.size 2 cur ∧ cur.size = xs.length * 1 ∧ ∀ j, j < k → cur[j]? = some (.int .i64 (nthI xs j)))) (fun i _ => xs.length - (intOf i).toNat)
  case atStart => exact ⟨0, by omega, rfl, HB0.out, cur0, HR0.out, HS.out, fun j hj => by omega⟩
  case round =>
    obtain ⟨k, hk, rfl, HC⟩ := hrel
    by_cases hlt : k < xs.length
    · obtain ⟨b1, o1, hA1, hb1, p0⟩ := (HA.out.below HC.out.1).at_ hlt
      subst hA1
      obtain ⟨hb, cur, hR, hcs, hat⟩ := HC.out
      obtain ⟨u0, q0⟩ := hR.cellAt (i := k) (by omega)
      have f0 := hR.frozen k
      have HB := Lib.hid hb; have HR := Lib.hid hR; have HCS := Lib.hid hcs; have HAT := Lib.hid hat
      clear hb hR hcs hat HC
      go_wp2
      go_roundw
      case rel =>
        refine ⟨k + 1, by omega, by go_num, HB.out.setCell (Nat.le_refl _) _, _, HR.out.set _ _, by simpa using HCS.out, fun j hj => ?_⟩
        rw [Array.getElem?_setIfInBounds]
        by_cases hjk : k = j
        · subst hjk
          rw [if_pos rfl, if_pos (by have := HCS.out; omega)]
        · rw [if_neg hjk]; exact HAT.out j (by omega)
      case measure => simp [intOf]; omega
    · obtain rfl : k = xs.length := by omega
      go_wp2
      go_ret
      obtain ⟨hb, cur, hR, hcs, hat⟩ := HC.out
      exact ⟨w.heap.size, rfl, ⟨cur, hR, hcs, hat⟩, Nat.le_refl _, hb⟩

noncomputable def eqInts (xs ys : List Int) : Bool := open Classical in decide (xs = ys)
theorem eqInts_true {xs ys : List Int} (h : xs = ys) : eqInts xs ys = true := by unfold eqInts; simp [h]
theorem eqInts_false {xs ys : List Int} (h : ¬ xs = ys) : eqInts xs ys = false := by unfold eqInts; simp [h]
theorem nthI_ext {xs ys : List Int} (hl : xs.length = ys.length) (h : ∀ j, j < xs.length → nthI xs j = nthI ys j) : xs = ys := by
  apply List.ext_getElem hl
  intro i h1 h2
  have := h i h1
  simpa [nthI, h1, h2] using this

theorem eqInt64S_any (A B : Option Addr) (c d : Nat) (xs ys : List Int) (w : World) (hA : Il w A xs) (hB : Il w B ys) (hla : xs.length ≤ 1073741824) (hlb : ys.length ≤ 1073741824) :
    Calls Try.prog 22 #[.slice A xs.length c, .slice B ys.length d] w fun e w' => e = .returned (.bool (eqInts xs ys)) ∧ Below w.heap.size w w' := by
  have HA := Lib.hid hA; have HB := Lib.hid hB; clear hA hB
  by_cases hl : xs.length = ys.length
  · have HL := Lib.hid hl
    clear hl
    have hne : ((xs.length : Int) != (ys.length : Int)) = false := by simp [HL.out]
    go_enter Try.func22, Try.ntmps22
    go_wp2
    go_loopw [5] (fun i wr => ∃ k : Nat, k ≤ xs.length ∧ i = .int .i64 k ∧ Below w.heap.size w wr ∧ Hid (∀ j, j < k → nthI xs j = nthI ys j)) (fun i _ => xs.length - (intOf i).toNat)
    case atStart => exact ⟨0, by omega, rfl, Below.refl _ _, fun j hj => by omega⟩
    case round =>
      obtain ⟨k, hk, rfl, hb, HJ⟩ := hrel
      by_cases hlt : k < xs.length
      · have hltb : k < ys.length := by rw [← HL.out]; exact hlt
        obtain ⟨b1, o1, hA1, hb1, p0⟩ := (HA.out.below hb).at_ hlt
        subst hA1
        obtain ⟨b2, o2, hA2, hb2, q0⟩ := (HB.out.below hb).at_ hltb
        subst hA2
        by_cases he : nthI xs k = nthI ys k
        · have he' : (nthI xs k != nthI ys k) = false := by simpa using he
          have HE := Lib.hid he; clear he
          go_wp2
          go_quiet (fail)
          go_wp2
          go_roundw
          case rel =>
            refine ⟨k + 1, by omega, by go_num, below_drewN hb _, fun j hj => ?_⟩
            by_cases hjk : j < k
            · exact HJ.out j hjk
            · obtain rfl : j = k := by omega
              exact HE.out
          case measure => simp [intOf]; omega
        · have he' : (nthI xs k != nthI ys k) = true := by simpa using he
          have HE := Lib.hid he; clear he
          go_wp2
          go_quiet (fail)
          go_wp2
          go_ret
          exact ⟨ret_bool (eqInts_false fun h => HE.out (by rw [h])).symm, below_drewN hb _⟩
      · obtain rfl : k = xs.length := by omega
        go_wp2
        go_ret
        exact ⟨ret_bool (eqInts_true (nthI_ext HL.out HJ.out)).symm, hb⟩
  · have hne : ((xs.length : Int) != (ys.length : Int)) = true := by rw [bne_iff_ne]; omega
    have HN := Lib.hid hl
    clear hl
    go_enter Try.func22, Try.ntmps22
    go_wp2
    go_ret
    exact ⟨ret_bool (eqInts_false fun h => HN.out (by rw [h])).symm, Below.refl _ _⟩

theorem markInt64S_any (A : Option Addr) (n c : Nat) (k0 : Int) (w : World) (hA : Wr w 2 A n) (hn : n ≤ 1073741824) (h0 : 0 ≤ k0) (h1 : k0 ≤ 1073741824) :
    Calls Try.prog 24 #[.slice A n c, .int .i64 k0] w fun e w' => e = .returned (.int .i64 (k0 + n)) ∧ Mk w' 2 A n k0 ∧ w.grownBy w' (A.map Addr.block) := by
  rcases hA with rfl | ⟨g, cur0, rfl, hR0, hm0⟩
  · go_enter Try.func24, Try.ntmps24
    go_wp2
    go_rounds 1
    go_ret
    exact ⟨ret_int (by simp), .inl rfl, grown_refl _ _⟩
  · have HR0 := Lib.hid hR0; have HM0 := Lib.hid hm0; clear hR0 hm0
    go_enter Try.func24, Try.ntmps24
    go_wp2
    go_loopw [1, 5] (fun s i wr => ∃ k : Nat, k ≤ n ∧ i = .int .i64 k ∧ s = .int .i64 (k0 + k) ∧ Hid (w.grownBy wr (some g) ∧ ∃ cur, Row wr g 2 cur ∧ n ≤ cur.size ∧ ∀ j, j < k → cur[j]? = some (.int .i64 (k0 + j)))) (fun _ i _ => n - (intOf i).toNat)
    case atStart => exact ⟨0, by omega, rfl, by simp, grown_refl _ _, cur0, HR0.out, HM0.out, fun j hj => by omega⟩
    case round =>
      obtain ⟨k, hk, rfl, rfl, HC⟩ := hrel
      by_cases hlt : k < n
      · obtain ⟨hb, cur, hR, hcs, hat⟩ := HC.out
        obtain ⟨u0, q0⟩ := hR.cellAt (i := k) (by omega)
        have f0 := hR.frozen k
        have HB := Lib.hid hb; have HR := Lib.hid hR; have HCS := Lib.hid hcs; have HAT := Lib.hid hat
        clear hb hR hcs hat HC
        go_wp2
        go_roundw
        case rel =>
          refine ⟨k + 1, by omega, by go_num, by simp; omega, grown_set HB.out _ _, _, HR.out.set _ _, by simpa using HCS.out, fun j hj => ?_⟩
          rw [Array.getElem?_setIfInBounds]
          by_cases hjk : k = j
          · subst hjk
            rw [if_pos rfl, if_pos (by have := HCS.out; omega)]
          · rw [if_neg hjk]; exact HAT.out j (by omega)
        case measure => simp [intOf]; omega
      · obtain rfl : k = n := by omega
        go_wp2
        go_ret
        obtain ⟨hb, cur, hR, hcs, hat⟩ := HC.out
        exact ⟨ret_int rfl, .inr ⟨g, cur, rfl, hR, hcs, hat⟩, hb⟩

theorem heldInt64S_any (A : Option Addr) (n c : Nat) (k0 : Int) (w : World) (hA : Mk w 2 A n k0) (hn : n ≤ 1073741824) (h0 : 0 ≤ k0) (h1 : k0 ≤ 1073741824) :
    Calls Try.prog 25 #[.slice A n c, .int .i64 k0] w fun e w' => e = .returned (.int .i64 (k0 + n)) ∧ w = w' := by
  rcases hA with rfl | ⟨g, cur, rfl, hR, hm, hc⟩
  · go_enter Try.func25, Try.ntmps25
    go_wp2
    go_rounds 1
    go_ret
    exact ⟨ret_int (by simp), rfl⟩
  · have HR := Lib.hid hR; have HC := Lib.hid hc; clear hR hc
    go_enter Try.func25, Try.ntmps25
    go_wp2
    go_loop [1, 5] (fun s i => ∃ k : Nat, k ≤ n ∧ i = .int .i64 k ∧ s = .int .i64 (k0 + k)) (fun _ i => n - (intOf i).toNat)
    case atStart => exact ⟨0, by omega, rfl, by simp⟩
    case round =>
      obtain ⟨k, hk, rfl, rfl⟩ := hrel
      by_cases hlt : k < n
      · have q0 := (HR.out.cell k).trans (HC.out k hlt)
        go_wp2
        go_round
        case rel => exact ⟨k + 1, by omega, by go_num, by simp; omega⟩
        case measure => simp [intOf]; omega
      · obtain rfl : k = n := by omega
        go_wp2
        go_ret
        exact ⟨ret_int rfl, rfl⟩

end Go.Proofs.Ytpdkkbimhhhjmaa
