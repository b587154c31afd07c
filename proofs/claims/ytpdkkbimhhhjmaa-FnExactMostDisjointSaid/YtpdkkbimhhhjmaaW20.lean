/- Contracts of copies of lists, of the search in a list with a guard, and of rows that grow; conditions: stated in each. -/
import Derived.Test.YtpdkkbimhhhjmaaW16
import Derived.Test.YtpdkkbimhhhjmaaW13
import Derived.Deep.AppendLies
import Derived.Laws.Cover3
import Derived.ChangeKeysEq
namespace Go.Proofs.Ytpdkkbimhhhjmaa
open Go.RowKit
set_option maxHeartbeats 400000
set_option maxRecDepth 100000
set_option linter.unusedSimpArgs false
set_option linter.unusedVariables false

@[go_sem] theorem eq_nil_slice (a : Option Addr) (l c : Nat) (w : World) : (binOp .eql 34 (.slice a l c) (.slice none 0 0)).run Try.prog w = .ok (.bool a.isNone) w := by
  have := run_equal_slice_nil (P := Try.prog) w 34 2 a l c Try.underlying34
  simp [binOp, this]
theorem clone_any (u : Value) (base : Nat) (ns : List Int) (w : World) (hR : Ro w base u ns) (hl : ns.length ≤ 1048576) :
    Calls Try.prog 107 #[u] w fun e w' => ∃ r, e = .returned r ∧ Ro w' w.heap.size r ns ∧ Below w.heap.size w w' := by
  obtain ⟨ni0, hni, hni0, hni1, hni2⟩ := info_parts infoInt'
  have HE : Hid (Ro (w.alloc (.cells #[] 2)) w.heap.size (.slice (some ⟨w.heap.size, 0, none⟩) 0 0) []) := own_empty _ _ _
  have HB := Lib.hid (below_alloc w (.cells #[] 2))
  have HR := Lib.hid hR
  rcases hR.2 with ⟨rfl, h0⟩ | ⟨g, cap, cur, rfl, _⟩
  · obtain rfl := List.eq_nil_of_length_eq_zero h0
    clear hR
    go_enter Try.func107, Try.ntmps107
    go_wp2
    go_ret
    exact ⟨_, rfl, World.ownsRow_nil _ _ _ _, Below.refl _ _⟩
  · clear hR
    have HRC := Lib.hid (HR.out.below HB.out)
    go_enter Try.func107, Try.ntmps107
    go_wp2_with (at_builtin; refine wpList_append_own _ rfl _ _ 34 rfl w.heap.size 2 ni0 (.int .i64 0) 1 8 Try.underlying34 hni hni0 hni1 hni2 rfl (by decide) _ _ _ rfl HE.out ⟨g, 0, none⟩ ns.length cap (ns.map (Value.int .i64)) rfl (by simp) (Ro.cells HRC.out) (by simp [Value.oneCell']) (by unfold maxLen; simp; omega) (by simp; omega) (by simp) ?_; intro v2 w2 hown2 hg2 _)
    have HO : Hid (Ro w2 w.heap.size v2 ns) := by unfold Hid Ro; simpa using hown2
    have HB2 : Hid (Below w.heap.size w w2) := HB.out.grown hg2 HB.out.size (own_block HE.out)
    clear hown2 hg2
    go_ret
    exact ⟨_, rfl, HO.out, HB2.out⟩

theorem indexFuncIn_any (A : Option Addr) (c : Nat) (ls : List Int) (g : Nat) (fa la : Array Value) (p : Int → Bool) (w : World) (hA : Il w A ls) (hl : ls.length ≤ 1048576)
    (eg : ∀ args w, (callFunc g args).run Try.prog w = .ok (.enter g args) w)
    (hp : ∀ (W : World) (k : Nat), k < ls.length → Below w.heap.size w W → Calls Try.prog g (fa ++ #[.int .i64 (nthI ls k)] ++ la) W fun e w' => e = .returned (.bool (p (nthI ls k))) ∧ Below W.heap.size W w') :
    Calls Try.prog 132 #[.slice A ls.length c, .func (.func g) fa la] w fun e w' => ∃ r : Int, e = .returned (.int .i64 r) ∧ decide (r ≥ 0) = anyP p ls ∧ Below w.heap.size w w' := by
  have HA := Lib.hid hA; have HP := Lib.hid hp; clear hA hp
  go_enter Try.func132, Try.ntmps132
  go_wp2
  go_loopw [8] (fun i wr => ∃ k : Nat, k ≤ ls.length ∧ i = .int .i64 k ∧ Below w.heap.size w wr ∧ Hid (∀ j, j < k → p (nthI ls j) = false)) (fun i _ => ls.length - (intOf i).toNat)
  case atStart => exact ⟨0, by omega, rfl, Below.refl _ _, fun i hi => by omega⟩
  case round =>
    obtain ⟨k, hk, rfl, hb, HC⟩ := hrel
    by_cases hlt : k < ls.length
    · obtain ⟨b1, o1, hA1, hb1, p0⟩ := (HA.out.below hb).at_ hlt
      subst hA1
      go_wp2_with fail
      refine (HP.out _ k hlt hb).mono ?_
      cases hq : p (nthI ls k)
      · rintro e w1 ⟨rfl, hb1⟩
        have HB := Lib.hid (below_up hb hb1); clear hb1
        go_wp2
        go_roundw
        case rel =>
          refine ⟨k + 1, by omega, by go_num, HB.out, fun i hi => ?_⟩
          by_cases hij : i < k
          · exact HC.out i hij
          · obtain rfl : i = k := by omega
            exact hq
        case measure => simp [intOf]; omega
      · rintro e w1 ⟨rfl, hb1⟩
        have HB := Lib.hid (below_up hb hb1); clear hb1
        go_wp2
        go_ret
        exact ⟨(k : Int), rfl, by rw [anyP_true hlt hq]; simp, HB.out⟩
    · obtain rfl : k = ls.length := by omega
      go_wp2
      go_ret
      exact ⟨-1, rfl, by rw [anyP_false HC.out]; rfl, hb⟩

theorem containsFuncIn_any (A : Option Addr) (c : Nat) (ls : List Int) (g : Nat) (fa la : Array Value) (p : Int → Bool) (w : World) (hA : Il w A ls) (hl : ls.length ≤ 1048576)
    (eg : ∀ args w, (callFunc g args).run Try.prog w = .ok (.enter g args) w)
    (hp : ∀ (W : World) (k : Nat), k < ls.length → Below w.heap.size w W → Calls Try.prog g (fa ++ #[.int .i64 (nthI ls k)] ++ la) W fun e w' => e = .returned (.bool (p (nthI ls k))) ∧ Below W.heap.size W w') :
    Calls Try.prog 108 #[.slice A ls.length c, .func (.func g) fa la] w fun e w' => e = .returned (.bool (anyP p ls)) ∧ Below w.heap.size w w' := by
  have HA := Lib.hid hA; have HP := Lib.hid hp; clear hA hp
  go_enter Try.func108, Try.ntmps108
  go_wp2_with fail
  refine (indexFuncIn_any A c ls g fa la p _ HA.out hl eg HP.out).mono ?_
  rintro e w1 ⟨r, rfl, hr, hb⟩
  have HB := Lib.hid hb; clear hb
  go_wp2
  go_ret
  exact ⟨ret_bool rfl, HB.out⟩

theorem meets_is {a b : Blk} {r : Bool} (h : meetB a b = r) (w : World) :
    Calls Try.prog 110 #[.agg #[.int .i64 a.1, .int .i64 a.2.1, .int .i64 a.2.2], .agg #[.int .i64 b.1, .int .i64 b.2.1, .int .i64 b.2.2]] w fun e w' => e = .returned (.bool r) ∧ Below w.heap.size w w' := h ▸ meets_any a b w

theorem disCl_any (v : Int) (A : Option Addr) (c : Nat) (xs : List Blk) (k : Nat) (b : Blk) (rx rb : Nat) (w : World) (hA : Bl w A xs) (hR : Row w rx 30 #[.int .i64 v, .slice A xs.length c]) (hB : Box w rb b) (hk : k < xs.length) (hl : xs.length ≤ 1048576) :
    Calls Try.prog 109 #[.int .i64 (k : Int), .pointer (some ⟨rx, 0, none⟩), .pointer (some ⟨rb, 0, none⟩)] w fun e w' => e = .returned (.bool (meetB (nth xs k) b)) ∧ Below w.heap.size w w' := by
  obtain ⟨c0, c1⟩ := hR.c2
  have hsz := hR.lt
  obtain ⟨x0, x1, x2⟩ := hB.three
  have hsb := hB.1
  obtain ⟨b1, o1, hA1, hb1, p0, p1, p2⟩ := hA.at_ hk
  subst hA1
  clear hA hR hB
  cases hm : meetB (nth xs k) b
  · go_enter Try.func109, Try.ntmps109
    go_wp2
    refine wp_region_ge_lit (by kernel_rfl) (by kernel_rfl) ?_; (repeat (go_big_quiet_step ((go_at_call 110; exact ge_call (meets_is hm _))))); refine wpQuiet_nil ?_
    rintro w1 ⟨x, rfl⟩
    go_wp2
    go_ret
    exact ⟨rfl, ge_below _ _⟩
  · go_enter Try.func109, Try.ntmps109
    go_wp2
    refine wp_region_ge_lit (by kernel_rfl) (by kernel_rfl) ?_; (repeat (go_big_quiet_step ((go_at_call 110; exact ge_call (meets_is hm _))))); refine wpQuiet_nil ?_
    rintro w1 ⟨x, rfl⟩
    go_wp2
    go_ret
    exact ⟨rfl, ge_below _ _⟩

theorem any_ok (xs : List Blk) (now : List Int) (i : Nat) : anyP (fun k => meetB (nth xs k.toNat) (nth xs i)) now = !okI xs now i := by
  by_cases h : ∀ k, k < now.length → meetB (blkAt xs now k) (nth xs i) = false
  · rw [anyP_false h]; unfold okI; simp; exact h
  · have h2 := h
    simp only [Classical.not_forall] at h
    obtain ⟨k, hk, hm⟩ := h
    rw [anyP_true hk (by simpa [blkAt] using hm)]
    unfold okI; rw [decide_eq_false h2]; rfl

theorem grown_join {W a b : World} {row row' : Option Nat} (h : W.grownBy a row) (k : a.grownBy b row') (hr : row' = row ∨ ∃ q, row' = some q ∧ W.heap.size ≤ q) : W.grownBy b row := by
  refine ⟨k.os.trans h.os, k.tape.trans h.tape, k.output.trans h.output, Nat.le_trans h.size k.size, fun i hi hne => ?_⟩
  rw [← h.block i hi hne]
  refine k.block i (Nat.lt_of_lt_of_le hi h.size) ?_
  rcases hr with rfl | ⟨q, rfl, hq⟩
  · exact hne
  · intro e; simp only [Option.some.injEq] at e; omega
theorem Bl.grown {w w' : World} {A : Option Addr} {xs : List Blk} {row : Option Nat} (h : Bl w A xs) (hg : w.grownBy w' row) (hA : ∀ b, A.map Addr.block = some b → row ≠ some b ∨ xs = []) : Bl w' A xs := by
  rcases h with rfl | ⟨b, o, rfl, hlt, hc⟩
  · exact .inl rfl
  · rcases hA b rfl with hne | rfl
    · refine .inr ⟨b, o, rfl, Nat.lt_of_lt_of_le hlt hg.size, fun k hk => ?_⟩
      have hh := hg.block b hlt (fun e => hne e.symm)
      obtain ⟨h0, h1, h2⟩ := hc k hk
      exact ⟨(World.cell?_of_block (a := ⟨b, o + k * 3, none⟩) hh).trans h0, (World.cell?_of_block (a := ⟨b, o + k * 3 + 1, none⟩) hh).trans h1, (World.cell?_of_block (a := ⟨b, o + k * 3 + 2, none⟩) hh).trans h2⟩
    · exact .inl rfl
theorem Row.grown {w w' : World} {g : Nat} {t : TypeId} {cur : Array Value} {row : Option Nat} (h : Row w g t cur) (hg : w.grownBy w' row) (hne : row ≠ some g) : Row w' g t cur := (hg.block g h.lt (fun e => hne e.symm)).trans h
theorem Ro.grown {w w' : World} {base : Nat} {u : Value} {xs : List Int} {row : Option Nat} (h : Ro w base u xs) (hg : w.grownBy w' row) (hne : ∀ b, u.ownBlock = some b → row ≠ some b) : Ro w' base u xs := by
  refine World.ownsRow.kept h hg ?_
  cases e : u.ownBlock with
  | none => exact .inl rfl
  | some b => right; intro e2; exact hne b e e2.symm

end Go.Proofs.Ytpdkkbimhhhjmaa
