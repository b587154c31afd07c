/- Contracts of the number of digits and of the greatest sets of disjoint blocks; conditions: stated in each. -/
import Derived.Test.YtpdkkbimhhhjmaaW21
import Derived.Test.YtpdkkbimhhhjmaaP10
namespace Go.Proofs.Ytpdkkbimhhhjmaa
open Go.RowKit
set_option maxHeartbeats 1000000
set_option maxRecDepth 100000
set_option linter.unusedSimpArgs false
set_option linter.unusedVariables false

/-- the digits 1 of a number, the first f of them looked at -/
def onesF : Nat → Nat → Nat
  | 0, _ => 0
  | f + 1, n => onesF f (n / 2) + n % 2
theorem onesF_zero : ∀ f, onesF f 0 = 0 := by
  intro f; induction f with
  | zero => rfl
  | succ f ih => simp [onesF, ih]
theorem ones_cnt : ∀ f n, onesF f n = cntF (fun j => n.testBit j) f := by
  intro f
  induction f with
  | zero => intro n; rfl
  | succ f ih =>
    intro n
    rw [onesF, ih]
    have key : ∀ g, cntF (fun j => n.testBit j) (g + 1) = cntF (fun j => (n / 2).testBit j) g + n % 2 := by
      intro g
      induction g with
      | zero => simp [cntF, Nat.testBit_zero]; rcases Nat.mod_two_eq_zero_or_one n with h | h <;> simp [h]
      | succ g ihg =>
        rw [cntF, ihg, cntF, Nat.testBit_div_two]; omega
    rw [key f]

theorem l05Ones_any (n : Nat) (w : World) (hn : n < 32768) :
    Calls Try.prog 123 #[.int .i64 (n : Int)] w fun e w' => e = .returned (.int .i64 (onesF 15 n : Nat)) ∧ Below w.heap.size w w' := by
  have HG : Hid (onesF 15 n = onesF 15 n) := rfl
  go_enter Try.func123, Try.ntmps123
  go_wp2
  go_loopw [0, 3] (fun i q wr => ∃ f m N : Nat, f ≤ 15 ∧ m < 2 ^ f ∧ N + f ≤ 15 ∧ i = .int .i64 m ∧ q = .int .i64 N ∧ Hid (Below w.heap.size w wr ∧ N + onesF f m = onesF 15 n)) (fun i _ _ => (intOf i).toNat)
  case atStart => exact ⟨15, n, 0, by omega, by simpa using hn, by omega, rfl, rfl, Below.refl _ _, by simp⟩
  case round =>
    obtain ⟨f, m, N, hf, hm, hN, rfl, rfl, HC⟩ := hrel
    by_cases hz : m = 0
    · subst hz
      have hof := onesF_zero f
      go_wp2
      go_ret
      exact ⟨ret_int (by have := HC.out.2; rw [hof] at this; rw [← this]; rfl), HC.out.1⟩
    · obtain ⟨f, rfl⟩ : ∃ g, f = g + 1 := by
        rcases f with _ | f
        · simp at hm; omega
        · exact ⟨f, rfl⟩
      have hm2 : m / 2 < 2 ^ f := by rw [Nat.pow_succ] at hm; omega
      have hmb : m < 32768 := by
        have : 2 ^ (f + 1) ≤ 2 ^ 15 := Nat.pow_le_pow_right (by omega) hf
        have e : 2 ^ 15 = 32768 := by decide
        omega
      have HM2 := Lib.hid hm2
      have HST : Hid (onesF (f + 1) m = onesF f (m / 2) + m % 2) := rfl
      have hd : (m : Int).tdiv 2 = ((m / 2 : Nat) : Int) := by rw [Int.tdiv_eq_ediv_of_nonneg (by omega)]; rfl
      have hr : (m : Int).tmod 2 = ((m % 2 : Nat) : Int) := by rw [Int.tmod_eq_emod_of_nonneg (by omega)]; rfl
      have hr2 : m % 2 ≤ 1 := by omega
      clear hm hm2
      go_wp2
      go_roundw
      case rel =>
        refine ⟨f, m / 2, N + m % 2, by omega, HM2.out, by omega, ?_, ?_, HC.out.1, ?_⟩
        · first | exact val_int hd | (simp; omega)
        · exact val_int (by push_cast; rfl)
        · have := HC.out.2; rw [HST.out] at this; omega
      case measure => simp [intOf]; omega

theorem mostF_le {B : Nat} : ∀ {L : List (List Int)} {b : List Int}, b.length ≤ B → (∀ l ∈ L, l.length ≤ B) → (mostF b L).length ≤ B := by
  intro L
  induction L with
  | nil => intro b hb _; exact hb
  | cons l L ih =>
    intro b hb h
    rw [mostF_cons]
    refine ih ?_ (fun l' hl' => h l' (by simp [hl']))
    unfold betterL; split
    · exact h l (by simp)
    · exact hb
/-- what is known of a set of disjoint blocks on the way -/
def Way (v : Int) (xs : List Blk) (now : List Int) (m a : Nat) : Prop := risesI now xs.length ∧ apart xs now now.length ∧ m = uni xs now now.length ∧ a = fromI now
theorem Way.step {v : Int} {xs : List Blk} {now : List Int} {m a i : Nat} (ha : areB v xs) (h : Way v xs now m a) (hi : i < xs.length) (hai : a ≤ i) (ok : okI xs now i = true) : Way v xs (now ++ [(i : Int)]) (m ||| maskB (nth xs i)) (i + 1) := by
  obtain ⟨h1, h2, h3, h4⟩ := h
  exact ⟨rises_snoc h1 hi (h4 ▸ hai), apart_snoc ha h1 h2 hi ok, by rw [h3, uni_snoc], (fromI_snoc _ _).symm⟩
theorem Way.ok {v : Int} {xs : List Blk} {now : List Int} {m a i : Nat} (ha : areB v xs) (h : Way v xs now m a) (hi : i < xs.length) (hai : a ≤ i) : okI xs now i = (maskB (nth xs i) &&& m == 0) := by
  obtain ⟨h1, h2, h3, h4⟩ := h
  rw [h3]; exact ok_iff ha h1 hi (h4 ▸ hai)
theorem Way.ones {v : Int} {xs : List Blk} {now : List Int} {m a : Nat} (ha : areB v xs) (hv : v ≤ 15) (h : Way v xs now m a) : onesF 15 m = 3 * now.length ∧ m < 32768 := by
  obtain ⟨h1, h2, h3, h4⟩ := h
  have hlt := uni_lt ha h1 now.length (Nat.le_refl _)
  have hp := pow15 hv
  refine ⟨?_, by rw [h3]; omega⟩
  rw [ones_cnt, h3, ← uni_cnt ha h1 h2 now.length (Nat.le_refl _)]
  have key : ∀ k, v.toNat + k ≤ 15 → cntF (fun j => (uni xs now now.length).testBit j) (v.toNat + k) = cntF (fun j => (uni xs now now.length).testBit j) v.toNat := by
    intro k
    induction k with
    | zero => intro _; rfl
    | succ k ih =>
      intro hk
      have : (uni xs now now.length).testBit (v.toNat + k) = false := Nat.testBit_lt_two_pow (Nat.lt_of_lt_of_le hlt (Nat.pow_le_pow_right (by omega) (by omega)))
      rw [← Nat.add_assoc, cntF, ih (by omega), this]; rfl
  have := key (15 - v.toNat) (by omega)
  have e : v.toNat + (15 - v.toNat) = 15 := by omega
  rwa [e] at this

theorem l05Most_any (v : Int) (A : Option Addr) (c : Nat) (xs : List Blk) (hs : isSys v xs) : ∀ (d base : Nat) (now best : List Int) (un ub : Value) (m a : Nat) (w : World), v.toNat / 3 ≤ now.length + d → now.length + d ≤ 5 → Way v xs now m a → best.length ≤ 5 → base ≤ w.heap.size → Bl w A xs →
    Ro w base un now → Ro w base ub best →
    Calls Try.prog 88 #[.agg #[.int .i64 v, .slice A xs.length c], un, ub, .int .i64 (m : Int), .int .i64 (a : Int)] w fun e w' => ∃ u, e = .returned u ∧ Ro w' base u (mostF best (allL xs d now)) ∧ Below w.heap.size w w' := by
  intro d
  induction d with
  | zero =>
    intro base now best un ub m a w hd hd5 hW hb5 hb0 hA hN hB
    have h35 := hs.2.1
    have hv15 := hs.1.2
    have hv3 := hs.1.1
    have HAR : Hid (areB v xs) := hs.2.2.1
    obtain ⟨hones, hm15⟩ := hW.ones HAR.out hv15
    obtain ⟨An, cn, hun⟩ := own_slice hN
    obtain ⟨Ab, cb, hub⟩ := own_slice hB
    subst hun hub
    have HX := Lib.hid (below_alloc w (.cells #[.int .i64 v, .slice A xs.length c] 30))
    have HR := Lib.hid (Row.box w 30 (.int .i64 v) (.slice A xs.length c))
    have HN := Lib.hid (hN.below HX.out)
    have HB := Lib.hid (hB.below HX.out)
    have HWY := Lib.hid hW
    have HALL : Hid (allL xs 0 now = [now]) := rfl
    have hafrom : a ≤ xs.length := by
      rw [hW.2.2.2]; unfold fromI; split
      · omega
      · have := (hW.1 (now.length - 1) (by omega)).1; omega
    obtain ⟨n, rfl⟩ := Int.eq_ofNat_of_zero_le (by omega : 0 ≤ v)
    obtain ⟨b0, hb0e⟩ : ∃ b0, b0 = betterL best now := ⟨_, rfl⟩
    have HB0 := Lib.hid hb0e
    have hb05 : b0.length ≤ 5 := by rw [hb0e]; unfold betterL; split <;> omega
    have hdn : n / 3 ≤ b0.length := by
      have : now.length ≤ b0.length := by rw [hb0e]; unfold betterL; split <;> omega
      simp at hd; omega
    clear hA hN hB hs hW hd hb0e
    have HM15 := Lib.hid hm15
    have HEN : Hid (3 * now.length ≤ n) := by have := three_le HAR.out HWY.out.1 HWY.out.2.1; unfold Hid; simpa using this
    have HQ : Hid (((n : Int) - 3 * (now.length : Int)).tdiv 3 = ((n / 3 : Nat) : Int) - now.length) := by
      have := HEN.out
      unfold Hid
      rw [Int.tdiv_eq_ediv_of_nonneg (by omega)]; omega
    have hlb : now.length ≤ b0.length := by rw [HB0.out]; unfold betterL; split <;> omega
    obtain ⟨V, hV, C0, e0, hVe, hVR⟩ : ∃ V, (best.length < now.length ∧ V = Value.slice An now.length cn ∨ ¬ best.length < now.length ∧ V = Value.slice Ab best.length cb) ∧ ∃ C e, V = .slice C b0.length e ∧ Ro (w.alloc (.cells #[.int .i64 n, .slice A xs.length c] 30)) base (.slice C b0.length e) b0 := by
      by_cases h : best.length < now.length
      · have e : b0 = now := by rw [HB0.out, betterL, if_pos h]
        exact ⟨_, .inl ⟨h, rfl⟩, An, cn, by rw [e], by rw [e]; exact HN.out⟩
      · have e : b0 = best := by rw [HB0.out, betterL, if_neg h]
        exact ⟨_, .inr ⟨h, rfl⟩, Ab, cb, by rw [e], by rw [e]; exact HB.out⟩
    have HVR := Lib.hid hVR; clear hVR
    rcases hV with ⟨hlen, rfl⟩ | ⟨hlen, rfl⟩
    all_goals
      have HVE := Lib.hid hVe; clear hVe
      go_enter Try.func88, Try.ntmps88
      go_wp2
      generalize hWo : w.alloc _ = W5 at *
      clear hlen
      go_loopw [2, 11] (fun u i wr => i = .int .i64 a ∧ u = .slice C0 b0.length e0 ∧ Hid (Below W5.heap.size W5 wr)) (fun _ i _ => xs.length - (intOf i).toNat)
      case atStart => exact ⟨rfl, HVE.out, Below.refl _ _⟩
      case round =>
        obtain ⟨rfl, rfl, HC⟩ := hrel
        have HRw := Lib.hid (HR.out.below HC.out)
        obtain ⟨c0, c1⟩ := HRw.out.c2
        have hsz := HRw.out.lt
        by_cases hlt : a < xs.length
        · have hq : ((n : Int) - 3 * (now.length : Int)).tdiv 3 = ((n / 3 : Nat) : Int) - now.length := HQ.out
          have hen : 3 * now.length ≤ n := HEN.out
          have hw1 : IntKind.i64.wrap ((n : Int) - 3 * (now.length : Int)) = (n : Int) - 3 * (now.length : Int) := by go_arith
          have hw2 : IntKind.i64.wrap (((n / 3 : Nat) : Int) - now.length) = ((n / 3 : Nat) : Int) - now.length := by go_arith
          have hw3 : IntKind.i64.wrap ((b0.length : Int) - (now.length : Int)) = (b0.length : Int) - now.length := by go_arith
          have HKEEP := Lib.hid (And.intro c0 c1)
          have hP : IntKind.i64.wrap ((IntKind.i64.wrap ((n : Int) - 3 * (now.length : Int))).tdiv 3) ≤ IntKind.i64.wrap ((b0.length : Int) - (now.length : Int)) := by rw [hw1, hq, hw2, hw3]; omega
          clear hw1 hw2 hw3 hq
          go_wp2
          clear c0 c1
          go_region_held3 (fun w' => w'.cell? ⟨w.heap.size, 0, none⟩ = some (.int .i64 n) ∧ w'.cell? ⟨w.heap.size, 1, none⟩ = some (.slice A xs.length c)) (first | exact HKEEP.out) (first
            | (go_at_call 123
               refine (l05Ones_any m _ HM15.out).mono ?_
               rw [hones]
               rintro e w1 ⟨rfl, hb⟩
               have HB1 := Lib.hid (below_up (below_drew _) hb)
               replace HKEEP := Lib.hid (HRw.out.below HB1.out).c2
               clear hb))
          go_wp2
          go_ret
          refine ⟨_, rfl, ?_, below_up HX.out (below_up HC.out HB1.out)⟩
          rw [HALL.out, mostF_cons, ← HB0.out]
          exact HVR.out.below (below_up HC.out HB1.out)
        · go_wp2
          go_ret
          refine ⟨_, rfl, ?_, below_up HX.out HC.out⟩
          rw [HALL.out, mostF_cons, ← HB0.out]
          exact HVR.out.below HC.out
  | succ d ih =>
    intro base now best un ub m a w hd hd5 hW hb5 hb0 hA hN hB
    have HIH := Lib.hid ih; clear ih
    obtain ⟨ni0, hni, hni0, hni1, hni2⟩ := info_parts infoInt'
    have h35 := hs.2.1
    have hv15 := hs.1.2
    have hv3 := hs.1.1
    have HAR : Hid (areB v xs) := hs.2.2.1
    obtain ⟨hones, hm15⟩ := hW.ones HAR.out hv15
    obtain ⟨An, cn, hun⟩ := own_slice hN
    obtain ⟨Ab, cb, hub⟩ := own_slice hB
    subst hun hub
    have HX := Lib.hid (below_alloc w (.cells #[.int .i64 v, .slice A xs.length c] 30))
    have HR := Lib.hid (Row.box w 30 (.int .i64 v) (.slice A xs.length c))
    have HA := Lib.hid (hA.below HX.out)
    have HN := Lib.hid (hN.below HX.out)
    have HB := Lib.hid (hB.below HX.out)
    have HSZ : Hid ((w.alloc (.cells #[.int .i64 v, .slice A xs.length c] 30)).heap.size = w.heap.size + 1) := World.size_alloc _ _
    have HWY := Lib.hid hW
    have HDD := Lib.hid (And.intro hd hd5)
    have HST : Hid (∀ i, loopL (fun i => allL xs d (now ++ [(i : Int)])) (okI xs now) a (i + 1) = loopL (fun i => allL xs d (now ++ [(i : Int)])) (okI xs now) a i ++ (if a ≤ i ∧ okI xs now i = true then allL xs d (now ++ [(i : Int)]) else [])) := fun i => rfl
    have HALL : Hid (allL xs (d + 1) now = now :: loopL (fun i => allL xs d (now ++ [(i : Int)])) (okI xs now) a xs.length) := by unfold Hid; rw [hW.2.2.2]; rfl
    have HNIL := Lib.hid (loopL_nil (fun i => allL xs d (now ++ [(i : Int)])) (okI xs now) a a (Nat.le_refl _))
    have HSTOP : Hid (∀ b i cc, mostF b (loopL (fun i => allL xs d (now ++ [(i : Int)])) (okI xs now) a i) = cc → i ≤ xs.length → v.toNat ≤ 3 * cc.length + 2 → mostF b (loopL (fun i => allL xs d (now ++ [(i : Int)])) (okI xs now) a xs.length) = cc) := by
      intro b i cc e hi hcc
      refine loop_stop e xs.length hi (fun j h1 h2 h3 h4 l hl => ?_)
      have := (all_bd HAR.out d _ (hW.step HAR.out h2 h3 h4).1 (hW.step HAR.out h2 h3 h4).2.1 l hl).2.2
      omega
    have hafrom : a ≤ xs.length := by
      rw [hW.2.2.2]; unfold fromI; split
      · omega
      · have := (hW.1 (now.length - 1) (by omega)).1; omega
    have hn4 : now.length ≤ 4 := by omega
    generalize loopL (fun i => allL xs d (now ++ [(i : Int)])) (okI xs now) a = S at *
    obtain ⟨n, rfl⟩ := Int.eq_ofNat_of_zero_le (by omega : 0 ≤ v)
    obtain ⟨b0, hb0e⟩ : ∃ b0, b0 = betterL best now := ⟨_, rfl⟩
    have HB0 := Lib.hid hb0e
    have hb05 : b0.length ≤ 5 := by rw [hb0e]; unfold betterL; split <;> omega
    have HB0R : Hid (∃ C e, (if best.length < now.length then Value.slice An now.length cn else Value.slice Ab best.length cb) = .slice C b0.length e ∧ Ro (w.alloc (.cells #[.int .i64 n, .slice A xs.length c] 30)) base (.slice C b0.length e) b0) := by
      unfold Hid
      rw [hb0e]; unfold betterL
      split
      · exact ⟨An, cn, rfl, HN.out⟩
      · exact ⟨Ab, cb, rfl, HB.out⟩
    clear hA hN hB hs hW hd hb0e
    have HM15 := Lib.hid hm15
    have HEN : Hid (3 * now.length ≤ n) := by have := three_le HAR.out HWY.out.1 HWY.out.2.1; unfold Hid; simpa using this
    have HQ : Hid (((n : Int) - 3 * (now.length : Int)).tdiv 3 = ((n / 3 : Nat) : Int) - now.length) := by
      have := HEN.out
      unfold Hid
      rw [Int.tdiv_eq_ediv_of_nonneg (by omega)]; omega
    have hlb : now.length ≤ b0.length := by rw [HB0.out]; unfold betterL; split <;> omega
    obtain ⟨V, hV, C0, e0, hVe, hVR⟩ : ∃ V, (best.length < now.length ∧ V = Value.slice An now.length cn ∨ ¬ best.length < now.length ∧ V = Value.slice Ab best.length cb) ∧ ∃ C e, V = .slice C b0.length e ∧ Ro (w.alloc (.cells #[.int .i64 n, .slice A xs.length c] 30)) base (.slice C b0.length e) b0 := by
      by_cases h : best.length < now.length
      · have e : b0 = now := by rw [HB0.out, betterL, if_pos h]
        exact ⟨_, .inl ⟨h, rfl⟩, An, cn, by rw [e], by rw [e]; exact HN.out⟩
      · have e : b0 = best := by rw [HB0.out, betterL, if_neg h]
        exact ⟨_, .inr ⟨h, rfl⟩, Ab, cb, by rw [e], by rw [e]; exact HB.out⟩
    have HVR := Lib.hid hVR; clear hVR
    rcases hV with ⟨hlen, rfl⟩ | ⟨hlen, rfl⟩
    all_goals
      have HVE := Lib.hid hVe; clear hVe
      go_enter Try.func88, Try.ntmps88
      go_wp2
      generalize hWo : w.alloc _ = W5 at *
      clear hlen
      go_loopw [2, 11] (fun u i wr => ∃ (k : Nat) (cur : List Int) (C : Option Addr) (e : Nat), a ≤ k ∧ k ≤ xs.length ∧ i = .int .i64 k ∧ u = .slice C cur.length e ∧ cur.length ≤ 5 ∧ now.length ≤ cur.length ∧ Hid (Below W5.heap.size W5 wr ∧ Ro wr base (.slice C cur.length e) cur ∧ cur = mostF b0 (S k))) (fun _ i _ => xs.length - (intOf i).toNat)
      case atStart =>
        exact ⟨a, b0, C0, e0, Nat.le_refl _, hafrom, rfl, HVE.out, hb05, hlb, Below.refl _ _, HVR.out, by rw [HNIL.out]; rfl⟩
      case round =>
        obtain ⟨k, cur, C, e, hk0, hk, rfl, rfl, hc5, hcn, HC⟩ := hrel
        have HRw := Lib.hid (HR.out.below HC.out.1)
        have HAw := Lib.hid (HA.out.below HC.out.1)
        have HNw := Lib.hid (HN.out.below HC.out.1)
        obtain ⟨c0, c1⟩ := HRw.out.c2
        have hsz := HRw.out.lt
        by_cases hlt : k < xs.length
        · obtain ⟨b1, o1, hA1, hb1, p0, p1, p2⟩ := HAw.out.at_ hlt
          subst hA1
          have hq : ((n : Int) - 3 * (now.length : Int)).tdiv 3 = ((n / 3 : Nat) : Int) - now.length := HQ.out
          have hen : 3 * now.length ≤ n := HEN.out
          have hw1 : IntKind.i64.wrap ((n : Int) - 3 * (now.length : Int)) = (n : Int) - 3 * (now.length : Int) := by go_arith
          have hw2 : IntKind.i64.wrap (((n / 3 : Nat) : Int) - now.length) = ((n / 3 : Nat) : Int) - now.length := by go_arith
          have hw3 : IntKind.i64.wrap ((cur.length : Int) - (now.length : Int)) = (cur.length : Int) - now.length := by go_arith
          have HKEEP := Lib.hid (And.intro c0 c1)
          have HCC := Lib.hid (And.intro p0 (And.intro p1 p2))
          by_cases hpr : n / 3 ≤ cur.length
          · have hP : IntKind.i64.wrap ((IntKind.i64.wrap ((n : Int) - 3 * (now.length : Int))).tdiv 3) ≤ IntKind.i64.wrap ((cur.length : Int) - (now.length : Int)) := by rw [hw1, hq, hw2, hw3]; omega
            clear hw1 hw2 hw3 hq p0 p1 p2
            go_wp2
            clear c0 c1
            go_region_held3 (fun w' => w'.cell? ⟨w.heap.size, 0, none⟩ = some (.int .i64 n) ∧ w'.cell? ⟨w.heap.size, 1, none⟩ = some (.slice (some ⟨b1, o1, none⟩) xs.length c)) (first | exact HKEEP.out) (first
              | (go_at_call 123
                 refine (l05Ones_any m _ HM15.out).mono ?_
                 rw [hones]
                 rintro e w1 ⟨rfl, hb⟩
                 have HB1 := Lib.hid (below_up (below_drew _) hb)
                 replace HKEEP := Lib.hid (HRw.out.below HB1.out).c2
                 clear hb))
            go_wp2
            go_ret
            refine ⟨_, rfl, ?_, below_up HX.out (below_up HC.out.1 HB1.out)⟩
            rw [HALL.out, mostF_cons, ← HB0.out, HSTOP.out b0 k cur HC.out.2.2.symm hk (by simp; omega)]
            exact HC.out.2.1.below HB1.out
          · have hP : ¬ IntKind.i64.wrap ((IntKind.i64.wrap ((n : Int) - 3 * (now.length : Int))).tdiv 3) ≤ IntKind.i64.wrap ((cur.length : Int) - (now.length : Int)) := by rw [hw1, hq, hw2, hw3]; omega
            clear hw1 hw2 hw3 hq p0 p1 p2
            go_wp2
            clear c0 c1
            have hg := (HAR.out k hlt).1
            have HG : Hid (goodB 15 (nth xs k) = true) := good_mono hg hv15
            have hml := maskB_lt hg
            have hp15 := pow15 hv15
            have hand := bits_and_nat (maskB (nth xs k)) m (by omega) (by omega)
            have hor := bits_or_nat m (maskB (nth xs k)) (by omega) (by omega)
            have hok := HWY.out.ok HAR.out hlt hk0
            clear hml hp15 hg
            by_cases hzz : maskB (nth xs k) &&& m = 0
            · rw [hzz] at hand
              have HOK : Hid (okI xs now k = true) := by unfold Hid; rw [hok, hzz]; rfl
              have HZ := Lib.hid hzz; clear hzz hok
              go_region_held3 (fun w' => w'.cell? ⟨w.heap.size, 0, none⟩ = some (.int .i64 n) ∧ w'.cell? ⟨w.heap.size, 1, none⟩ = some (.slice (some ⟨b1, o1, none⟩) xs.length c)) (first | exact HKEEP.out) (first
                | (go_at_call 123
                   refine (l05Ones_any m _ HM15.out).mono ?_
                   rw [hones]
                   rintro e w1 ⟨rfl, hb⟩
                   have HB1 := Lib.hid (below_up (below_drew _) hb)
                   replace HKEEP := Lib.hid (HRw.out.below HB1.out).c2
                   clear hb))
              obtain ⟨c0, c1⟩ := HKEEP.out
              have hs1 := HB1.out.size
              obtain ⟨b2, o2, hA2, hb2, p0, p1, p2⟩ := (HAw.out.below HB1.out).at_ hlt
              simp only [Option.some.injEq, Addr.mk.injEq] at hA2
              obtain ⟨rfl, rfl, -⟩ := hA2
              go_wp2_with fail
              refine (l05Bits_any _ _ HG.out).mono ?_
              rintro e w7 ⟨rfl, hb⟩
              have HB7 := Lib.hid (below_up HB1.out hb); clear hb c0 c1 p0 p1 p2
              have HR7 := Lib.hid (HRw.out.below HB7.out)
              obtain ⟨c0, c1⟩ := HR7.out.c2
              have hs7 := HB7.out.size
              go_wp2
              have HKEEP := Lib.hid (And.intro c0 c1)
              clear c0 c1
              have HN7 := Lib.hid (HNw.out.below HB7.out)
              have HA7 := Lib.hid (HAw.out.below HB7.out)
              have HC7 := Lib.hid (HC.out.2.1.below HB7.out)
              have hbw : base ≤ w7.heap.size := by have := HC.out.1.size; have := HSZ.out; omega
              have HRS := Lib.hid (HWY.out.step HAR.out hlt hk0 HOK.out)
              have HWK : Hid (IntKind.i64.wrap ((k : Int) + 1) = ((k + 1 : Nat) : Int)) := by unfold Hid; push_cast; go_arith
              go_region_held3 (fun w' => w'.cell? ⟨w.heap.size, 0, none⟩ = some (.int .i64 n) ∧ w'.cell? ⟨w.heap.size, 1, none⟩ = some (.slice (some ⟨b1, o1, none⟩) xs.length c)) (first | exact HKEEP.out | exact (HR7.out.below (HB8.out.alloc HB8.out.size _)).c2 | exact (HR7.out.below (below_alloc _ _)).c2 | exact (HR7.out.below (below_up (below_drew _) (below_alloc _ _))).c2 | exact (HR7.out.below (below_up (below_alloc _ _) (below_drew _))).c2) (first
                | (go_at_call 99
                   refine (l01Own_any _ base now _ (HN7.out.below (by (repeat' (first | (with_reducible exact Below.refl _ _) | (with_reducible assumption) | (with_reducible refine below_drewN ?_ _) | (with_reducible refine Below.drew ?_) | (with_reducible refine Below.alloc ?_ ?_ _) | (with_reducible refine Below.setCell ?_ ?_ _) | go_size)))) (by omega)).mono ?_
                   rintro e w8 ⟨r, rfl, hr, hb⟩
                   have HB8 : Hid (Below w7.heap.size w7 w8) := below_up (by (repeat' (first | (with_reducible exact Below.refl _ _) | (with_reducible assumption) | (with_reducible refine below_drewN ?_ _) | (with_reducible refine Below.drew ?_) | (with_reducible refine Below.alloc ?_ ?_ _) | (with_reducible refine Below.setCell ?_ ?_ _) | go_size))) hb
                   have HO8 : Hid (w8.ownsRow w7.heap.size 2 1 r now.length (now.map (Value.int .i64))) := own_base hr (by simp)
                   replace HKEEP := Lib.hid (HR7.out.below HB8.out).c2
                   have hs8 := HB8.out.size
                   have HBP := Lib.hid hb
                   clear hb hr)
                | (refine step_append_lies _ (by rfl) _ _ 34 (by rfl) w7.heap.size 2 ni0 (.int .i64 0) 1 8 Try.underlying34 hni hni0 hni1 hni2 rfl (by decide) _ _ _ (by rfl) (HO8.out.alloc _) ⟨w8.heap.size, 0, none⟩ 1 1 [.int .i64 k] (by rfl) rfl (cells_new _ _ _) (by simp [Value.oneCell']) (by omega) (by unfold maxLen; omega) (by omega) (by simp; omega) (w8.heap.size + 1) (by simp) ?_
                   intro g cap w9 hown9 hg9 hat9 hlt9
                   have HO9 : Hid (Ro w9 w7.heap.size (.slice (some ⟨g, 0, none⟩) (now.length + 1) cap) (now ++ [(k : Int)])) := by { unfold Hid Ro; rw [List.length_append, List.map_append]; exact hown9 }
                   have HB9 : Hid (Below w7.heap.size w7 w9) := (HB8.out.alloc HB8.out.size _).grown hg9 (by simp; omega) (own_block HO8.out)
                   replace HKEEP := Lib.hid (HR7.out.below HB9.out).c2
                   clear hown9 hg9 hat9)
                | (refine step_append_lies _ (by rfl) _ _ 34 (by rfl) w7.heap.size 2 ni0 (.int .i64 0) 1 8 Try.underlying34 hni hni0 hni1 hni2 rfl (by decide) _ _ _ (by rfl) HO8.out ⟨w7.heap.size, 0, none⟩ 1 1 [.int .i64 k] (by rfl) rfl (cells_old HBP.out (by first | (simp; done) | omega) (cells_new w7 _ _)) (by simp [Value.oneCell']) (by omega) (by unfold maxLen; omega) (by omega) (by omega) w8.heap.size rfl ?_
                   intro g cap w9 hown9 hg9 hat9 hlt9
                   have HO9 : Hid (Ro w9 w7.heap.size (.slice (some ⟨g, 0, none⟩) (now.length + 1) cap) (now ++ [(k : Int)])) := by { unfold Hid Ro; rw [List.length_append, List.map_append]; exact hown9 }
                   have HB9 : Hid (Below w7.heap.size w7 w9) := HB8.out.grown hg9 (by omega) (own_block HO8.out)
                   replace HKEEP := Lib.hid (HR7.out.below HB9.out).c2
                   clear hown9 hg9 hat9)
                | (go_at_call 88
                   rw [HWK.out]
                   refine (HIH.out base (now ++ [(k : Int)]) cur (.slice (some ⟨g, 0, none⟩) (now.length + 1) cap) (.slice C cur.length e) (m ||| maskB (nth xs k)) (k + 1) _ (by have := HDD.out; simp; simp at this; omega) (by have := HDD.out; simp; omega) HRS.out hc5 (Nat.le_trans hbw HB9.out.size) (HA7.out.below HB9.out) (own_base HO9.out hbw) (HC7.out.below HB9.out)).mono ?_
                   rintro e w10 ⟨u2, rfl, hR2, hb⟩
                   have HR2 := Lib.hid hR2
                   have HB10 := Lib.hid (below_up HB9.out hb)
                   replace HKEEP := Lib.hid (HR7.out.below HB10.out).c2
                   clear hR2 hb))
              all_goals
                have hR := HR2.out
                obtain ⟨C', e', rfl⟩ := own_slice hR
                have hmb : (mostF cur (allL xs d (now ++ [(k : Int)]))).length ≤ 5 := mostF_le hc5 (fun l hl => by have := (all_bd HAR.out d _ HRS.out.1 HRS.out.2.1 l hl).2.1; have h2 := HDD.out.2; rw [List.length_append, List.length_singleton] at this; omega)
                have hge := mostF_ge cur (allL xs d (now ++ [(k : Int)]))
                clear hR
                go_wp2
                go_roundw
                case rel => exact ⟨k + 1, mostF cur (allL xs d (now ++ [(k : Int)])), C', e', by omega, by omega, by go_num, rfl, hmb, by omega, below_up HC.out.1 (below_up HB7.out HB10.out), HR2.out, by rw [HST.out, mostF_app, ← HC.out.2.2, if_pos ⟨hk0, HOK.out⟩]⟩
                case measure => simp [intOf]; omega
            · have hne : (bits .and .i64 (maskB (nth xs k) : Int) (m : Int) == 0) = false := by rw [hand, beq_eq_false_iff_ne]; exact_mod_cast hzz
              have HOK : Hid (okI xs now k = false) := by unfold Hid; rw [hok, beq_eq_false_iff_ne]; exact hzz
              clear hzz hand hok
              go_region_held3 (fun w' => w'.cell? ⟨w.heap.size, 0, none⟩ = some (.int .i64 n) ∧ w'.cell? ⟨w.heap.size, 1, none⟩ = some (.slice (some ⟨b1, o1, none⟩) xs.length c)) (first | exact HKEEP.out) (first
                | (go_at_call 123
                   refine (l05Ones_any m _ HM15.out).mono ?_
                   rw [hones]
                   rintro e w1 ⟨rfl, hb⟩
                   have HB1 := Lib.hid (below_up (below_drew _) hb)
                   replace HKEEP := Lib.hid (HRw.out.below HB1.out).c2
                   clear hb))
              obtain ⟨c0, c1⟩ := HKEEP.out
              have hs1 := HB1.out.size
              obtain ⟨b2, o2, hA2, hb2, p0, p1, p2⟩ := (HAw.out.below HB1.out).at_ hlt
              simp only [Option.some.injEq, Addr.mk.injEq] at hA2
              obtain ⟨rfl, rfl, -⟩ := hA2
              go_wp2_with fail
              refine (l05Bits_any _ _ HG.out).mono ?_
              rintro e w7 ⟨rfl, hb⟩
              have HB7 := Lib.hid (below_up HB1.out hb); clear hb c0 c1 p0 p1 p2
              go_wp2
              go_roundw
              case rel => exact ⟨k + 1, cur, C, e, by omega, by omega, by go_num, rfl, hc5, hcn, below_up HC.out.1 HB7.out, HC.out.2.1.below HB7.out, by rw [HST.out, if_neg (fun h => by rw [HOK.out] at h; exact absurd h.2 (by simp)), List.append_nil]; exact HC.out.2.2⟩
              case measure => simp [intOf]; omega
        · obtain rfl : k = xs.length := by omega
          go_wp2
          go_ret
          exact ⟨_, rfl, by rw [HALL.out, mostF_cons, ← HB0.out, ← HC.out.2.2]; exact HC.out.2.1, below_up HX.out HC.out.1⟩

end Go.Proofs.Ytpdkkbimhhhjmaa
