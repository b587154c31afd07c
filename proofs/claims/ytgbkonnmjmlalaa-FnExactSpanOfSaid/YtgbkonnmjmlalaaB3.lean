/- Plain laws and contracts, part 3; conditions: stated in each. -/
import Derived.Deep.RegionHeld3
import Derived.StillTailTactics
import Derived.ChangeKeysEq
import Derived.Deep.RegionWith
import Derived.ProofKit
import Derived.Deep.Slices
import Derived.Lib.SmallJoins
import Derived.Deep.AppendLies
import Derived.Test.YtgbkonnmjmlalaaB1
import Derived.Test.YtgbkonnmjmlalaaB2
set_option linter.unusedSimpArgs false
set_option linter.unusedVariables false
/- The contract of the reference's search for renumberings; conditions: stated in it. -/
namespace Go.Proofs.Ytgbkonnmjmlalaa
open Go.RowKit
set_option maxHeartbeats 2000000
set_option maxRecDepth 100000
set_option linter.unusedSimpArgs false
set_option linter.unusedVariables false

theorem mask_used {L : List Int} {n : Nat} {T1 T2 : Nat → Nat → Nat} (hv : Val n T1 T2 L) (hn : n ≤ 15) : bitsL L L.length < 32768 ∧ ∀ k, (bitsL L L.length).testBit k = usedB L k := by
  refine ⟨?_, fun k => ?_⟩
  · have := bitsL_lt (ls := L) (n := 15) (fun k hk => Nat.lt_of_lt_of_le (hv.rng k hk).1 hn) L.length (Nat.le_refl _)
    simpa using this
  · rw [Bool.eq_iff_iff, bitsL_bit, usedB_iff]; rfl
theorem bit_i64 {m k : Nat} (hm : m < 32768) : (bits .and .i64 ((m : Int) / 2 ^ k) 1 == 1) = m.testBit k := by
  have e1 : (m : Int) / 2 ^ k = ((m / 2 ^ k : Nat) : Int) := by push_cast; rfl
  have hd : m / 2 ^ k < 4611686018427387904 := Nat.lt_of_le_of_lt (Nat.div_le_self _ _) (by omega)
  have e2 := bits_and_nat (m / 2 ^ k) 1 hd (by omega)
  rw [e1]
  show (bits BinOp.and IntKind.i64 ((m / 2 ^ k : Nat) : Int) ((1 : Nat) : Int) == 1) = _
  rw [e2, Nat.and_one_is_mod, Nat.testBit_eq_decide_div_mod_eq]
  rw [Bool.eq_iff_iff, beq_iff_eq, decide_eq_true_eq]
  omega

theorem bit_i64_0 {m k : Nat} (hm : m < 32768) : (bits .and .i64 ((m : Int) / 2 ^ k) 1 == 0) = !m.testBit k := by
  have e1 : (m : Int) / 2 ^ k = ((m / 2 ^ k : Nat) : Int) := by push_cast; rfl
  have hd : m / 2 ^ k < 4611686018427387904 := Nat.lt_of_le_of_lt (Nat.div_le_self _ _) (by omega)
  have e2 := bits_and_nat (m / 2 ^ k) 1 hd (by omega)
  rw [e1]
  show (bits BinOp.and IntKind.i64 ((m / 2 ^ k : Nat) : Int) ((1 : Nat) : Int) == 0) = _
  rw [e2, Nat.and_one_is_mod, Nat.testBit_eq_decide_div_mod_eq]
  rw [Bool.eq_iff_iff, beq_iff_eq, Bool.not_eq_true', decide_eq_false_iff_not]
  omega
theorem or_i64 {m k : Nat} (hm : m < 32768) (hk : k < 15) : bits .or .i64 (m : Int) (wrap64 ((2 : Int) ^ k)) = ((m ||| 2 ^ k : Nat) : Int) := by
  have h2p : 2 ^ k < 32768 := by have : 2 ^ k < 2 ^ 15 := Nat.pow_lt_pow_right (by omega) hk; simpa using this
  have hor := bits_or_nat m (2 ^ k) (by omega) (by omega)
  have e : wrap64 ((2 : Int) ^ k) = ((2 ^ k : Nat) : Int) := by
    have : ((2 : Int) ^ k) = ((2 ^ k : Nat) : Int) := by push_cast; rfl
    rw [this]; clear hor this; generalize 2 ^ k = z at *; go_unwrap
  rw [e]; exact hor
theorem Ro.il1 {w : World} {base n d : Nat} {B : Option Addr} {xs : List Int} (hR : Ro w base (.slice B n d) xs) : Il w B xs := by
  obtain ⟨B', d', e, hI, _⟩ := hR.il
  simp only [Value.slice.injEq] at e
  rw [e.1]; exact hI
def Cnd (T1 T2 : Nat → Nat → Nat) (L : List Int) (k a : Nat) : Prop := (T1 L.length a < L.length → im L (T1 L.length a) = T2 k (im L a)) ∧ (¬ T1 L.length a < L.length → usedB L (T2 k (im L a)) = false)
theorem cnd_in {T1 T2 : Nat → Nat → Nat} {L : List Int} {k j C x y z : Nat} (hC : C = T1 L.length j) (hx : x = im L j) (hz : z = T2 k x) (hy : y = im L C) (hl : C < L.length) : ((y : Int) == (z : Int)) = true ↔ Cnd T1 T2 L k j := by
  subst hC hy hz hx
  rw [beq_iff_eq, Cnd]
  constructor
  · intro h; exact ⟨fun _ => by omega, fun h2 => absurd hl h2⟩
  · intro h; have := h.1 hl; omega
theorem cnd_out {T1 T2 : Nat → Nat → Nat} {L : List Int} {k j C x z M : Nat} (hC : C = T1 L.length j) (hx : x = im L j) (hz : z = T2 k x) (hM : M < 32768) (hu : M.testBit z = usedB L z) (hl : ¬ C < L.length) : (bits .and .i64 ((M : Int) / 2 ^ z) 1 == 0) = true ↔ Cnd T1 T2 L k j := by
  rw [bit_i64_0 hM, hu, Cnd]
  subst hC hz hx
  constructor
  · intro h; exact ⟨fun h2 => absurd h2 hl, fun _ => by simpa using h⟩
  · intro h; have := h.2 hl; rw [this]; rfl
theorem cnd_step {P : Nat → Prop} {j n : Nat} {b : Bool} (h1 : ∀ a, a < j → P a) (hj : j < n) (h : b = true ↔ P j) : (b = true → ∀ a, a < j + 1 → P a) ∧ (b = false → ∃ a, a < n ∧ ¬ P a) := by
  refine ⟨fun hb a ha => ?_, fun hb => ⟨j, hj, fun hp => ?_⟩⟩
  · by_cases e : a = j
    · subst e; exact h.1 hb
    · exact h1 a (by omega)
  · rw [h.2 hp] at hb; cases hb
theorem go6_any (n s g1 g2 b1 b2 most : Nat) (ar : Bool) (T1 T2 : Nat → Nat → Nat) (F1 F2 : Nat → Int) (h1 : Sts n T1) (h2 : Sts n T2) (hn0 : 0 < n) (hn : n ≤ 15) (hF1 : ∀ a b, a < n → b < n → a ≠ b → F1 (16 * a + b) = (T1 a b : Int)) (hF2 : ∀ a b, a < n → b < n → a ≠ b → F2 (16 * a + b) = (T2 a b : Int))
    (hs1 : g1 ≠ s) (hs2 : g2 ≠ s) (hsb : s < b2) (hb1 : b1 ≤ b2) (hmost : most ≤ 1000000) :
    ∀ (d : Nat) (L : List Int) (F : List (List Int)) (u un : Value) (bl : Nat) (w : World), L.length + d = n → Val n T1 T2 L → F.length < most → Gb w s g1 g2 n most u ar → Va w g1 256 F1 → Va w g2 256 F2 → LLp w b1 b2 u F → Ro w bl un L →
    un.ownBlock ≠ some s → (∀ b, un.ownBlock = some b → u.ownBlock ≠ some b) → u.ownBlock ≠ some s → u.ownBlock ≠ some g1 → u.ownBlock ≠ some g2 → b2 ≤ w.heap.size →
    Calls Try.prog 102 #[.pointer (some ⟨s, 0, none⟩), un, .int .i64 (bitsL L L.length : Nat)] w fun e w' => ∃ u', e = .returned (.tuple #[]) ∧ Gb w' s g1 g2 n most u' ar ∧ LLp w' b1 b2 u' (takeB F most ((enumL n (fitS T1 T2) d L).filter (okA ar))) ∧ Gs w w' s u u' := by
  intro d
  induction d with
  | zero =>
    intro L F u un bl w hd hv hF hG hx hy hP hR k1 k2 k3 k4 k5 hb2
    exact go6_zero n s g1 g2 b1 b2 most ar T1 T2 hn0 hn hsb hmost L F u un bl _ w (by omega) hv hF hG hP hR k1 k2 k3 hb2 hb1
  | succ d ih =>
    intro L F u un bl w hd hv hF hG hx hy hP hR q1 q2 q3 q4 q5 hb2
    have HIH := Lib.hid ih; clear ih
    obtain ⟨li0, hli, hli0, hli1, hli2⟩ := info_parts infoList'
    obtain ⟨ni0, hni, hni0, hni1, hni2⟩ := info_parts infoInt'
    have HG := Lib.hid hG; have HP := Lib.hid hP; have HR := Lib.hid hR; have HV := Lib.hid hv; have HX := Lib.hid hx; have HY := Lib.hid hy; have HSEP := Lib.hid (And.intro q2 (And.intro q4 q5))
    have H1 := Lib.hid h1; have H2 := Lib.hid h2; have HF1 := Lib.hid hF1; have HF2 := Lib.hid hF2
    have HEN : Hid ((enumL n (fitS T1 T2) (d + 1) L).filter (okA ar) = loopL (fun i => (enumL n (fitS T1 T2) d (L ++ [(i : Int)])).filter (okA ar)) (fitS T1 T2 L) 0 n) := loop_filter (okA ar) n
    have HST : Hid (∀ i, loopL (fun i => (enumL n (fitS T1 T2) d (L ++ [(i : Int)])).filter (okA ar)) (fitS T1 T2 L) 0 (i + 1) = loopL (fun i => (enumL n (fitS T1 T2) d (L ++ [(i : Int)])).filter (okA ar)) (fitS T1 T2 L) 0 i ++ (if 0 ≤ i ∧ fitS T1 T2 L i = true then (enumL n (fitS T1 T2) d (L ++ [(i : Int)])).filter (okA ar) else [])) := fun i => rfl
    have HSTOP : Hid (∀ k D, takeB F most (loopL (fun i => (enumL n (fitS T1 T2) d (L ++ [(i : Int)])).filter (okA ar)) (fitS T1 T2 L) 0 k) = D → most ≤ D.length → k ≤ n → takeB F most (loopL (fun i => (enumL n (fitS T1 T2) d (L ++ [(i : Int)])).filter (okA ar)) (fitS T1 T2 L) 0 n) = D) := fun k D h h' hk => take_stop h h' n hk
    have HZ : Hid (loopL (fun i => (enumL n (fitS T1 T2) d (L ++ [(i : Int)])).filter (okA ar)) (fitS T1 T2 L) 0 0 = []) := rfl
    obtain ⟨hmL, hmb⟩ := mask_used hv hn
    have HMB := Lib.hid hmb
    have HBS : Hid (∀ i : Nat, bitsL (L ++ [(i : Int)]) (L ++ [(i : Int)]).length = bitsL L L.length ||| 2 ^ i) := by
      intro i
      apply Nat.eq_of_testBit_eq
      intro j
      rw [Nat.testBit_or, Nat.testBit_two_pow, Bool.eq_iff_iff, Bool.or_eq_true, bitsL_bit, bitsL_bit, decide_eq_true_eq]
      constructor
      · rintro ⟨a, h1, h2⟩
        rw [List.length_append, List.length_singleton] at h1
        by_cases e : a = L.length
        · subst e; rw [nthI_last] at h2; exact .inr (by simpa using h2)
        · rw [nthI_app (by omega)] at h2; exact .inl ⟨a, by omega, h2⟩
      · rintro (⟨a, h1, h2⟩ | h)
        · exact ⟨a, by simp; omega, by rw [nthI_app h1]; exact h2⟩
        · exact ⟨L.length, by simp, by rw [nthI_last]; simpa using h⟩
    obtain ⟨c0, c1, c2, c3, c4, c5⟩ := hG.c6
    have hsz := hG.lt
    obtain ⟨B, dl, hun, hIL, hBL⟩ := hR.il
    subst hun
    have HIL := Lib.hid hIL
    have HBL := Lib.hid hBL
    have HUN := Lib.hid q1
    have hln : L.length < n := by omega
    have hne : ((L.length : Int) == (n : Int)) = false := by rw [beq_eq_false_iff_ne]; omega
    clear hG hx hy hP hR hv hIL hBL hmb h1 h2 hF1 hF2 q1 q2 q4 q5
    generalize loopL (fun i => (enumL n (fitS T1 T2) d (L ++ [(i : Int)])).filter (okA ar)) (fitS T1 T2 L) 0 = S at *
    generalize hM : bitsL L L.length = M at *
    clear hM
    go_enter Try.func102, Try.ntmps102
    go_wp2
    clear c0 c1 c2 c3 c4 c5 hne
    go_loopw [7] (fun i wr => ∃ (k : Nat) (u' : Value), k ≤ n ∧ i = .int .i64 k ∧ Hid (Gb wr s g1 g2 n most u' ar ∧ LLp wr b1 b2 u' (takeB F most (S k)) ∧ Gs w wr s u u')) (fun i _ => n - (intOf i).toNat)
    case atStart => exact ⟨0, u, by omega, rfl, HG.out, by rw [HZ.out, take_nil]; exact HP.out, Gs.refl _ _ _⟩
    case round =>
      obtain ⟨k, u', hk, rfl, HC⟩ := hrel
      obtain ⟨c0, c1, c2, c3, c4, c5⟩ := HC.out.1.c6
      have hsw := HC.out.1.lt
      obtain ⟨A3, k3, hu'⟩ := HC.out.2.1.slice
      subst hu'
      have hlen := take_len (Nat.le_of_lt hF) (S k)
      have HTN : Hid (takeB F most (S k) = takeB F most (S k)) := rfl
      by_cases hkn : k < n
      · by_cases hfm : (takeB F most (S k)).length < most
        · have hd1 : decide (((takeB F most (S k)).length : Int) < (most : Int)) = true := by simp; omega
          obtain ⟨NT, hNT⟩ : ∃ NT, (takeB F most (S k)).length = NT := ⟨_, rfl⟩
          rw [hNT] at c4 hlen hfm hd1 HC
          have HNT := Lib.hid hNT
          clear hNT
          have HSTk := Lib.hid (HST.out k)
          have hUB := HMB.out k
          cases hu : M.testBit k
          · have hbit := bit_i64 (k := k) hmL
            rw [hu] at hbit hUB
            have HUB := Lib.hid hUB.symm
            clear hu hUB
            go_wp2
            go_quiet (fail)
            go_wp2
            have HBQ : Hid (Below wr.heap.size wr (wr.drewN nq)) := below_drewN (Below.refl _ _) nq
            have HCi := Lib.hid (And.intro (HC.out.1.below HBQ.out) (And.intro (HC.out.2.1.below HBQ.out) (HC.out.2.2.below HBQ.out)))
            clear c0 c1 c2 c3 c4 c5 hbit hsw
            generalize wr.drewN nq = wi at *
            obtain ⟨wo, rfl⟩ : ∃ wo : World, wo = wr := ⟨_, rfl⟩
            go_loopw [8, 9] (fun f q wq => ∃ (j : Nat) (b : Bool), j ≤ L.length ∧ q = .int .i64 j ∧ f = .bool b ∧ Hid (Below wi.heap.size wi wq ∧ (b = true → ∀ a, a < j → Cnd T1 T2 L k a) ∧ (b = false → ∃ a, a < L.length ∧ ¬ Cnd T1 T2 L k a))) (fun _ q _ => L.length - (intOf q).toNat)
            case atStart => exact ⟨0, true, by omega, rfl, rfl, Below.refl _ _, fun _ a ha => by omega, fun h => by cases h⟩
            case round =>
              obtain ⟨j, b, hj, rfl, rfl, HD⟩ := hrel
              cases b
              · have HFS : Hid (fitS T1 T2 L k = false) := by
                  obtain ⟨a, ha, hc⟩ := HD.out.2.2 rfl
                  unfold Hid; rw [← Bool.not_eq_true, fitS_iff]
                  intro h; exact hc (h.2 a ha)
                by_cases hjl : j < L.length
                all_goals
                  go_wp2
                  go_roundw
                  case rel => exact ⟨k + 1, _, by omega, by go_num, HCi.out.1.below HD.out.1, by rw [HSTk.out, HFS.out, if_neg (by simp), List.append_nil]; exact HCi.out.2.1.below HD.out.1, HCi.out.2.2.below HD.out.1⟩
                  case measure => simp [intOf]; omega
              · by_cases hjl : j < L.length
                · have HRw : Hid (Ro wo bl (.slice B L.length dl) L) := HC.out.2.2.ro HR.out HUN.out HSEP.out.1
                  have HBq : Hid (Below wo.heap.size wo wr) := below_up HBQ.out HD.out.1
                  have HVj := HV.out.rng j hjl
                  have hxne : im L j ≠ k := (usedB_not.1 HUB.out) j hjl
                  have hr1 := H1.out.rng L.length j hln (by omega) (by omega)
                  have hr2 := H2.out.rng k (im L j) hkn HVj.1 (Ne.symm hxne)
                  have HXq : Hid (Va wr g1 256 F1) := Va.below (HC.out.2.2.row HX.out hs1 HSEP.out.2.1) HBq.out
                  have HYq : Hid (Va wr g2 256 F2) := Va.below (HC.out.2.2.row HY.out hs2 HSEP.out.2.2) HBq.out
                  have p1 := HXq.out.cell (i := 16 * L.length + j) (by omega)
                  rw [HF1.out L.length j hln (by omega) (by omega)] at p1
                  have p2 := HYq.out.cell (i := 16 * k + im L j) (by have := HVj.1; omega)
                  rw [HF2.out k (im L j) hkn HVj.1 (Ne.symm hxne)] at p2
                  obtain ⟨e1, o1, hA1, he1, p0⟩ := (HRw.out.il1.below HBq.out).at_ hjl
                  rw [HVj.2] at p0
                  subst hA1
                  obtain ⟨C, hC⟩ : ∃ C, C = T1 L.length j := ⟨_, rfl⟩
                  obtain ⟨x, hx⟩ : ∃ x, x = im L j := ⟨_, rfl⟩
                  obtain ⟨z, hz⟩ : ∃ z, z = T2 k x := ⟨_, rfl⟩
                  rw [← hx] at p0 p2 hr2 HVj
                  rw [← hz] at p2 hr2
                  rw [← hC] at p1 hr1
                  have HN := Lib.hid (And.intro hC (And.intro hx hz))
                  obtain ⟨d0, d1, d2, d3, d4, d5⟩ := (HCi.out.1.below HD.out.1).c6
                  have hl1 := HXq.out.lt
                  have hl2 := HYq.out.lt
                  have hsq := (HCi.out.1.below HD.out.1).lt
                  have i0 : x < 15 := by have := HVj.1; omega
                  have i1 : k < 15 := by omega
                  have i2 : C < 15 := by omega
                  have i3 : z < 15 := by omega
                  have i4 : 16 * L.length + j < 256 := by omega
                  have i5 : 16 * k + x < 256 := by omega
                  clear hC hx hz HVj hr1 hr2 hxne
                  by_cases hCl : C < L.length
                  · obtain ⟨e2, o2, hA2, he2, q0⟩ := (HRw.out.il1.below HBq.out).at_ hCl
                    simp only [Option.some.injEq, Addr.mk.injEq] at hA2
                    obtain ⟨rfl, rfl, -⟩ := hA2
                    rw [(HV.out.rng C hCl).2] at q0
                    have HCV := Lib.hid (HV.out.rng C hCl).1
                    obtain ⟨y, hy⟩ : ∃ y, y = im L C := ⟨_, rfl⟩
                    rw [← hy] at q0
                    have HY2 := Lib.hid hy
                    clear hy
                    go_wp2
                    go_quiet (fail)
                    go_wp2
                    go_roundw
                    case rel => exact ⟨j + 1, _, by omega, by go_num, rfl, below_up HD.out.1 (below_drewN (Below.refl _ _) _), cnd_step (HD.out.2.1 trivial) hjl (cnd_in HN.out.1 HN.out.2.1 HN.out.2.2 HY2.out hCl)⟩
                    case measure => simp [intOf]; omega
                  · have hCl' : decide ((C : Int) < (L.length : Int)) = false := by simp; omega
                    go_wp2
                    go_quiet (fail)
                    go_wp2
                    go_roundw
                    case rel => exact ⟨j + 1, _, by omega, by go_num, rfl, below_up HD.out.1 (below_drewN (Below.refl _ _) _), cnd_step (HD.out.2.1 trivial) hjl (cnd_out HN.out.1 HN.out.2.1 HN.out.2.2 hmL (HMB.out z) hCl)⟩
                    case measure => simp [intOf]; omega
                · obtain rfl : j = L.length := by omega
                  have HFS : Hid (fitS T1 T2 L k = true) := fitS_iff.2 ⟨HUB.out, fun q hq => HD.out.2.1 rfl q hq⟩
                  have HBq : Hid (Below wo.heap.size wo wr) := below_up HBQ.out HD.out.1
                  have HRw : Hid (Ro wr bl (.slice B L.length dl) L) := (HC.out.2.2.ro HR.out HUN.out HSEP.out.1).below HBq.out
                  have HCr := Lib.hid (And.intro (HC.out.1.below HBq.out) (And.intro (HC.out.2.1.below HBq.out) (HC.out.2.2.below HBq.out)))
                  have HXq : Hid (Va wr g1 256 F1) := Va.below (HC.out.2.2.row HX.out hs1 HSEP.out.2.1) HBq.out
                  have HYq : Hid (Va wr g2 256 F2) := Va.below (HC.out.2.2.row HY.out hs2 HSEP.out.2.2) HBq.out
                  have HSW : Hid (w.heap.size ≤ wr.heap.size) := HCr.out.2.2.size
                  have hk15 : k < 15 := by omega
                  clear HC HCi HBq HBQ HD
                  go_wp2_with fail
                  refine (l01Own_any _ bl L _ HRw.out (by omega)).mono ?_
                  rintro e w1 ⟨r, rfl, hr, hb⟩
                  have HO : Hid (w1.ownsRow wr.heap.size 2 1 r L.length (L.map (Value.int .i64))) := hr
                  have HB1 := Lib.hid hb
                  clear hr hb
                  have hbw_ := HB1.out.size; go_wp2_with (at_builtin; refine wpList_append_own _ rfl _ _ 39 rfl (wr).heap.size 2 ni0 (.int .i64 0) 1 8 Try.underlying39 hni hni0 hni1 hni2 rfl (by decide) _ _ _ rfl (HO.out.alloc _) ⟨(w1).heap.size, 0, none⟩ 1 1 [.int .i64 (k)] rfl rfl (cells_new _ _ _) (by simp [Value.oneCell']) (by unfold maxLen; omega) (by omega) (by simp; omega) ?_; intro v2 w2 hown2 hg2 _); have HO2 := Lib.hid hown2; have HB3 : Hid (Below (wr).heap.size (wr) w2) := (HB1.out.alloc HB1.out.size _).grown hg2 (by simp; omega) (own_block HO.out); clear hown2 hg2 hbw_
                  have hI : fitI T1 T2 L k = true := fitI_iff.2 ⟨HUB.out, fun a ha hT => by
                    have := ((fitS_iff.1 HFS.out).2 a ha).1
                    rw [H1.out.sym] at hT ⊢
                    rw [this hT, H2.out.sym]⟩
                  have HVS := Lib.hid (val_step H1.out H2.out HV.out hln hkn hI)
                  have HR2 : Hid (Ro w2 wr.heap.size v2 (L ++ [(k : Int)])) := by have h := HO2.out; unfold Hid Ro; simpa using h
                  have HSS : Hid (v2.ownBlock ≠ some s) := fun e => by have := (HR2.out.lt s e).1; have := HCr.out.1.lt; omega
                  have HSU : Hid (∀ b, v2.ownBlock = some b → (Value.slice A3 NT k3).ownBlock ≠ some b) := fun b e e2 => by have := (HR2.out.lt b e).1; have := (HCr.out.2.1.lt b e2).2; omega
                  have hcall := HIH.out (L ++ [(k : Int)]) (takeB F most (S k)) (.slice A3 NT k3) v2 wr.heap.size w2 (by simp; omega) HVS.out (by rw [HNT.out]; exact hfm) (HCr.out.1.below HB3.out) (HXq.out.below HB3.out) (HYq.out.below HB3.out) (HCr.out.2.1.below HB3.out) HR2.out HSS.out HSU.out (HCr.out.2.2.ne hsz q3) (HCr.out.2.2.ne HX.out.lt HSEP.out.2.1) (HCr.out.2.2.ne HY.out.lt HSEP.out.2.2) (Nat.le_trans hb2 (Nat.le_trans HSW.out HB3.out.size))
                  rw [HBS.out k, ← or_i64 hmL hk15] at hcall
                  refine hcall.mono ?_
                  rintro e w3 ⟨u3, rfl, hG3, hP3, hGs3⟩
                  have HG3 := Lib.hid hG3; have HP3 := Lib.hid hP3; have HGs3 := Lib.hid hGs3
                  clear hG3 hP3 hGs3 hcall hI
                  go_wp2
                  go_roundw
                  case rel => exact ⟨k + 1, u3, by omega, by go_num, HG3.out, by rw [HSTk.out, if_pos ⟨Nat.zero_le _, HFS.out⟩, take_app]; exact HP3.out, (HCr.out.2.2.below HB3.out).join HGs3.out⟩
                  case measure => simp [intOf]; omega
          · have hbit := bit_i64 (k := k) hmL
            rw [hu] at hbit hUB
            have HFS : Hid (fitS T1 T2 L k = false) := by
              unfold Hid; rw [← Bool.not_eq_true, fitS_iff, ← hUB]; simp
            clear hu hUB
            go_wp2
            go_quiet (fail)
            go_wp2
            go_roundw
            case rel =>
              have hb : Below wr.heap.size wr (wr.drewN nq) := below_drewN (Below.refl _ _) nq
              exact ⟨k + 1, _, by omega, by go_num, HC.out.1.below hb, by rw [HSTk.out, HFS.out, if_neg (by simp), List.append_nil]; exact HC.out.2.1.below hb, HC.out.2.2.below hb⟩
            case measure => simp [intOf]; omega
        · have hd1 : decide (((takeB F most (S k)).length : Int) < (most : Int)) = false := by simp; omega
          have HE : Hid (takeB F most (S n) = takeB F most (S k)) := HSTOP.out k _ rfl (by omega) (by omega)
          obtain ⟨NT, hNT⟩ : ∃ NT, (takeB F most (S k)).length = NT := ⟨_, rfl⟩
          rw [hNT] at c4 hlen hfm hd1 HC
          clear hNT
          go_wp2
          go_quiet (fail)
          go_wp2
          have hb : Below wr.heap.size wr (wr.drewN nq) := below_drewN (Below.refl _ _) nq
          go_end0
          exact ⟨_, rfl, HC.out.1.below hb, by rw [HEN.out, HE.out]; exact HC.out.2.1.below hb, HC.out.2.2.below hb⟩
      · obtain rfl : k = n := by omega
        have hlen2 : (takeB F most (S k)).length ≤ 1000000 := by omega
        obtain ⟨NT, hNT⟩ : ∃ NT, (takeB F most (S k)).length = NT := ⟨_, rfl⟩
        rw [hNT] at c4 hlen HC
        clear hNT hlen2
        go_wp2
        go_quiet (fail)
        go_wp2
        have hb : Below wr.heap.size wr (wr.drewN nq) := below_drewN (Below.refl _ _) nq
        go_end0
        exact ⟨_, rfl, HC.out.1.below hb, by rw [HEN.out]; exact HC.out.2.1.below hb, HC.out.2.2.below hb⟩

end Go.Proofs.Ytgbkonnmjmlalaa

/- Contracts of the program's search for renumberings; conditions: stated in each. -/
namespace Go.Proofs.Ytgbkonnmjmlalaa
open Go.RowKit
set_option maxHeartbeats 1000000
set_option maxRecDepth 100000
set_option linter.unusedSimpArgs false
set_option linter.unusedVariables false

/-- a grid tells T's third points -/
def GT (n : Nat) (G : Nat → Int) (T : Nat → Nat → Nat) : Prop := ∀ a b, a < n → b < n → a ≠ b → G (a * 15 + b) = (T a b : Int)
theorem fits_any (sb n gx gy : Nat) (ev : Value) (to : Nat → Int) (us : Nat → Bool) (G1 G2 : Nat → Int) (T1 T2 : Nat → Nat → Nat) (L : List Int) (q : Nat) (w : World)
    (hS : Sb w sb n gx gy ev to us) (hx : Gr w gx G1) (hy : Gr w gy G2) (h1 : Sts n T1) (h2 : Sts n T2) (hn : n ≤ 15) (hG1 : GT n G1 T1) (hG2 : GT n G2 T2) (hp : L.length < n) (hq : q < n) (hv : Val n T1 T2 L)
    (hto : ∀ k, k < L.length → to k = nthI L k) (hus : ∀ i, i < n → us i = usedB L i) :
    Calls Try.prog 131 #[.pointer (some ⟨sb, 0, none⟩), .int .i64 (L.length : Int), .int .i64 (q : Int)] w fun e w' => e = .returned (.bool (fitI T1 T2 L q)) ∧ Below w.heap.size w w' := by
  have HS := Lib.hid hS; have HX := Lib.hid hx; have HY := Lib.hid hy; have H1 := Lib.hid h1; have H2 := Lib.hid h2; have HG1 := Lib.hid hG1; have HG2 := Lib.hid hG2; have HV := Lib.hid hv; have HTO := Lib.hid hto
  have c_us := hS.c_us (k := q) (by omega)
  have hsz := hS.lt
  rw [hus q hq] at c_us
  clear hS hx hy h1 h2 hG1 hG2 hv hto
  cases hu : usedB L q
  · rw [hu] at c_us
    have HU := Lib.hid hu
    go_enter Try.func131, Try.ntmps131
    go_wp2
    clear c_us
    go_loopw [16] (fun i wr => ∃ k : Nat, k ≤ L.length ∧ i = .int .i64 k ∧ Hid (Below w.heap.size w wr ∧ ∀ a, a < k → T1 a L.length < L.length → T2 (im L a) q = im L (T1 a L.length))) (fun i _ => L.length - (intOf i).toNat)
    case atStart => exact ⟨0, by omega, rfl, Below.refl _ _, fun a ha => by omega⟩
    case round =>
      obtain ⟨k, hk, rfl, HC⟩ := hrel
      have HSw := Lib.hid ((HS.out : Row _ _ _ _).below HC.out.1)
      replace HSw : Hid (Sb wr sb n gx gy ev to us) := HSw
      have HXw := Lib.hid (HX.out.below HC.out.1)
      have HYw := Lib.hid (HY.out.below HC.out.1)
      have hszw := HSw.out.lt
      by_cases hlt : k < L.length
      · have c_x := HSw.out.c_x
        have c_y := HSw.out.c_y
        have hgx := HXw.out.lt
        have hgy := HYw.out.lt
        have hr := H1.out.rng k L.length (by omega) hp (by omega)
        have p1 := HXw.out.cell (i := k * 15 + L.length) (by omega)
        rw [HG1.out k L.length (by omega) hp (by omega)] at p1
        obtain ⟨C, hC⟩ : ∃ C, C = T1 k L.length := ⟨_, rfl⟩
        rw [← hC] at p1 hr
        have HC2 := Lib.hid hC
        clear hC
        by_cases hcl : C < L.length
        · have hv1 := HV.out.rng k hlt
          have hv2 := HV.out.rng C hcl
          have hne : im L k ≠ q := (usedB_not.1 HU.out) k hlt
          have t1 := HSw.out.c_to (k := k) (by omega)
          have t2 := HSw.out.c_to (k := C) (by omega)
          rw [HTO.out k hlt, hv1.2] at t1
          rw [HTO.out C hcl, hv2.2] at t2
          have hr2 := H2.out.rng (im L k) q hv1.1 hq hne
          have p2 := HYw.out.cell (i := im L k * 15 + q) (by have := hv1.1; omega)
          rw [HG2.out (im L k) q hv1.1 hq hne] at p2
          obtain ⟨x, hx⟩ : ∃ x, x = im L k := ⟨_, rfl⟩
          obtain ⟨y, hy⟩ : ∃ y, y = im L C := ⟨_, rfl⟩
          rw [← hx] at t1 p2 hr2 hv1 hne
          rw [← hy] at t2 hv2
          obtain ⟨z, hz⟩ : ∃ z, z = T2 x q := ⟨_, rfl⟩
          rw [← hz] at p2 hr2
          have HXY := Lib.hid (And.intro hx (And.intro hy hz))
          have hx15 : x < 15 := by omega
          have i1 : (k : Int) < 15 := by omega
          have i2 : (C : Int) < 15 := by omega
          have i3 : (q : Int) < 15 := by omega
          have i4 : (x : Int) < 15 := by omega
          have j1 : k < 15 := by omega
          have j2 : C < 15 := by omega
          have j3 : q < 15 := by omega
          clear hx hy hz hv1 hv2 hne hr2
          by_cases heq : z = y
          · have hne' : ((z : Int) != (y : Int)) = false := by subst heq; simp
            have HEQ := Lib.hid heq; clear heq
            go_wp2
            have HKEEP := Lib.hid (And.intro c_y (And.intro t1 (And.intro t2 p2)))
            clear c_x c_y t1 t2 p1 p2
            go_region_held3 (fun w' => w'.cell? ⟨sb, 2, none⟩ = some (.pointer (some ⟨gy, 0, none⟩)) ∧ w'.cell? ⟨sb, 3 + k, none⟩ = some (.int .i64 (x : Int)) ∧ w'.cell? ⟨sb, 3 + C, none⟩ = some (.int .i64 (y : Int)) ∧ w'.cell? ⟨gy, x * 15 + q, none⟩ = some (.int .i64 (z : Int))) (first | exact HKEEP.out) (fail)
            go_wp2
            go_roundw
            case rel =>
              refine ⟨k + 1, by omega, by go_num, below_up HC.out.1 (below_drew _), fun a ha hT => ?_⟩
              by_cases hak : a < k
              · exact HC.out.2 a hak hT
              · obtain rfl : a = k := by omega
                rw [← HC2.out, ← HXY.out.1, ← HXY.out.2.1, ← HXY.out.2.2]; exact HEQ.out
            case measure => simp [intOf]; omega
          · have hne' : ((z : Int) != (y : Int)) = true := by simp; omega
            have HEQ := Lib.hid heq; clear heq
            go_wp2
            have HKEEP := Lib.hid (And.intro c_y (And.intro t1 (And.intro t2 p2)))
            clear c_x c_y t1 t2 p1 p2
            go_region_held3 (fun w' => w'.cell? ⟨sb, 2, none⟩ = some (.pointer (some ⟨gy, 0, none⟩)) ∧ w'.cell? ⟨sb, 3 + k, none⟩ = some (.int .i64 (x : Int)) ∧ w'.cell? ⟨sb, 3 + C, none⟩ = some (.int .i64 (y : Int)) ∧ w'.cell? ⟨gy, x * 15 + q, none⟩ = some (.int .i64 (z : Int))) (first | exact HKEEP.out) (fail)
            go_wp2
            go_ret
            refine ⟨ret_bool ?_, below_up HC.out.1 (below_drew _)⟩
            symm
            rw [← Bool.not_eq_true, fitI_iff]
            intro h
            have := h.2 k hlt (by rw [← HC2.out]; exact hcl)
            rw [← HC2.out, ← HXY.out.1, ← HXY.out.2.1, ← HXY.out.2.2] at this
            exact HEQ.out this
        · have hcl2 : decide ((C : Int) < (L.length : Int)) = false := by simp; omega
          go_wp2
          clear c_x c_y p1
          go_quiet (fail)
          go_wp2
          go_roundw
          case rel =>
            refine ⟨k + 1, by omega, by go_num, below_drewN HC.out.1 _, fun a ha hT => ?_⟩
            by_cases hak : a < k
            · exact HC.out.2 a hak hT
            · obtain rfl : a = k := by omega
              rw [← HC2.out] at hT; exact absurd hT hcl
          case measure => simp [intOf]; omega
      · obtain rfl : k = L.length := by omega
        go_wp2
        go_ret
        exact ⟨ret_bool (fitI_iff.2 ⟨HU.out, HC.out.2⟩).symm, HC.out.1⟩
  · rw [hu] at c_us
    go_enter Try.func131, Try.ntmps131
    go_wp2
    go_ret
    refine ⟨ret_bool ?_, Below.refl _ _⟩
    symm
    rw [← Bool.not_eq_true, fitI_iff, hu]
    simp

end Go.Proofs.Ytgbkonnmjmlalaa

/- Plain laws of what the program makes of all renumberings. Conditions: none. -/
namespace Go.Proofs.Ytgbkonnmjmlalaa

theorem runE_first (p : List Int → Bool) : ∀ Ls C, C.filter p = [] → (runE (fun C => (C.filter p).isEmpty) Ls C).1.filter p = (Ls.filter p).take 1 := by
  intro Ls
  induction Ls with
  | nil => intro C h; simpa [runE] using h
  | cons L Ls ih =>
    intro C h
    rw [runE]
    cases hp : p L
    · have e : (C ++ [L]).filter p = [] := by rw [List.filter_append, h, List.filter_cons_of_neg (by simp [hp])]; rfl
      rw [if_pos (by rw [e]; rfl), ih _ e, List.filter_cons_of_neg (by simp [hp])]
    · have e : (C ++ [L]).filter p = [L] := by rw [List.filter_append, h, List.filter_cons_of_pos hp]; rfl
      rw [if_neg (by rw [e]; simp)]
      show (C ++ [L]).filter p = _
      rw [e, List.filter_cons_of_pos hp]; rfl
theorem runE_cap (m : Nat) : ∀ Ls C, C.length ≤ m → (runE (fun C => decide (C.length ≤ m)) Ls C).1 = C ++ Ls.take (m + 1 - C.length) := by
  intro Ls
  induction Ls with
  | nil => intro C h; simp [runE]
  | cons L Ls ih =>
    intro C h
    rw [runE]
    have e : m + 1 - C.length = (m - C.length) + 1 := by omega
    rw [e, List.take_succ_cons]
    by_cases hc : (C ++ [L]).length ≤ m
    · rw [if_pos (by simpa using hc), ih _ hc, List.append_assoc, List.singleton_append]
      rw [List.length_append, List.length_singleton] at hc ⊢
      have e2 : m + 1 - (C.length + 1) = m - C.length := by omega
      rw [e2]
    · rw [if_neg (by simpa using hc)]
      rw [List.length_append, List.length_singleton] at hc
      have e2 : m - C.length = 0 := by omega
      rw [e2]; rfl
theorem runE_go {cont : List (List Int) → Bool} : ∀ {Ls C D : List (List Int)}, runE cont Ls C = (D, true) → (C = [] ∨ cont C = true) → (D = [] ∨ cont D = true) := by
  intro Ls
  induction Ls with
  | nil =>
    intro C D h hc
    rw [runE] at h
    simp only [Prod.mk.injEq, and_true] at h
    subst h; exact hc
  | cons L Ls ih =>
    intro C D h hc
    rw [runE] at h
    by_cases e : cont (C ++ [L]) = true
    · rw [if_pos e] at h; exact ih h (.inr e)
    · rw [if_neg e] at h; simp at h
theorem runE_one (Ls : List (List Int)) : (runE (fun _ => false) Ls []).1 = Ls.take 1 := by
  cases Ls with
  | nil => rfl
  | cons L Ls => rw [runE]; rfl
/-- how many points a renumbering keeps -/
def kepN (L : List Int) : Nat → Nat
  | 0 => 0
  | k + 1 => kepN L k + (if (nthI L k == (k : Int)) = true then 1 else 0)
theorem kepN_le (L : List Int) (k : Nat) : kepN L k ≤ k := by
  induction k with
  | zero => simp [kepN]
  | succ k ih => rw [kepN]; split <;> omega
def cnL (p : List Int → Bool) : List (List Int) → Nat
  | [] => 0
  | L :: Ls => (if p L = true then 1 else 0) + cnL p Ls
theorem cnL_app (p : List Int → Bool) (A B : List (List Int)) : cnL p (A ++ B) = cnL p A + cnL p B := by
  induction A with
  | nil => simp [cnL]
  | cons L A ih => rw [List.cons_append, cnL, cnL, ih]; omega
theorem cnL_one (p : List Int → Bool) (A : List (List Int)) (L : List Int) : cnL p (A ++ [L]) = cnL p A + (if p L = true then 1 else 0) := by
  rw [cnL_app, cnL, cnL]; omega
theorem cnL_le (p : List Int → Bool) (A : List (List Int)) : cnL p A ≤ A.length := by
  induction A with
  | nil => simp [cnL]
  | cons L A ih => rw [cnL, List.length_cons]; split <;> omega
/-- the first list, or none -/
def fstL (Ls : List (List Int)) : List Int := Ls.headD []
theorem take_succ' (Ls : List (List Int)) {k : Nat} (h : k < Ls.length) : Ls.take (k + 1) = Ls.take k ++ [Ls.getD k []] := by
  rw [List.take_succ_eq_append_getElem h]
  simp [List.getD_eq_getElem?_getD, List.getElem?_eq_getElem h]

/-- all renumberings that lead one system to another one -/
noncomputable def leadL (n : Nat) (xs ys : List Blk) : List (List Int) := enumL n (fitI (thN xs) (thN ys)) n []
theorem lead_at {n : Nat} {xs ys : List Blk} (hs : isSys n xs) (ht : isSys n ys) (hf : fullB n xs = true) (hg : fullB n ys = true) {k : Nat} (hk : k < (leadL n xs ys).length) :
    Val n (thN xs) (thN ys) ((leadL n xs ys).getD k []) ∧ ((leadL n xs ys).getD k []).length = n := by
  refine (lead_iff (sts_of hs hf) (sts_of ht hg)).1 ?_
  rw [List.getD_eq_getElem?_getD, List.getElem?_eq_getElem hk, Option.getD_some]
  exact List.getElem_mem hk
noncomputable def stabR (v : Int) (xs : List Blk) (p : Int) : Int × Int :=
  if isSysB v xs = true then (if 0 ≤ p ∧ p ≤ v - 1 then (if fullB v xs = true then ((cnL (fun L => nthI L p.toNat == p) (leadL v.toNat xs xs) : Nat), 0) else (0, 5)) else (0, 2)) else (0, 1)
noncomputable def goR (v : Int) (xs : List Blk) : List Int × Int :=
  if fcode v xs = 0 then (if (leadL v.toNat xs xs).filter goB = [] then ([], 4) else (fstL ((leadL v.toNat xs xs).filter goB), 0)) else ([], fcode v xs)
noncomputable def autR (v : Int) (xs : List Blk) : List (List Int) × Int :=
  if fcode v xs = 0 then (if (leadL v.toNat xs xs).length > 500 then ([], 3) else (leadL v.toNat xs xs, 0)) else ([], fcode v xs)
noncomputable def kepR (v : Int) (xs : List Blk) : List Int × Int :=
  if fcode v xs = 0 then ((List.range (v.toNat + 1)).map (fun j => ((cnL (fun L => kepN L v.toNat == j) (leadL v.toNat xs xs) : Nat) : Int)), 0) else ([], fcode v xs)
noncomputable def code2 (v : Int) (xs : List Blk) (u : Int) (ys : List Blk) : Int := if isSysB v xs = true ∧ isSysB u ys = true then (if fullB v xs = true ∧ fullB u ys = true then 0 else 5) else 1
noncomputable def findR (v : Int) (xs : List Blk) (u : Int) (ys : List Blk) : List Int × Int :=
  if code2 v xs u ys = 0 then (if v = u ∧ leadL v.toNat xs ys ≠ [] then (fstL (leadL v.toNat xs ys), 0) else ([], 4)) else ([], code2 v xs u ys)
noncomputable def isoR (v : Int) (xs : List Blk) (u : Int) (ys : List Blk) : Bool × Int :=
  if code2 v xs u ys = 0 then (if v = u ∧ leadL v.toNat xs ys ≠ [] then (true, 0) else (false, 0)) else (false, code2 v xs u ys)

theorem fcode_sys {v : Int} {xs : List Blk} (h : fcode v xs = 0) : isSysB v xs = true ∧ fullB v xs = true := by
  unfold fcode at h
  (repeat' split at h) <;> first | exact ⟨by assumption, by assumption⟩ | cases h
theorem fst_mem {Ls : List (List Int)} (h : Ls ≠ []) : fstL Ls ∈ Ls := by
  cases Ls with
  | nil => exact absurd rfl h
  | cons L Ls => simp [fstL]
theorem lead_len {n : Nat} {xs ys : List Blk} (hs : isSys n xs) (ht : isSys n ys) (hf : fullB n xs = true) (hg : fullB n ys = true) {M : List Int} (h : M ∈ leadL n xs ys) : M.length = n :=
  ((lead_iff (sts_of hs hf) (sts_of ht hg)).1 h).2
theorem goR_bd (v : Int) (xs : List Blk) : (goR v xs).1.length ≤ 15 := by
  unfold goR
  split
  · rename_i h
    obtain ⟨h1, h2⟩ := fcode_sys h
    have hs := isSysB_iff.1 h1
    have hv := hs.1
    obtain ⟨n, rfl⟩ := Int.eq_ofNat_of_zero_le (by omega : 0 ≤ v)
    split
    · simp
    · rename_i hne
      have hm := fst_mem hne
      have := lead_len hs hs h2 h2 (List.mem_filter.1 hm).1
      show (fstL _).length ≤ 15
      omega
  · simp
theorem code2_zero {v u : Int} {xs ys : List Blk} (h : code2 v xs u ys = 0) : (isSysB v xs = true ∧ isSysB u ys = true) ∧ fullB v xs = true ∧ fullB u ys = true := by
  unfold code2 at h
  (repeat' split at h) <;> first | exact ⟨by assumption, by assumption⟩ | cases h
theorem findR_bd (v : Int) (xs : List Blk) (u : Int) (ys : List Blk) : (findR v xs u ys).1.length ≤ 15 := by
  unfold findR
  split
  · rename_i h
    obtain ⟨⟨h1, h2⟩, h3, h4⟩ := code2_zero h
    split
    · rename_i hne
      obtain ⟨rfl, hne⟩ := hne
      have hs := isSysB_iff.1 h1
      have hv := hs.1
      obtain ⟨n, rfl⟩ := Int.eq_ofNat_of_zero_le (by omega : 0 ≤ v)
      have hm := fst_mem hne
      have := lead_len hs (isSysB_iff.1 h2) h3 h4 hm
      show (fstL _).length ≤ 15
      omega
    · simp
  · simp

end Go.Proofs.Ytgbkonnmjmlalaa

/- The contract of the program's search for renumberings; conditions: stated in it. -/
namespace Go.Proofs.Ytgbkonnmjmlalaa
open Go.RowKit
set_option maxHeartbeats 1000000
set_option maxRecDepth 100000
set_option linter.unusedSimpArgs false
set_option linter.unusedVariables false

/-- what is asked of what a search calls: g with fa and la; C: the lists so far -/
structure EachOk (sb n gx gy : Nat) (g : Nat) (fa la : Array Value) (cont : List (List Int) → Bool) (Inv : List (List Int) → World → Prop) (V : List Int → Prop) : Prop where
  eg : ∀ args w, (callFunc g args).run Try.prog w = .ok (.enter g args) w
  stab : ∀ C w w', Inv C w → (∃ cur, Row w sb 124 cur) → w.grownBy w' (some sb) → Inv C w'
  call : ∀ C L W to us, (∃ G, Gr W gx G) → (∃ G, Gr W gy G) → V L → (C = [] ∨ cont C = true) → Inv C W → Sb W sb n gx gy (.func (.func g) fa la) to us → L.length = n → (∀ k, k < n → to k = nthI L k) →
    Calls Try.prog g (fa ++ #[.slice (some ⟨sb, 3, none⟩) n 15] ++ la) W fun e w' => e = .returned (.bool (cont (C ++ [L]))) ∧ Inv (C ++ [L]) w' ∧ W.heap.size ≤ w'.heap.size ∧ w'.heap[sb]? = W.heap[sb]? ∧ w'.heap[gx]? = W.heap[gx]? ∧ w'.heap[gy]? = W.heap[gy]?

theorem from_any (sb n gx gy : Nat) (g : Nat) (fa la : Array Value) (cont : List (List Int) → Bool) (Inv : List (List Int) → World → Prop) (G1 G2 : Nat → Int) (T1 T2 : Nat → Nat → Nat)
    (hE : EachOk sb n gx gy g fa la cont Inv (Val n T1 T2)) (h1 : Sts n T1) (h2 : Sts n T2) (hn : n ≤ 15) (hG1 : GT n G1 T1) (hG2 : GT n G2 T2) (hsx : sb ≠ gx) (hsy : sb ≠ gy) :
    ∀ (d : Nat) (L : List Int) (C : List (List Int)) (to : Nat → Int) (us : Nat → Bool) (w : World), L.length + d = n → Val n T1 T2 L → (C = [] ∨ cont C = true) → Inv C w → Sb w sb n gx gy (.func (.func g) fa la) to us → Gr w gx G1 → Gr w gy G2 → (∀ k, k < L.length → to k = nthI L k) → (∀ i, i < n → us i = usedB L i) →
    Calls Try.prog 119 #[.pointer (some ⟨sb, 0, none⟩), .int .i64 (L.length : Int)] w fun e w' => ∃ C' fl, e = .returned (.bool fl) ∧ runE cont (enumL n (fitI T1 T2) d L) C = (C', fl) ∧ Inv C' w' ∧ Gr w' gx G1 ∧ Gr w' gy G2 ∧ w.heap.size ≤ w'.heap.size ∧ (fl = true → ∃ to', Sb w' sb n gx gy (.func (.func g) fa la) to' us ∧ ∀ k, k < L.length → to' k = nthI L k) := by
  intro d
  induction d with
  | zero =>
    intro L C to us w hd hv hgo hI hS hx hy hto hus
    have hdn : L.length = n := by omega
    have HI := Lib.hid hI; have HS := Lib.hid hS; have HX := Lib.hid hx; have HY := Lib.hid hy; have HTO := Lib.hid hto; have HVL0 := Lib.hid hv
    have HEC := Lib.hid hE.call
    have HEST := Lib.hid hE.stab
    have eg : ∀ args w, (callFunc g args).run Try.prog w = .ok (.enter g args) w := hE.eg
    have c_n := hS.c_n; have c_ev := hS.c_ev; have hsz := hS.lt
    clear hI hS hx hy hto hus hv
    subst hdn
    have i1 : (L.length : Int) ≤ 15 := by omega
    go_enter Try.func119, Try.ntmps119
    go_wp2
    go_still_tail 12, (by kernel_rfl)
    have HSd : Hid (Sb w.drew sb L.length gx gy (.func (.func g) fa la) to us) := HS.out.keep rfl
    have HId : Hid (Inv C w.drew) := HEST.out C w w.drew HI.out ⟨_, HS.out⟩ (grown_below (below_drew _) _)
    have HXd : Hid (Gr w.drew gx G1) := HX.out.below (below_drew _)
    have HYd : Hid (Gr w.drew gy G2) := HY.out.below (below_drew _)
    have HZd : Hid (w.heap.size ≤ w.drew.heap.size) := (below_drew w).size
    change wpList _ _ _ _ _ w.drew
    generalize w.drew = w2 at *
    clear c_n c_ev
    have c_n := HSd.out.c_n; have c_ev := HSd.out.c_ev; have hsz2 := HSd.out.lt
    go_wp2_with fail
    refine (HEC.out C L w2 to us ⟨_, HXd.out⟩ ⟨_, HYd.out⟩ HVL0.out hgo HId.out HSd.out rfl HTO.out).mono ?_
    rintro e w1 ⟨rfl, hI1, hs1, hk1, hk2, hk3⟩
    have HI1 := Lib.hid hI1; have HS1 : Hid (Sb w1 sb L.length gx gy (.func (.func g) fa la) to us) := HSd.out.keep hk1
    have HX1 : Hid (Gr w1 gx G1) := hk2.trans HXd.out
    have HY1 : Hid (Gr w1 gy G2) := hk3.trans HYd.out
    have HZ1 : Hid (w.heap.size ≤ w1.heap.size) := Nat.le_trans HZd.out hs1
    have HRE : Hid (runE cont (enumL L.length (fitI T1 T2) 0 L) C = (C ++ [L], cont (C ++ [L]))) := by
      unfold Hid; rw [enumL, runE]; cases cont (C ++ [L]) <;> simp [runE]
    clear hI1 hs1 hk1 hk2 hk3
    go_wp2
    go_ret
    exact ⟨C ++ [L], cont (C ++ [L]), rfl, HRE.out, HI1.out, HX1.out, HY1.out, HZ1.out, fun _ => ⟨to, HS1.out, HTO.out⟩⟩
  | succ d ih =>
    intro L C to us w hd hv hgo hI hS hx hy hto hus
    have HIH := Lib.hid ih; clear ih
    have HI := Lib.hid hI; have HS := Lib.hid hS; have HX := Lib.hid hx; have HY := Lib.hid hy; have HTO := Lib.hid hto; have HUS := Lib.hid hus
    have HE2 := Lib.hid hE; have HV := Lib.hid hv; have H1 := Lib.hid h1; have H2 := Lib.hid h2; have HG1' := Lib.hid hG1; have HG2' := Lib.hid hG2
    have c_n := hS.c_n; have hsz := hS.lt
    have hln : L.length < n := by omega
    have hne : ((L.length : Int) == (n : Int)) = false := by rw [beq_eq_false_iff_ne]; omega
    have HEN : Hid (enumL n (fitI T1 T2) (d + 1) L = loopL (fun i => enumL n (fitI T1 T2) d (L ++ [(i : Int)])) (fitI T1 T2 L) 0 n) := rfl
    have HST : Hid (∀ i, loopL (fun i => enumL n (fitI T1 T2) d (L ++ [(i : Int)])) (fitI T1 T2 L) 0 (i + 1) = loopL (fun i => enumL n (fitI T1 T2) d (L ++ [(i : Int)])) (fitI T1 T2 L) 0 i ++ (if 0 ≤ i ∧ fitI T1 T2 L i = true then enumL n (fitI T1 T2) d (L ++ [(i : Int)]) else [])) := fun i => rfl
    have HSTOP : Hid (∀ k D, runE cont (loopL (fun i => enumL n (fitI T1 T2) d (L ++ [(i : Int)])) (fitI T1 T2 L) 0 k) C = (D, false) → k ≤ n → runE cont (loopL (fun i => enumL n (fitI T1 T2) d (L ++ [(i : Int)])) (fitI T1 T2 L) 0 n) C = (D, false)) := fun k D h hk => runE_stop h n hk
    have HZ : Hid (loopL (fun i => enumL n (fitI T1 T2) d (L ++ [(i : Int)])) (fitI T1 T2 L) 0 0 = []) := rfl
    clear hI hS hx hy hto hus hv hE h1 h2 hG1 hG2
    generalize loopL (fun i => enumL n (fitI T1 T2) d (L ++ [(i : Int)])) (fitI T1 T2 L) 0 = S at *
    go_enter Try.func119, Try.ntmps119
    go_wp2
    clear c_n
    go_loopw [29] (fun i wr => ∃ (k : Nat) (C' : List (List Int)) (to' : Nat → Int), k ≤ n ∧ i = .int .i64 k ∧ Hid (w.heap.size ≤ wr.heap.size ∧ runE cont (S k) C = (C', true) ∧ Inv C' wr ∧ Gr wr gx G1 ∧ Gr wr gy G2 ∧ Sb wr sb n gx gy (.func (.func g) fa la) to' us ∧ ∀ j, j < L.length → to' j = nthI L j)) (fun i _ => n - (intOf i).toNat)
    case atStart => exact ⟨0, C, to, by omega, rfl, Nat.le_refl _, by rw [HZ.out]; rfl, HI.out, HX.out, HY.out, HS.out, HTO.out⟩
    case round =>
      obtain ⟨k, C', to', hk, rfl, HC⟩ := hrel
      have hszw := HC.out.2.2.2.2.2.1.lt
      by_cases hlt : k < n
      · have HSTk := Lib.hid (HST.out k)
        go_wp2_with fail
        refine (fits_any sb n gx gy _ to' us G1 G2 T1 T2 L k _ HC.out.2.2.2.2.2.1 HC.out.2.2.2.1 HC.out.2.2.2.2.1 H1.out H2.out hn HG1'.out HG2'.out hln hlt HV.out HC.out.2.2.2.2.2.2 HUS.out).mono ?_
        cases hf : fitI T1 T2 L k
        · rintro e w1 ⟨rfl, hb⟩
          have HB1 := Lib.hid hb; clear hb
          go_wp2
          go_roundw
          case rel =>
            refine ⟨k + 1, C', to', by omega, by go_num, Nat.le_trans HC.out.1 HB1.out.size, ?_, HE2.out.stab _ _ _ HC.out.2.2.1 ⟨_, HC.out.2.2.2.2.2.1⟩ (grown_below HB1.out _), HC.out.2.2.2.1.below HB1.out, HC.out.2.2.2.2.1.below HB1.out, Row.below HC.out.2.2.2.2.2.1 HB1.out, HC.out.2.2.2.2.2.2⟩
            rw [HSTk.out, if_neg (by rw [hf]; simp), List.append_nil]; exact HC.out.2.1
          case measure => simp [intOf]; omega
        · rintro e w1 ⟨rfl, hb⟩
          have HB1 := Lib.hid hb; clear hb
          have HS1 : Hid (Sb w1 sb n gx gy (.func (.func g) fa la) to' us) := Row.below HC.out.2.2.2.2.2.1 HB1.out
          have HU := Lib.hid (fitI_iff.1 hf).1
          have hs1 := HS1.out.lt
          have q1 := HS1.out.c_to (k := L.length) (by omega)
          have q2 := HS1.out.c_us (k := k) (by omega)
          have f1 := HS1.out.frozen (3 + L.length)
          have f2 := HS1.out.frozen (18 + k)
          have i1 : (k : Int) < 15 := by omega
          have i2 : (L.length : Int) < 15 := by omega
          have j1 : k < 15 := by omega
          have j2 : L.length < 15 := by omega
          go_wp2
          go_region_with (fail)
          have HS2 : Hid (Sb (((w1.setCell ⟨sb, 3 + L.length, none⟩ (.int .i64 (k : Int))).setCell ⟨sb, 18 + k, none⟩ (.bool true)).drew) sb n gx gy (.func (.func g) fa la) (updA to' L.length k) (updA us k true)) := ((HS1.out.set_to j2 k).set_us j1 true).keep rfl
          have HG2x : Hid (Gr (((w1.setCell ⟨sb, 3 + L.length, none⟩ (.int .i64 (k : Int))).setCell ⟨sb, 18 + k, none⟩ (.bool true)).drew) gx G1) := ((HC.out.2.2.2.1.below HB1.out).far hsx _).far hsx _
          have HG2y : Hid (Gr (((w1.setCell ⟨sb, 3 + L.length, none⟩ (.int .i64 (k : Int))).setCell ⟨sb, 18 + k, none⟩ (.bool true)).drew) gy G2) := ((HC.out.2.2.2.2.1.below HB1.out).far hsy _).far hsy _
          have HI2 : Hid (Inv C' (((w1.setCell ⟨sb, 3 + L.length, none⟩ (.int .i64 (k : Int))).setCell ⟨sb, 18 + k, none⟩ (.bool true)).drew)) := HE2.out.stab _ _ _ HC.out.2.2.1 ⟨_, HC.out.2.2.2.2.2.1⟩ (grown_trans (grown_below HB1.out _) (grown_drewN (grown_set (grown_set (grown_refl w1 _) _ _) _ _) 1))
          have HVL := Lib.hid (val_step H1.out H2.out HV.out hln hlt hf)
          have HTO2 : Hid (∀ j, j < (L ++ [(k : Int)]).length → updA to' L.length k j = nthI (L ++ [(k : Int)]) j) := fun j hj => by
            rw [List.length_append, List.length_singleton] at hj
            by_cases e : j = L.length
            · subst e; rw [updA_same, nthI_last]
            · rw [updA_ne _ _ e, nthI_app (by omega)]; exact HC.out.2.2.2.2.2.2 j (by omega)
          have HUS2 : Hid (∀ i, i < n → updA us k true i = usedB (L ++ [(k : Int)]) i) := fun i hi => by
            by_cases e : i = k
            · subst e; rw [updA_same]; symm; rw [usedB_iff]; exact ⟨L.length, by simp, im_last _ _⟩
            · rw [updA_ne _ _ e, HUS.out i hi, Bool.eq_iff_iff, usedB_iff, usedB_iff]
              constructor
              · rintro ⟨j, h1, h2⟩; exact ⟨j, by simp; omega, by rw [im_app h1]; exact h2⟩
              · rintro ⟨j, h1, h2⟩
                rw [List.length_append, List.length_singleton] at h1
                by_cases ej : j = L.length
                · subst ej; rw [im_last] at h2; exact absurd h2.symm e
                · rw [im_app (by omega)] at h2; exact ⟨j, by omega, h2⟩
          have HSZ : Hid (w.heap.size ≤ (((w1.setCell ⟨sb, 3 + L.length, none⟩ (.int .i64 (k : Int))).setCell ⟨sb, 18 + k, none⟩ (.bool true)).drew).heap.size) := by have h1 := HC.out.1; have h2 := HB1.out.size; unfold Hid; simp; omega
          generalize ((w1.setCell ⟨sb, 3 + L.length, none⟩ (.int .i64 (k : Int))).setCell ⟨sb, 18 + k, none⟩ (.bool true)).drew = w3 at *
          have HLEN : Hid (((L ++ [(k : Int)]).length : Int) = (L.length : Int) + 1) := by unfold Hid; simp
          clear q1 q2 f1 f2
          go_wp2_with fail
          have hcall := HIH.out (L ++ [(k : Int)]) C' _ _ w3 (by simp; omega) HVL.out (runE_go HC.out.2.1 hgo) HI2.out HS2.out HG2x.out HG2y.out HTO2.out HUS2.out
          rw [HLEN.out] at hcall
          refine hcall.mono ?_
          rintro e w4 ⟨C2, fl, rfl, hrun, hI4, hx4, hy4, hz4, hS4⟩
          have HRUN : Hid (runE cont (S (k + 1)) C = (C2, fl)) := by
            unfold Hid
            rw [HSTk.out, if_pos ⟨Nat.zero_le _, hf⟩, runE_app, HC.out.2.1, if_pos rfl]; exact hrun
          have HI4 := Lib.hid hI4; have HX4 := Lib.hid hx4; have HY4 := Lib.hid hy4; have HS4 := Lib.hid hS4; have HZ4 : Hid (w.heap.size ≤ w4.heap.size) := Nat.le_trans HSZ.out hz4
          clear hrun hI4 hx4 hy4 hS4 hz4 hcall
          cases fl
          · go_wp2
            go_ret
            exact ⟨C2, false, rfl, by rw [HEN.out]; exact HSTOP.out (k + 1) C2 HRUN.out (by omega), HI4.out, HX4.out, HY4.out, HZ4.out, fun h => by cases h⟩
          · obtain ⟨to4, hS5, hto4⟩ := HS4.out rfl
            have HS5 := Lib.hid hS5; have HTO4 := Lib.hid hto4
            have hsz4 := hS5.lt
            have q1 := hS5.c_us (k := k) (by omega)
            have f1 := hS5.frozen (18 + k)
            clear hS5 hto4
            go_wp2
            have HSF : Hid (Sb (w4.setCell ⟨sb, 18 + k, none⟩ (.bool false)) sb n gx gy (.func (.func g) fa la) to4 us) := by
              have h := HS5.out.set_us j1 false
              have e : updA (updA us k true) k false = us := by
                funext i
                unfold updA
                by_cases hi : i = k
                · rw [if_pos hi, hi, HUS.out k hlt, HU.out]
                · rw [if_neg hi, if_neg hi]
              rw [e] at h; exact h
            go_roundw
            case rel =>
              refine ⟨k + 1, C2, to4, by omega, by go_num, ?_, HRUN.out, HE2.out.stab _ _ _ HI4.out ⟨_, HS5.out⟩ (grown_set (grown_refl w4 _) _ _), HX4.out.far hsx _, HY4.out.far hsy _, HSF.out, fun j hj => ?_⟩
              · have := HZ4.out; simpa [World.setCell] using this
              · rw [HTO4.out j (by simp; omega), nthI_app hj]
            case measure => simp [intOf]; omega
      · obtain rfl : k = n := by omega
        go_wp2
        go_ret
        exact ⟨C', true, rfl, by rw [HEN.out]; exact HC.out.2.1, HC.out.2.2.1, HC.out.2.2.2.1, HC.out.2.2.2.2.1, HC.out.1, fun _ => ⟨to', HC.out.2.2.2.2.2.1, HC.out.2.2.2.2.2.2⟩⟩

end Go.Proofs.Ytgbkonnmjmlalaa

/- Contracts of the program's walk through all renumberings; conditions: stated in each. -/
namespace Go.Proofs.Ytgbkonnmjmlalaa
open Go.RowKit
set_option maxHeartbeats 1000000
set_option maxRecDepth 100000
set_option linter.unusedSimpArgs false
set_option linter.unusedVariables false

theorem gt_of {n : Nat} {xs : List Blk} (hs : isSys n xs) (hf : fullB n xs = true) : GT n (gridN xs xs.length) (thN xs) := by
  intro a b ha hb hab
  have hv := hs.1
  have h := gridN_third hs (p := a) (q := b) (by omega) (by omega) (by omega) (by omega)
  simp only [Int.toNat_natCast] at h
  have := third_full hs hf (p := a) (q := b) (by omega) (by omega) hab
  rw [h]; unfold thN; omega
/-- a call of lead: each is asked for whatever block the search gets -/
theorem lead_any (n : Nat) (A : Option Addr) (c : Nat) (xs : List Blk) (B : Option Addr) (e : Nat) (ys : List Blk) (g : Nat) (fa la : Array Value) (cont : List (List Int) → Bool) (Inv : List (List Int) → World → Prop) (w : World)
    (hA : Bl w A xs) (hl : xs.length ≤ 1048576) (hB : Bl w B ys) (hlb : ys.length ≤ 1048576) (hs : isSys n xs) (ht : isSys n ys) (hf : fullB n xs = true) (hg : fullB n ys = true)
    (hI : Inv [] w) (hst : ∀ a b, Inv [] a → Below w.heap.size a b → w.heap.size ≤ a.heap.size → Inv [] b)
    (hE : ∀ sb gx gy, w.heap.size ≤ sb → w.heap.size ≤ gx → w.heap.size ≤ gy → sb ≠ gx → sb ≠ gy → EachOk sb n gx gy g fa la cont Inv (Val n (thN xs) (thN ys))) :
    Calls Try.prog 94 #[.agg #[.int .i64 n, .slice A xs.length c], .agg #[.int .i64 n, .slice B ys.length e], .func (.func g) fa la] w fun e w' => e = .returned (.tuple #[]) ∧ Inv (runE cont (leadL n xs ys) []).1 w' ∧ w.heap.size ≤ w'.heap.size := by
  have HI := Lib.hid hI; have HST := Lib.hid hst; have HE := Lib.hid hE; have HS := Lib.hid hs; have HT := Lib.hid ht; have HF := Lib.hid hf; have HG := Lib.hid hg
  have HW := Lib.hid (below_up (below_alloc w (.cells #[.int .i64 n, .slice A xs.length c] 30)) (below_alloc _ (.cells #[.int .i64 n, .slice B ys.length e] 30)))
  have HA := Lib.hid (hA.below HW.out); have HB := Lib.hid (hB.below HW.out)
  have HR := Lib.hid ((Row.box w 30 (.int .i64 n) (.slice A xs.length c)).below (below_alloc _ (.cells #[.int .i64 n, .slice B ys.length e] 30)))
  have HQ := Lib.hid (Row.box (w.alloc (.cells #[.int .i64 n, .slice A xs.length c] 30)) 30 (.int .i64 n) (.slice B ys.length e))
  rw [World.size_alloc] at HQ
  clear hA hB hI hst hE hs ht hf hg
  go_enter Try.func94, Try.ntmps94
  obtain ⟨c0, c1⟩ := HR.out.c2
  obtain ⟨d0, d1⟩ := HQ.out.c2
  go_wp2
  generalize hWo : (w.alloc _).alloc _ = w5 at *
  have HKEEP := Lib.hid (And.intro c0 (And.intro c1 (And.intro d0 d1)))
  clear c0 c1 d0 d1
  have T0 : True := trivial
  go_region_held3 (fun w' => w'.cell? ⟨w.heap.size, 0, none⟩ = some (.int .i64 n) ∧ w'.cell? ⟨w.heap.size, 1, none⟩ = some (.slice A xs.length c) ∧ w'.cell? ⟨w.heap.size + 1, 0, none⟩ = some (.int .i64 n) ∧ w'.cell? ⟨w.heap.size + 1, 1, none⟩ = some (.slice B ys.length e)) (first | exact HKEEP.out | exact ⟨(HRz.out.below (below_alloc _ _)).c2.1, (HRz.out.below (below_alloc _ _)).c2.2, (HQz.out.below (below_alloc _ _)).c2.1, (HQz.out.below (below_alloc _ _)).c2.2⟩) (first
    | (go_at_call 83
       clear T0
       refine (grid_any n A c xs _ (HA.out.below (below_drew _)) hl HS.out).mono ?_
       rintro e6 w6 ⟨gx, rfl, hle, hGr, hb⟩
       have HGx := Lib.hid hGr
       have HB6 := Lib.hid (below_up (below_drew w5) hb)
       have HL6 : Hid (w5.heap.size ≤ gx) := hle
       have HR6 := Lib.hid (HR.out.below HB6.out); have HQ6 := Lib.hid (HQ.out.below HB6.out)
       replace HKEEP := Lib.hid (And.intro HR6.out.c2.1 (And.intro HR6.out.c2.2 (And.intro HQ6.out.c2.1 HQ6.out.c2.2)))
       clear hb hGr hle)
    | (go_at_call 83
       refine (grid_any n B e ys _ (HB.out.below HB6.out) hlb HT.out).mono ?_
       rintro e7 w7 ⟨gy, rfl, hle, hGr, hb⟩
       have HGy := Lib.hid hGr
       have HGx2 := Lib.hid (HGx.out.below hb)
       have HB7 := Lib.hid (below_up HB6.out hb)
       have HL7 : Hid (w5.heap.size ≤ gy) := Nat.le_trans HB6.out.size hle
       have HRz := Lib.hid (HR.out.below HB7.out); have HQz := Lib.hid (HQ.out.below HB7.out)
       replace HKEEP := Lib.hid (And.intro HRz.out.c2.1 (And.intro HRz.out.c2.2 (And.intro HQz.out.c2.1 HQz.out.c2.2)))
       clear hb hGr hle))
  have hsb : ∀ T, Row (w7.alloc (.cells (sCells n gx gy (.func (.func g) fa la) (fun _ => 0) (fun _ => false)) T)) w7.heap.size T (sCells n gx gy (.func (.func g) fa la) (fun _ => 0) (fun _ => false)) := fun T => Row.new w7 T _
  have HB8 := Lib.hid (below_alloc w7 (.cells (sCells n gx gy (.func (.func g) fa la) (fun _ => 0) (fun _ => false)) 124))
  have HSB : Hid (Sb (w7.alloc (.cells (sCells n gx gy (.func (.func g) fa la) (fun _ => 0) (fun _ => false)) 124)) w7.heap.size n gx gy (.func (.func g) fa la) (fun _ => 0) (fun _ => false)) := hsb _
  have hgx := HGx2.out.lt; have hgy := HGy.out.lt
  have HX8 := Lib.hid (HGx2.out.below HB8.out); have HY8 := Lib.hid (HGy.out.below HB8.out)
  have HBW : Hid (Below w.heap.size w (w7.alloc (.cells (sCells n gx gy (.func (.func g) fa la) (fun _ => 0) (fun _ => false)) 124))) := below_up HW.out (below_up HB7.out HB8.out)
  have HI8 := Lib.hid (HST.out w _ HI.out HBW.out (Nat.le_refl _))
  have HSZ8 : Hid (w.heap.size ≤ w7.heap.size) := Nat.le_trans HW.out.size HB7.out.size
  have hE := HE.out w7.heap.size gx gy HSZ8.out (Nat.le_trans HW.out.size HL6.out) (Nat.le_trans HW.out.size HL7.out) (by omega) (by omega)
  have HE8 := Lib.hid hE
  have hv := HS.out.1
  clear hsb hE
  go_wp2_with fail
  refine (from_any w7.heap.size n gx gy g fa la cont Inv (gridN xs xs.length) (gridN ys ys.length) (thN xs) (thN ys) HE8.out (sts_of HS.out HF.out) (sts_of HT.out HG.out) (by omega) (gt_of HS.out HF.out) (gt_of HT.out HG.out) (by omega) (by omega) n [] [] (fun _ => 0) (fun _ => false) _ (by simp) (val_nil _ _ _) (.inl rfl) HI8.out HSB.out HX8.out HY8.out (fun k hk => by simp at hk) (fun i hi => by symm; rw [usedB_not]; intro k hk; simp at hk)).mono ?_
  rintro e9 w9 ⟨C', fl, rfl, hrun, hI9, hx9, hy9, hz9, _⟩
  have HI9 : Hid (Inv (runE cont (leadL n xs ys) []).1 w9) := by unfold Hid leadL; rw [hrun]; exact hI9
  have HZ9 : Hid (w.heap.size ≤ w9.heap.size) := Nat.le_trans HBW.out.size hz9
  clear hrun hI9 hx9 hy9 hz9
  go_wp2
  go_end0
  exact ⟨rfl, HI9.out, HZ9.out⟩

/-- what was called, in order -/
noncomputable def autL (cont : List (List Int) → Bool) (v : Int) (xs : List Blk) : List (List Int) := if fcode v xs = 0 then (runE cont (leadL v.toNat xs xs) []).1 else []
theorem autos_any (v : Int) (A : Option Addr) (c : Nat) (xs : List Blk) (g : Nat) (fa la : Array Value) (cont : List (List Int) → Bool) (Inv : List (List Int) → World → Prop) (w : World) (hA : Bl w A xs) (hl : xs.length ≤ 1048576)
    (hI : Inv [] w) (hst : ∀ a b, Inv [] a → Below w.heap.size a b → w.heap.size ≤ a.heap.size → Inv [] b)
    (hE : isSysB v xs = true → fullB v xs = true → ∀ sb gx gy, w.heap.size ≤ sb → w.heap.size ≤ gx → w.heap.size ≤ gy → sb ≠ gx → sb ≠ gy → EachOk sb v.toNat gx gy g fa la cont Inv (Val v.toNat (thN xs) (thN xs))) :
    Calls Try.prog 54 #[.agg #[.int .i64 v, .slice A xs.length c], .func (.func g) fa la] w fun e w' => e = .returned (.int .i64 (fcode v xs)) ∧ Inv (autL cont v xs) w' ∧ w.heap.size ≤ w'.heap.size := by
  have HI := Lib.hid hI; have HST := Lib.hid hst; have HE := Lib.hid hE
  have HWW := Lib.hid (Below.refl w.heap.size w)
  clear hI hst hE
  cases hs : isSysB v xs
  · have HF : Hid (fcode v xs = 1) := by unfold Hid fcode; rw [hs]; rfl
    have HA := Lib.hid hA; clear hA; have HR := Lib.hid (Row.box w 30 (.int .i64 v) (.slice A xs.length c)); have HW := Lib.hid (Since.refl w); go_enter Try.func54, Try.ntmps54; go_wp2_with fail; replace HA := Lib.hid (HA.out.below (below_alloc _ (.cells #[.int .i64 v, .slice A xs.length c] 30))); replace HW := Lib.hid (HW.out.below (below_alloc _ (.cells #[.int .i64 v, .slice A xs.length c] 30)))
    refine (IsSystem_any v A c xs _ HA.out hl).mono ?_; rw [hs]; rintro e w_ ⟨rfl, hb⟩; replace HW := Lib.hid (HW.out.below hb); clear hb
    go_wp2
    go_ret
    exact ⟨ret_int HF.out.symm, by rw [autL, HF.out, if_neg (by decide)]; exact HST.out w _ HI.out HW.out (Nat.le_refl _), HW.out.size⟩
  · have HS := Lib.hid (isSysB_iff.1 hs)
    have hv := HS.out.1
    cases hf : fullB v xs
    · have HF : Hid (fcode v xs = 5) := by unfold Hid fcode; rw [hs, hf]; rfl
      have HA := Lib.hid hA; clear hA; have HR := Lib.hid (Row.box w 30 (.int .i64 v) (.slice A xs.length c)); have HW := Lib.hid (Since.refl w); go_enter Try.func54, Try.ntmps54; go_wp2_with fail; replace HA := Lib.hid (HA.out.below (below_alloc _ (.cells #[.int .i64 v, .slice A xs.length c] 30))); replace HW := Lib.hid (HW.out.below (below_alloc _ (.cells #[.int .i64 v, .slice A xs.length c] 30)))
      refine (IsSystem_any v A c xs _ HA.out hl).mono ?_; rw [hs]; rintro e w_ ⟨rfl, hb⟩; replace HA := Lib.hid (HA.out.below hb); replace HW := Lib.hid (HW.out.below hb); replace HR := Lib.hid (HR.out.below hb); clear hb; (try clear c0 c1); obtain ⟨c0, c1⟩ := HR.out.c2
      go_wp2_with fail
      refine (isFull_any v A c xs _ hl ⟨by omega, hv.2⟩).mono ?_; rw [hf]; rintro e w_ ⟨rfl, hb⟩; replace HW := Lib.hid (HW.out.below hb); clear hb
      go_wp2
      go_ret
      exact ⟨ret_int HF.out.symm, by rw [autL, HF.out, if_neg (by decide)]; exact HST.out w _ HI.out HW.out (Nat.le_refl _), HW.out.size⟩
    · have HF : Hid (fcode v xs = 0) := by unfold Hid fcode; rw [hs, hf]; rfl
      obtain ⟨n, rfl⟩ := Int.eq_ofNat_of_zero_le (by omega : 0 ≤ v)
      have HFU := Lib.hid hf
      replace HE := Lib.hid (HE.out (isSysB_iff.2 HS.out) hf)
      go_enter Try.func54, Try.ntmps54
      have HA := Lib.hid hA; clear hA; have HR := Lib.hid (Row.box w 30 (.int .i64 n) (.slice A xs.length c)); have HW := Lib.hid (Since.refl w)
      replace HA := Lib.hid (HA.out.below (below_alloc _ (.cells #[.int .i64 n, .slice A xs.length c] 30))); replace HW := Lib.hid (HW.out.below (below_alloc _ (.cells #[.int .i64 n, .slice A xs.length c] 30)))
      go_wp2_with fail
      refine (IsSystem_any n A c xs _ HA.out hl).mono ?_; rw [hs]; rintro e w_ ⟨rfl, hb⟩; replace HA := Lib.hid (HA.out.below hb); replace HW := Lib.hid (HW.out.below hb); replace HR := Lib.hid (HR.out.below hb); clear hb; (try clear c0 c1); obtain ⟨c0, c1⟩ := HR.out.c2
      go_wp2_with fail
      refine (isFull_any n A c xs _ hl ⟨by omega, hv.2⟩).mono ?_; rw [hf]; rintro e w_ ⟨rfl, hb⟩; replace HA := Lib.hid (HA.out.below hb); replace HW := Lib.hid (HW.out.below hb); replace HR := Lib.hid (HR.out.below hb); clear hb; (try clear c0 c1); obtain ⟨c0, c1⟩ := HR.out.c2
      go_wp2_with fail
      refine (lead_any n A c xs A c xs g fa la cont Inv _ HA.out hl HA.out hl HS.out HS.out HFU.out HFU.out (HST.out w _ HI.out HW.out (Nat.le_refl _)) (fun a b h1 h2 h3 => HST.out a b h1 (h2.mono HW.out.size) (Nat.le_trans HW.out.size h3)) (fun sb gx gy h1 k1 k2 h2 h3 => HE.out sb gx gy (Nat.le_trans HW.out.size h1) (Nat.le_trans HW.out.size k1) (Nat.le_trans HW.out.size k2) h2 h3)).mono ?_
      rintro e w3 ⟨rfl, hI3, hz3⟩
      have HI3 := Lib.hid hI3
      have HZ3 : Hid (w.heap.size ≤ w3.heap.size) := Nat.le_trans HW.out.size hz3
      clear hI3 hz3
      go_wp2
      go_ret
      exact ⟨ret_int HF.out.symm, by rw [autL, HF.out, if_pos rfl]; exact HI3.out, HZ3.out⟩

end Go.Proofs.Ytgbkonnmjmlalaa

/- Contracts of the reference's lists of renumberings; conditions: stated in each. -/
namespace Go.Proofs.Ytgbkonnmjmlalaa
open Go.RowKit
set_option maxHeartbeats 1000000
set_option maxRecDepth 100000
set_option linter.unusedSimpArgs false
set_option linter.unusedVariables false

/-- the first renumberings, perhaps only those that go around -/
noncomputable def btwL (n : Nat) (xs ys : List Blk) (most : Nat) (ar : Bool) : List (List Int) := takeB [] most ((leadL n xs ys).filter (okA ar))
theorem tab_gt {n : Nat} {xs : List Blk} (hs : isSys n xs) (hf : fullB n xs = true) : ∀ a b, a < n → b < n → a ≠ b → tabN xs xs.length (16 * a + b) = (thN xs a b : Int) := by
  intro a b ha hb hab
  have hv := hs.1
  rw [tabN_grid hs xs.length (Nat.le_refl _) a b (by omega) (by omega)]
  exact gt_of hs hf a b ha hb hab
theorem go6_top (n : Nat) (xs ys : List Blk) (hs : isSys n xs) (ht : isSys n ys) (hf : fullB n xs = true) (hg : fullB n ys = true) (base s g1 g2 z most : Nat) (ar : Bool) (W : World) (hm0 : 0 < most) (hmost : most ≤ 1000000)
    (hG : Gb W s g1 g2 n most (.slice (some ⟨z, 0, none⟩) 0 0) ar) (hx : Va W g1 256 (tabN xs xs.length)) (hy : Va W g2 256 (tabN ys ys.length)) (hz : W.heap[z]? = some (.cells #[] 39 (0, 0)))
    (h1 : base ≤ z) (h2 : base ≤ s) (h3 : z ≠ s) (h4 : z ≠ g1) (h5 : z ≠ g2) (h6 : g1 ≠ s) (h7 : g2 ≠ s) (hsz : s + 1 ≤ W.heap.size) (t : TypeId) :
    Calls Try.prog 102 #[.pointer (some ⟨s, 0, none⟩), .slice (some ⟨W.heap.size, 0, none⟩) 0 0, .int .i64 0] (W.alloc (.cells #[] 2)) fun e w' => ∃ u, e = .returned (.tuple #[]) ∧ Gb w' s g1 g2 n most u ar ∧ LLq w' base u (btwL n xs ys most ar) ∧ Below base W w' := by
  have hv := hs.1
  have hb := below_alloc W (.cells #[] 2)
  have hzl : z < W.heap.size := by
    rcases Nat.lt_or_ge z W.heap.size with h | h
    · exact h
    · rw [Array.getElem?_eq_none h] at hz; cases hz
  have hE : Ro (W.alloc (.cells #[] 2)) W.heap.size (.slice (some ⟨W.heap.size, 0, none⟩) 0 0) [] := own_empty _ _ _
  have hP : LLp W base (s + 1) (.slice (some ⟨z, 0, none⟩) 0 0) [] := ⟨[], ⟨by simp, .inr ⟨z, 0, #[], rfl, h1, hz, Nat.le_refl _, by unfold maxLen; omega, by simp, by simp⟩⟩, fun k hk => by simp at hk⟩
  have h := go6_any n s g1 g2 base (s + 1) most ar (thN xs) (thN ys) _ _ (sts_of hs hf) (sts_of ht hg) (by omega) (by omega) (tab_gt hs hf) (tab_gt ht hg) h6 h7 (Nat.lt_succ_self s) (by omega) hmost n [] [] _ _ W.heap.size (W.alloc (.cells #[] 2)) (by simp) (val_nil _ _ _) (by simpa using hm0) (hG.below hb) (hx.below hb) (hy.below hb) (hP.below hb) hE
    (by simp [Value.ownBlock]; omega) (fun b e => by simp [Value.ownBlock] at e ⊢; omega) (by simp [Value.ownBlock]; exact h3) (by simp [Value.ownBlock]; exact h4) (by simp [Value.ownBlock]; exact h5) (by simp; omega)
  refine h.mono ?_
  rintro e w' ⟨u, rfl, hG', hP', hGs⟩
  refine ⟨u, rfl, hG', ?_, ?_⟩
  · have := hP'.llq (by omega)
    rw [enum_same (sts_of hs hf) (sts_of ht hg) n [] (val_nil _ _ _) (by simp)] at this
    exact this
  · exact (hb.mono (by omega)).trans (hGs.out (by simp; omega) h2 (fun b e => by simp [Value.ownBlock] at e; omega))

theorem Va.ne_empty {w : World} {g z : Nat} {F : Nat → Int} {t : TypeId} (h : Va w g 256 F) (hz : w.heap[z]? = some (.cells #[] t (0, 0))) : z ≠ g := by
  rintro rfl
  have h2 : w.heap[z]? = some (.cells (icells 256 F) 2 (0, 0)) := h
  rw [hz] at h2
  simp only [Option.some.injEq, Obj.cells.injEq] at h2
  have := congrArg Array.size h2.1
  rw [icells_size] at this
  simp at this
theorem l06Between_any (n : Nat) (A : Option Addr) (c : Nat) (xs : List Blk) (B : Option Addr) (e : Nat) (ys : List Blk) (most : Nat) (ar : Bool) (w : World)
    (hA : Bl w A xs) (hl : xs.length ≤ 1048576) (hB : Bl w B ys) (hlb : ys.length ≤ 1048576) (hs : isSys n xs) (ht : isSys n ys) (hf : fullB n xs = true) (hg : fullB n ys = true) (hm0 : 0 < most) (hmost : most ≤ 1000000) :
    Calls Try.prog 64 #[.agg #[.int .i64 n, .slice A xs.length c], .agg #[.int .i64 n, .slice B ys.length e], .int .i64 most, .bool ar] w fun r w' => ∃ u, r = .returned u ∧ LLq w' w.heap.size u (btwL n xs ys most ar) ∧ Below w.heap.size w w' := by
  have HS := Lib.hid hs; have HT := Lib.hid ht; have HF := Lib.hid hf; have HG := Lib.hid hg
  have HW := Lib.hid (below_up (below_alloc w (.cells #[.int .i64 n, .slice A xs.length c] 30)) (below_alloc _ (.cells #[.int .i64 n, .slice B ys.length e] 30)))
  have HA := Lib.hid (hA.below HW.out); have HB := Lib.hid (hB.below HW.out)
  have HR := Lib.hid ((Row.box w 30 (.int .i64 n) (.slice A xs.length c)).below (below_alloc _ (.cells #[.int .i64 n, .slice B ys.length e] 30)))
  have HQ := Lib.hid (Row.box (w.alloc (.cells #[.int .i64 n, .slice A xs.length c] 30)) 30 (.int .i64 n) (.slice B ys.length e))
  rw [World.size_alloc] at HQ
  clear hA hB hs ht hf hg
  go_enter Try.func64, Try.ntmps64
  obtain ⟨c0, c1⟩ := HR.out.c2
  obtain ⟨d0, d1⟩ := HQ.out.c2
  go_wp2
  generalize hWo : (w.alloc _).alloc _ = w5 at *
  have HKEEP := Lib.hid (And.intro (And.intro c0 c1) (And.intro d0 d1))
  have HBB : Hid (∀ W, Below w5.heap.size w5 W → (W.cell? ⟨w.heap.size, 0, none⟩ = some (.int .i64 n) ∧ W.cell? ⟨w.heap.size, 1, none⟩ = some (.slice A xs.length c)) ∧ (W.cell? ⟨w.heap.size + 1, 0, none⟩ = some (.int .i64 n) ∧ W.cell? ⟨w.heap.size + 1, 1, none⟩ = some (.slice B ys.length e))) := fun W hb => ⟨(HR.out.below hb).c2, (HQ.out.below hb).c2⟩
  clear c0 c1 d0 d1
  have T0 : True := trivial
  go_region_held3 (fun w' => (w'.cell? ⟨w.heap.size, 0, none⟩ = some (.int .i64 n) ∧ w'.cell? ⟨w.heap.size, 1, none⟩ = some (.slice A xs.length c)) ∧ (w'.cell? ⟨w.heap.size + 1, 0, none⟩ = some (.int .i64 n) ∧ w'.cell? ⟨w.heap.size + 1, 1, none⟩ = some (.slice B ys.length e))) (first | exact HKEEP.out | exact HBB.out _ (by (repeat' (first | (with_reducible exact Below.refl _ _) | (with_reducible assumption) | (with_reducible refine below_drewN ?_ _) | (with_reducible refine Below.drew ?_) | (with_reducible refine Below.alloc ?_ ?_ _) | (with_reducible refine Below.setCell ?_ ?_ _) | go_size)))) (first
    | (go_at_call 101
       clear T0
       refine (l06Table_any n A c xs _ (HA.out.below (by (repeat' (first | (with_reducible exact Below.refl _ _) | (with_reducible assumption) | (with_reducible refine below_drewN ?_ _) | (with_reducible refine Below.drew ?_) | (with_reducible refine Below.alloc ?_ ?_ _) | (with_reducible refine Below.setCell ?_ ?_ _) | go_size)))) hl HS.out).mono ?_
       rintro e6 w6 ⟨gx, rfl, hle, hGr, hb⟩
       have HGx := Lib.hid hGr
       have HB6 : Hid (Below w5.heap.size w5 w6) := below_up (by (repeat' (first | (with_reducible exact Below.refl _ _) | (with_reducible assumption) | (with_reducible refine below_drewN ?_ _) | (with_reducible refine Below.drew ?_) | (with_reducible refine Below.alloc ?_ ?_ _) | (with_reducible refine Below.setCell ?_ ?_ _) | go_size))) hb
       have HL6 : Hid (w5.heap.size ≤ gx) := Nat.le_trans (show Below w5.heap.size w5 _ from (by (repeat' (first | (with_reducible exact Below.refl _ _) | (with_reducible assumption) | (with_reducible refine below_drewN ?_ _) | (with_reducible refine Below.drew ?_) | (with_reducible refine Below.alloc ?_ ?_ _) | (with_reducible refine Below.setCell ?_ ?_ _) | go_size)))).size hle
       have HP6 := Lib.hid hb
       replace HKEEP := Lib.hid (HBB.out _ HB6.out)
       have hb6 := HB6.out
       have hz6 := hb6.size
       clear hb hGr hle)
    | (go_at_call 101
       refine (l06Table_any n B e ys _ (HB.out.below (by (repeat' (first | (with_reducible exact Below.refl _ _) | (with_reducible assumption) | (with_reducible refine below_drewN ?_ _) | (with_reducible refine Below.drew ?_) | (with_reducible refine Below.alloc ?_ ?_ _) | (with_reducible refine Below.setCell ?_ ?_ _) | go_size)))) hlb HT.out).mono ?_
       rintro e7 w7 ⟨gy, rfl, hle, hGr, hb⟩
       have HGy := Lib.hid hGr
       have HB67 : Hid (Below w6.heap.size w6 w7) := below_up (by (repeat' (first | (with_reducible exact Below.refl _ _) | (with_reducible assumption) | (with_reducible refine below_drewN ?_ _) | (with_reducible refine Below.drew ?_) | (with_reducible refine Below.alloc ?_ ?_ _) | (with_reducible refine Below.setCell ?_ ?_ _) | go_size))) hb
       have HL7 : Hid (w6.heap.size ≤ gy) := Nat.le_trans (show Below w6.heap.size w6 _ from (by (repeat' (first | (with_reducible exact Below.refl _ _) | (with_reducible assumption) | (with_reducible refine below_drewN ?_ _) | (with_reducible refine Below.drew ?_) | (with_reducible refine Below.alloc ?_ ?_ _) | (with_reducible refine Below.setCell ?_ ?_ _) | go_size)))).size hle
       have HGx7 := Lib.hid (HGx.out.below HB67.out)
       have HP7 := Lib.hid hb
       replace HKEEP := Lib.hid (HBB.out _ (below_up hb6 HB67.out))
       have hb7 : Below w5.heap.size w5 w7 := below_up hb6 HB67.out
       have hz7 := HB67.out.size
       clear hb hGr hle))
  all_goals
    have hw5 := HW.out.size
    have hp6 := HP6.out.size
    have hp7 := HP7.out.size
    (try simp only [World.size_alloc, World.size_drew] at hp6)
    (try simp only [World.size_alloc, World.size_drew] at hp7)
    clear hWo
  · have hz0 : (w7.alloc (.cells #[] 39)).heap[w7.heap.size]? = some (.cells #[] 39 (0, 0)) := heap_alloc_new w7 _
    have HZ : Hid (((w7.alloc (.cells #[] 39)).alloc (.cells (gVals gx gy n most (.slice (some ⟨w7.heap.size, 0, none⟩) 0 0) ar) 106)).heap[w7.heap.size]? = some (.cells #[] 39 (0, 0))) := ((below_alloc (w7.alloc (.cells #[] 39)) (.cells (gVals gx gy n most (.slice (some ⟨w7.heap.size, 0, none⟩) 0 0) ar) 106)).block _ (by first | (simp; done) | omega)).trans hz0
    have HGB : Hid (Gb ((w7.alloc (.cells #[] 39)).alloc (.cells (gVals gx gy n most (.slice (some ⟨w7.heap.size, 0, none⟩) 0 0) ar) 106)) (w7.heap.size + 1) gx gy n most (.slice (some ⟨w7.heap.size, 0, none⟩) 0 0) ar) := by have h := Row.new (w7.alloc (.cells #[] 39)) 106 (gVals gx gy n most (.slice (some ⟨w7.heap.size, 0, none⟩) 0 0) ar); (try simp only [World.size_alloc] at h); exact h
    have HXX : Hid (Va ((w7.alloc (.cells #[] 39)).alloc (.cells (gVals gx gy n most (.slice (some ⟨w7.heap.size, 0, none⟩) 0 0) ar) 106)) gx 256 (tabN xs xs.length)) := (HGx7.out.below (below_up (below_alloc w7 _) (below_alloc _ _))); have HYY : Hid (Va ((w7.alloc (.cells #[] 39)).alloc (.cells (gVals gx gy n most (.slice (some ⟨w7.heap.size, 0, none⟩) 0 0) ar) 106)) gy 256 (tabN ys ys.length)) := (HGy.out.below (below_up (below_alloc w7 _) (below_alloc _ _)))
    have hgx := HGx7.out.lt; have hgy := HGy.out.lt
    have hn1 := HXX.out.ne_empty HZ.out
    have hn2 := HYY.out.ne_empty HZ.out
    have HSZ : Hid (((w7.alloc (.cells #[] 39)).alloc (.cells (gVals gx gy n most (.slice (some ⟨w7.heap.size, 0, none⟩) 0 0) ar) 106)).heap.size = w7.heap.size + 1 + 1) := by unfold Hid; simp
    clear hz0
    go_wp2_with fail
    have htop := go6_top n xs ys HS.out HT.out HF.out HG.out w.heap.size (w7.heap.size + 1) gx gy (w7.heap.size) most ar ((w7.alloc (.cells #[] 39)).alloc (.cells (gVals gx gy n most (.slice (some ⟨w7.heap.size, 0, none⟩) 0 0) ar) 106)) hm0 hmost HGB.out HXX.out HYY.out HZ.out (by omega) (by omega) (by omega) hn1 hn2 (by omega) (by omega) (by rw [HSZ.out]; omega) 0
    rw [HSZ.out] at htop
    refine htop.mono ?_
    rintro e8 w8 ⟨u, rfl, hG8, hL8, hb8⟩
    obtain ⟨A8, k8, rfl⟩ := hL8.slice
    have HL8 := Lib.hid hL8
    have HB8 : Hid (Below w.heap.size w w8) := HW.out.trans (((hb7.mono hw5).trans ((below_up (below_alloc w7 _) (below_alloc _ _)).mono (by omega))).trans hb8)
    have c4 := hG8.c6.2.2.2.2.1
    have hs8 := hG8.lt
    clear hG8 hL8 hb8 htop hn1 hn2
    go_wp2
    go_ret
    exact ⟨_, rfl, HL8.out, HB8.out⟩
  · have hz0 : w7.heap[w6.heap.size]? = some (.cells #[] 39 (0, 0)) := (HP7.out.block w6.heap.size (by simp)).trans (heap_alloc_new w6 _)
    have HZ : Hid ((w7.alloc (.cells (gVals gx gy n most (.slice (some ⟨w6.heap.size, 0, none⟩) 0 0) ar) 106)).heap[w6.heap.size]? = some (.cells #[] 39 (0, 0))) := ((below_alloc w7 (.cells (gVals gx gy n most (.slice (some ⟨w6.heap.size, 0, none⟩) 0 0) ar) 106)).block _ (by first | (simp; done) | omega)).trans hz0
    have HGB : Hid (Gb (w7.alloc (.cells (gVals gx gy n most (.slice (some ⟨w6.heap.size, 0, none⟩) 0 0) ar) 106)) (w7.heap.size) gx gy n most (.slice (some ⟨w6.heap.size, 0, none⟩) 0 0) ar) := by have h := Row.new w7 106 (gVals gx gy n most (.slice (some ⟨w6.heap.size, 0, none⟩) 0 0) ar); (try simp only [World.size_alloc] at h); exact h
    have HXX : Hid (Va (w7.alloc (.cells (gVals gx gy n most (.slice (some ⟨w6.heap.size, 0, none⟩) 0 0) ar) 106)) gx 256 (tabN xs xs.length)) := (HGx7.out.below (below_alloc w7 _)); have HYY : Hid (Va (w7.alloc (.cells (gVals gx gy n most (.slice (some ⟨w6.heap.size, 0, none⟩) 0 0) ar) 106)) gy 256 (tabN ys ys.length)) := (HGy.out.below (below_alloc w7 _))
    have hgx := HGx7.out.lt; have hgy := HGy.out.lt
    have hn1 := HXX.out.ne_empty HZ.out
    have hn2 := HYY.out.ne_empty HZ.out
    have HSZ : Hid ((w7.alloc (.cells (gVals gx gy n most (.slice (some ⟨w6.heap.size, 0, none⟩) 0 0) ar) 106)).heap.size = w7.heap.size + 1) := by unfold Hid; simp
    clear hz0
    go_wp2_with fail
    have htop := go6_top n xs ys HS.out HT.out HF.out HG.out w.heap.size (w7.heap.size) gx gy (w6.heap.size) most ar (w7.alloc (.cells (gVals gx gy n most (.slice (some ⟨w6.heap.size, 0, none⟩) 0 0) ar) 106)) hm0 hmost HGB.out HXX.out HYY.out HZ.out (by omega) (by omega) (by omega) hn1 hn2 (by omega) (by omega) (by rw [HSZ.out]; omega) 0
    rw [HSZ.out] at htop
    refine htop.mono ?_
    rintro e8 w8 ⟨u, rfl, hG8, hL8, hb8⟩
    obtain ⟨A8, k8, rfl⟩ := hL8.slice
    have HL8 := Lib.hid hL8
    have HB8 : Hid (Below w.heap.size w w8) := HW.out.trans (((hb7.mono hw5).trans ((below_alloc w7 _).mono (by omega))).trans hb8)
    have c4 := hG8.c6.2.2.2.2.1
    have hs8 := hG8.lt
    clear hG8 hL8 hb8 htop hn1 hn2
    go_wp2
    go_ret
    exact ⟨_, rfl, HL8.out, HB8.out⟩
  · have hz0 : w7.heap[w5.heap.size]? = some (.cells #[] 39 (0, 0)) := (HB67.out.block w5.heap.size (Nat.lt_of_lt_of_le (by simp) HP6.out.size)).trans ((HP6.out.block w5.heap.size (by simp)).trans (heap_alloc_new w5 _))
    have HZ : Hid ((w7.alloc (.cells (gVals gx gy n most (.slice (some ⟨w5.heap.size, 0, none⟩) 0 0) ar) 106)).heap[w5.heap.size]? = some (.cells #[] 39 (0, 0))) := ((below_alloc w7 (.cells (gVals gx gy n most (.slice (some ⟨w5.heap.size, 0, none⟩) 0 0) ar) 106)).block _ (by first | (simp; done) | omega)).trans hz0
    have HGB : Hid (Gb (w7.alloc (.cells (gVals gx gy n most (.slice (some ⟨w5.heap.size, 0, none⟩) 0 0) ar) 106)) (w7.heap.size) gx gy n most (.slice (some ⟨w5.heap.size, 0, none⟩) 0 0) ar) := by have h := Row.new w7 106 (gVals gx gy n most (.slice (some ⟨w5.heap.size, 0, none⟩) 0 0) ar); (try simp only [World.size_alloc] at h); exact h
    have HXX : Hid (Va (w7.alloc (.cells (gVals gx gy n most (.slice (some ⟨w5.heap.size, 0, none⟩) 0 0) ar) 106)) gx 256 (tabN xs xs.length)) := (HGx7.out.below (below_alloc w7 _)); have HYY : Hid (Va (w7.alloc (.cells (gVals gx gy n most (.slice (some ⟨w5.heap.size, 0, none⟩) 0 0) ar) 106)) gy 256 (tabN ys ys.length)) := (HGy.out.below (below_alloc w7 _))
    have hgx := HGx7.out.lt; have hgy := HGy.out.lt
    have hn1 := HXX.out.ne_empty HZ.out
    have hn2 := HYY.out.ne_empty HZ.out
    have HSZ : Hid ((w7.alloc (.cells (gVals gx gy n most (.slice (some ⟨w5.heap.size, 0, none⟩) 0 0) ar) 106)).heap.size = w7.heap.size + 1) := by unfold Hid; simp
    clear hz0
    go_wp2_with fail
    have htop := go6_top n xs ys HS.out HT.out HF.out HG.out w.heap.size (w7.heap.size) gx gy (w5.heap.size) most ar (w7.alloc (.cells (gVals gx gy n most (.slice (some ⟨w5.heap.size, 0, none⟩) 0 0) ar) 106)) hm0 hmost HGB.out HXX.out HYY.out HZ.out (by omega) (by omega) (by omega) hn1 hn2 (by omega) (by omega) (by rw [HSZ.out]; omega) 0
    rw [HSZ.out] at htop
    refine htop.mono ?_
    rintro e8 w8 ⟨u, rfl, hG8, hL8, hb8⟩
    obtain ⟨A8, k8, rfl⟩ := hL8.slice
    have HL8 := Lib.hid hL8
    have HB8 : Hid (Below w.heap.size w w8) := HW.out.trans (((hb7.mono hw5).trans ((below_alloc w7 _).mono (by omega))).trans hb8)
    have c4 := hG8.c6.2.2.2.2.1
    have hs8 := hG8.lt
    clear hG8 hL8 hb8 htop hn1 hn2
    go_wp2
    go_ret
    exact ⟨_, rfl, HL8.out, HB8.out⟩

end Go.Proofs.Ytgbkonnmjmlalaa

/- Contracts of closures over blocks; conditions: stated in each. -/
namespace Go.Proofs.Ytgbkonnmjmlalaa
open Go.RowKit
set_option maxHeartbeats 400000
set_option maxRecDepth 100000
set_option linter.unusedSimpArgs false
set_option linter.unusedVariables false

def awayP (a : Blk) (c : Blk) : Bool := !eqB c a && meetB c a

theorem part3 (x y z : Value) : (∀ w, (part 2 #[x, y, z] (0 * 1)).run Try.prog w = .ok x w) ∧ (∀ w, (part 2 #[x, y, z] (1 * 1)).run Try.prog w = .ok y w) ∧ (∀ w, (part 2 #[x, y, z] (2 * 1)).run Try.prog w = .ok z w) :=
  ⟨fun _ => by kernel_rfl, fun _ => by kernel_rfl, fun _ => by kernel_rfl⟩
/-- '==' of two blocks. -/
@[go_sem] theorem run_eqB (a0 a1 a2 c0 c1 c2 : Int) (w : World) : (Op.equalIn 10000 75 (.agg #[.int .i64 c0, .int .i64 c1, .int .i64 c2]) (.agg #[.int .i64 a0, .int .i64 a1, .int .i64 a2])).run Try.prog w = .ok (eqB (c0, c1, c2) (a0, a1, a2)) w := by
  have h1 : eqB (c0, c1, c2) (a0, a1, a2) = (if (c0 == a0) = true then (if (c1 == a1) = true then (c2 == a2) else false) else false) := by
    unfold eqB; rw [Bool.eq_iff_iff]; simp only [Prod.mk.injEq, beq_iff_eq, decide_eq_true_eq]; (repeat' split) <;> simp_all
  obtain ⟨i, hi, _⟩ := info_parts infoInt'
  have hc : Try.prog.cellsOf 2 = 1 := by kernel_rfl
  rw [h1, run_equalIn_array (P := Try.prog) w 9999 _ _ Try.underlying75 hi, hc]
  obtain ⟨p0, p1, p2⟩ := part3 (.int .i64 c0) (.int .i64 c1) (.int .i64 c2)
  obtain ⟨r0, r1, r2⟩ := part3 (.int .i64 a0) (.int .i64 a1) (.int .i64 a2)
  have e0 := fun w a b => run_equalIn_int (P := Try.prog) w 9998 2 .i64 .i64 a b Try.underlying2
  show (Op.eqItems 9999 2 1 _ _ [0, 1, 2]).run Try.prog w = _
  simp only [Op.eqItems, Sem.run_bind, p0, p1, p2, r0, r1, r2, e0, Result.andThen_ok, Sem.run_ite, Sem.run_pure]
  cases (c0 == a0) <;> cases (c1 == a1) <;> cases (c2 == a2) <;> simp

end Go.Proofs.Ytgbkonnmjmlalaa

/- Plain laws of blocks that two lists have in common. Conditions: none. -/
namespace Go.Proofs.Ytgbkonnmjmlalaa

noncomputable def memL (xs : List Blk) (b : Blk) : Bool := open Classical in decide (∃ k, k < xs.length ∧ nth xs k = b)
theorem memL_true {xs : List Blk} {b : Blk} {k : Nat} (hk : k < xs.length) (h : nth xs k = b) : memL xs b = true := by unfold memL; simp; exact ⟨k, hk, h⟩
theorem memL_false {xs : List Blk} {b : Blk} (h : ∀ k, k < xs.length → nth xs k ≠ b) : memL xs b = false := by unfold memL; simp; exact h
/-- the blocks of the first k of xs that are in ys -/
noncomputable def comL (xs ys : List Blk) : Nat → List Blk
  | 0 => []
  | k + 1 => comL xs ys k ++ (if memL ys (nth xs k) = true then [nth xs k] else [])
theorem comL_len (xs ys : List Blk) (k : Nat) : (comL xs ys k).length ≤ k := by
  induction k with
  | zero => simp [comL]
  | succ k ih => simp only [comL]; split <;> simp <;> omega

end Go.Proofs.Ytgbkonnmjmlalaa

/- Contracts of membership of blocks and of common blocks; conditions: stated in each. -/
namespace Go.Proofs.Ytgbkonnmjmlalaa
open Go.RowKit
set_option maxHeartbeats 400000
set_option maxRecDepth 100000
set_option linter.unusedSimpArgs false
set_option linter.unusedVariables false

end Go.Proofs.Ytgbkonnmjmlalaa

/- Contracts for IsFamily, of the reference and of the program; conditions: stated in each. -/
namespace Go.Proofs.Ytgbkonnmjmlalaa
open Go.RowKit
set_option maxHeartbeats 4000000
set_option maxRecDepth 100000
set_option linter.unusedSimpArgs false
set_option linter.unusedVariables false

def nthP (ps : List (Int × List Blk)) (k : Nat) : Int × List Blk := ps.getD k (0, [])
/-- the address leads to systems, two cells each -/
def Sl (w : World) (A : Option Addr) (ps : List (Int × List Blk)) : Prop :=
  ps = [] ∨ ∃ b o, A = some ⟨b, o, none⟩ ∧ b < w.heap.size ∧ ∀ k, k < ps.length → ∃ C c, w.cell? ⟨b, o + k * 2, none⟩ = some (.int .i64 (nthP ps k).1) ∧ w.cell? ⟨b, o + k * 2 + 1, none⟩ = some (.slice C (nthP ps k).2.length c) ∧ Bl w C (nthP ps k).2
theorem Sl.at_ {w : World} {A : Option Addr} {ps : List (Int × List Blk)} (h : Sl w A ps) {k : Nat} (hk : k < ps.length) :
    ∃ b o C c, A = some ⟨b, o, none⟩ ∧ b < w.heap.size ∧ w.cell? ⟨b, o + k * 2, none⟩ = some (.int .i64 (nthP ps k).1) ∧ w.cell? ⟨b, o + k * 2 + 1, none⟩ = some (.slice C (nthP ps k).2.length c) ∧ Bl w C (nthP ps k).2 := by
  rcases h with rfl | ⟨b, o, rfl, hb, hc⟩
  · simp at hk
  · obtain ⟨C, c, h1, h2, h3⟩ := hc k hk
    exact ⟨b, o, C, c, rfl, hb, h1, h2, h3⟩
theorem Sl.below {w w' : World} {A : Option Addr} {ps : List (Int × List Blk)} (h : Sl w A ps) (hb : Below w.heap.size w w') : Sl w' A ps := by
  rcases h with rfl | ⟨b, o, rfl, hlt, hc⟩
  · exact .inl rfl
  · refine .inr ⟨b, o, rfl, Nat.lt_of_lt_of_le hlt hb.size, fun k hk => ?_⟩
    obtain ⟨C, c, h0, h1, h2⟩ := hc k hk
    exact ⟨C, c, (hb.cell hlt).trans h0, (hb.cell hlt).trans h1, h2.below hb⟩
/-- how many blocks two systems have in common -/
noncomputable def comC (xs ys : List Blk) (k : Nat) : Nat := cntF (fun i => memL ys (nth xs i)) k
theorem comL_cnt (xs ys : List Blk) : ∀ k, (comL xs ys k).length = comC xs ys k := by
  intro k
  induction k with
  | zero => rfl
  | succ k ih =>
    unfold comC at *
    rw [comL, List.length_append, ih, cntF]
    cases memL ys (nth xs k) <;> simp
def famP (ps : List (Int × List Blk)) (n : Nat) : Prop := ∀ i, i < n → ((nthP ps i).1 = 9 ∧ fullB (nthP ps i).1 (nthP ps i).2 = true) ∧ ∀ k, k < i → comC (nthP ps i).2 (nthP ps k).2 (nthP ps i).2.length = 0
noncomputable def famB (ps : List (Int × List Blk)) : Bool := open Classical in decide (famP ps ps.length)
theorem famB_true {ps : List (Int × List Blk)} (h : famP ps ps.length) : famB ps = true := by unfold famB; simpa using h
theorem famB_false {ps : List (Int × List Blk)} (h : ¬ famP ps ps.length) : famB ps = false := by unfold famB; simpa using h
noncomputable def sysAll (ps : List (Int × List Blk)) : Bool := open Classical in decide (∀ k, k < ps.length → isSysB (nthP ps k).1 (nthP ps k).2 = true)
theorem sysAll_iff {ps : List (Int × List Blk)} : sysAll ps = true ↔ ∀ k, k < ps.length → isSysB (nthP ps k).1 (nthP ps k).2 = true := by unfold sysAll; simp
theorem sysAll_false {ps : List (Int × List Blk)} {k : Nat} (hk : k < ps.length) (h : isSysB (nthP ps k).1 (nthP ps k).2 = false) : sysAll ps = false := by
  rw [← Bool.not_eq_true, sysAll_iff]; intro h2; rw [h2 k hk] at h; cases h
noncomputable def famR (ps : List (Int × List Blk)) : Bool × Int := if sysAll ps = true then (if ps.length ≤ 7 then (famB ps, 0) else (false, 2)) else (false, 1)

end Go.Proofs.Ytgbkonnmjmlalaa

/- Contracts of the reference's code of full systems and its list of all automorphisms; conditions: stated in each. -/
namespace Go.Proofs.Ytgbkonnmjmlalaa
open Go.RowKit
set_option maxHeartbeats 1000000
set_option maxRecDepth 100000
set_option linter.unusedSimpArgs false
set_option linter.unusedVariables false

noncomputable def fullAll (ps : List (Int × List Blk)) : Bool := open Classical in decide (∀ k, k < ps.length → fullB (nthP ps k).1 (nthP ps k).2 = true)
theorem fullAll_iff {ps : List (Int × List Blk)} : fullAll ps = true ↔ ∀ k, k < ps.length → fullB (nthP ps k).1 (nthP ps k).2 = true := by unfold fullAll; simp
theorem fullAll_false {ps : List (Int × List Blk)} {k : Nat} (hk : k < ps.length) (h : fullB (nthP ps k).1 (nthP ps k).2 = false) : fullAll ps = false := by
  rw [← Bool.not_eq_true, fullAll_iff]; intro h2; rw [h2 k hk] at h; cases h
noncomputable def codeP (ps : List (Int × List Blk)) : Int := if sysAll ps = true then (if fullAll ps = true then 0 else 5) else 1
theorem l06Code_any (A : Option Addr) (c : Nat) (ps : List (Int × List Blk)) (w : World) (hA : Sl w A ps) (hl : ps.length ≤ 1048576) (hx : ∀ k, k < ps.length → (nthP ps k).2.length ≤ 1048576) :
    Calls Try.prog 51 #[.slice A ps.length c] w fun e w' => e = .returned (.int .i64 (codeP ps)) ∧ Below w.heap.size w w' := by
  have HA := Lib.hid hA; have HX := Lib.hid hx
  have HN : Hid (codeP ps = if sysAll ps = true then (if fullAll ps = true then 0 else 5) else 1) := rfl
  clear hA hx
  generalize codeP ps = R at *
  go_enter Try.func51, Try.ntmps51
  go_wp2
  go_loopw [3] (fun i wr => ∃ k : Nat, k ≤ ps.length ∧ i = .int .i64 k ∧ Hid (Below w.heap.size w wr ∧ ∀ j, j < k → isSysB (nthP ps j).1 (nthP ps j).2 = true)) (fun i _ => ps.length - (intOf i).toNat)
  case atStart => exact ⟨0, by omega, rfl, Below.refl _ _, fun j hj => by omega⟩
  case round =>
    obtain ⟨k, hk, rfl, HC⟩ := hrel
    by_cases hlt : k < ps.length
    · obtain ⟨b1, o1, C, d, hA1, hb1, p0, p1, hB⟩ := (HA.out.below HC.out.1).at_ hlt
      subst hA1
      have HB := Lib.hid hB; clear hB
      have hxk := HX.out k hlt
      go_wp2_with fail
      refine (l01Is_any (nthP ps k).1 C d (nthP ps k).2 _ HB.out hxk).mono ?_
      cases hs : isSysB (nthP ps k).1 (nthP ps k).2
      · rintro e w1 ⟨rfl, hb⟩
        have HB1 := Lib.hid (below_up HC.out.1 hb); clear hb
        go_wp2
        go_ret
        exact ⟨ret_int (by rw [HN.out, sysAll_false hlt hs]; rfl), HB1.out⟩
      · rintro e w1 ⟨rfl, hb⟩
        have HB1 := Lib.hid (below_up HC.out.1 hb); clear hb
        go_wp2
        go_roundw
        case rel =>
          refine ⟨k + 1, by omega, by go_num, HB1.out, fun j hj => ?_⟩
          by_cases hjk : j < k
          · exact HC.out.2 j hjk
          · obtain rfl : j = k := by omega
            exact hs
        case measure => simp [intOf]; omega
    · obtain rfl : k = ps.length := by omega
      have HSA := Lib.hid HC.out.2
      have HB0 := Lib.hid HC.out.1
      clear HC
      go_wp2
      obtain ⟨wo, rfl⟩ : ∃ wo : World, wo = wr := ⟨_, rfl⟩
      go_loopw [4] (fun i wr => ∃ k : Nat, k ≤ ps.length ∧ i = .int .i64 k ∧ Hid (Below w.heap.size w wr ∧ ∀ j, j < k → fullB (nthP ps j).1 (nthP ps j).2 = true)) (fun i _ => ps.length - (intOf i).toNat)
      case atStart => exact ⟨0, by omega, rfl, HB0.out, fun j hj => by omega⟩
      case round =>
        obtain ⟨k, hk, rfl, HC⟩ := hrel
        by_cases hlt : k < ps.length
        · obtain ⟨b1, o1, C, d, hA1, hb1, p0, p1, hB⟩ := (HA.out.below HC.out.1).at_ hlt
          subst hA1
          have HB := Lib.hid hB; clear hB
          have hxk := HX.out k hlt
          have hv := (isSysB_iff.1 (HSA.out k hlt)).1
          go_wp2_with fail
          refine (l01Full_any (nthP ps k).1 C d (nthP ps k).2 _ hxk ⟨by omega, hv.2⟩).mono ?_
          cases hs : fullB (nthP ps k).1 (nthP ps k).2
          · rintro e w1 ⟨rfl, hb⟩
            have HB1 := Lib.hid (below_up HC.out.1 hb); clear hb
            go_wp2
            go_ret
            exact ⟨ret_int (by rw [HN.out, sysAll_iff.2 HSA.out, fullAll_false hlt hs]; rfl), HB1.out⟩
          · rintro e w1 ⟨rfl, hb⟩
            have HB1 := Lib.hid (below_up HC.out.1 hb); clear hb
            go_wp2
            go_roundw
            case rel =>
              refine ⟨k + 1, by omega, by go_num, HB1.out, fun j hj => ?_⟩
              by_cases hjk : j < k
              · exact HC.out.2 j hjk
              · obtain rfl : j = k := by omega
                exact hs
            case measure => simp [intOf]; omega
        · obtain rfl : k = ps.length := by omega
          go_wp2
          go_ret
          exact ⟨ret_int (by rw [HN.out, sysAll_iff.2 HSA.out, fullAll_iff.2 HC.out.2]; rfl), HC.out.1⟩
/-- a list of one system, just built -/
theorem sl_one (w : World) (v : Int) (A : Option Addr) (c : Nat) (xs : List Blk) (t : TypeId) (h : Bl w A xs) : Sl (w.alloc (.cells #[.int .i64 v, .slice A xs.length c] t)) (some ⟨w.heap.size, 0, none⟩) [(v, xs)] := by
  refine .inr ⟨w.heap.size, 0, rfl, by simp, fun k hk => ?_⟩
  simp at hk
  subst hk
  obtain ⟨c0, c1⟩ := (Row.box w t (.int .i64 v) (.slice A xs.length c)).c2
  exact ⟨A, c, c0, c1, h.below (below_alloc _ _)⟩
theorem sl_two (w : World) (v : Int) (A : Option Addr) (c : Nat) (xs : List Blk) (u : Int) (B : Option Addr) (e : Nat) (ys : List Blk) (t : TypeId) (h : Bl w A xs) (h2 : Bl w B ys) :
    Sl (w.alloc (.cells #[.int .i64 v, .slice A xs.length c, .int .i64 u, .slice B ys.length e] t)) (some ⟨w.heap.size, 0, none⟩) [(v, xs), (u, ys)] := by
  have hR := Row.new w t #[.int .i64 v, .slice A xs.length c, .int .i64 u, .slice B ys.length e]
  refine .inr ⟨w.heap.size, 0, rfl, by simp, fun k hk => ?_⟩
  simp at hk
  have hk2 : k = 0 ∨ k = 1 := by omega
  rcases hk2 with rfl | rfl
  · exact ⟨A, c, hR.cell 0, hR.cell 1, h.below (below_alloc _ _)⟩
  · exact ⟨B, e, hR.cell 2, hR.cell 3, h2.below (below_alloc _ _)⟩
theorem codeP_one (v : Int) (xs : List Blk) : codeP [(v, xs)] = fcode v xs := by
  have h1 : sysAll [(v, xs)] = isSysB v xs := by
    rw [Bool.eq_iff_iff, sysAll_iff]
    constructor
    · intro h; exact h 0 (by simp)
    · intro h k hk; simp at hk; subst hk; exact h
  have h2 : fullAll [(v, xs)] = fullB v xs := by
    rw [Bool.eq_iff_iff, fullAll_iff]
    constructor
    · intro h; exact h 0 (by simp)
    · intro h k hk; simp at hk; subst hk; exact h
  unfold codeP fcode; rw [h1, h2]

end Go.Proofs.Ytgbkonnmjmlalaa

/- Contract for CountAutomorphisms of the program; conditions: stated in it. -/
namespace Go.Proofs.Ytgbkonnmjmlalaa
open Go.RowKit
set_option maxHeartbeats 400000
set_option maxRecDepth 100000
set_option linter.unusedSimpArgs false
set_option linter.unusedVariables false

/-- a count that is kept in 64 bits -/
def wcnt : Nat → Int
  | 0 => 0
  | k + 1 => wrap64 (wcnt k + 1)
theorem wcnt_is : ∀ k, k ≤ 1000000000 → wcnt k = k := by
  intro k
  induction k with
  | zero => intro _; rfl
  | succ k ih => intro h; rw [wcnt, ih (by omega)]; go_unwrap; push_cast; rfl
noncomputable def caR (v : Int) (xs : List Blk) : Int × Int := if fcode v xs = 0 then (((leadL v.toNat xs xs).length : Int), 0) else (0, fcode v xs)
/-- the count in its box -/
def CInv (w0 : World) (q : Nat) (C : List (List Int)) (a : World) : Prop := Row a q 2 #[.int .i64 (wcnt C.length)] ∧ Below w0.heap.size w0 a
theorem fcode_zero {v : Int} {xs : List Blk} (h : fcode v xs = 0) : isSysB v xs = true ∧ fullB v xs = true := by
  unfold fcode at h
  (repeat' split at h) <;> first | exact ⟨by assumption, by assumption⟩ | cases h
theorem lead_few {v : Int} {xs : List Blk} (h : fcode v xs = 0) : (leadL v.toNat xs xs).length ≤ 50625 := by
  obtain ⟨h1, h2⟩ := fcode_zero h
  have hs := isSysB_iff.1 h1
  have hv := hs.1
  obtain ⟨n, rfl⟩ := Int.eq_ofNat_of_zero_le (by omega : 0 ≤ v)
  exact autos_few (sts_of hs h2) (sts_of hs h2) (by simp; omega) (by simp; omega)

theorem caCl_any (V : List Int → Prop) (sb n gx gy q : Nat) (w0 : World) (hq : q < sb) (hqx : q < gx) (hqy : q < gy) (hqw : w0.heap.size ≤ q) : EachOk sb n gx gy 55 #[] #[.pointer (some ⟨q, 0, none⟩)] (fun _ => true) (CInv w0 q) V := by
  refine ⟨fun args w => by kernel_rfl, fun C a b hI _ hg => ?_, fun C L W to us kx ky _ _ hI hS hL hto => ?_⟩
  · exact ⟨hI.1.grown hg (by simp; omega), hI.2.grown hg hI.2.size (fun k hk => by simp at hk; omega)⟩
  · clear kx ky
    have HI := Lib.hid hI
    have c0 := hI.1.cell 0
    have f0 := hI.1.frozen 0
    have hlt := hI.1.lt
    have HN : Hid (wcnt (C ++ [L]).length = wrap64 (wcnt C.length + 1)) := by unfold Hid; rw [List.length_append, List.length_singleton]; rfl
    clear hI
    go_enter Try.func55, Try.ntmps55
    go_wp2
    go_ret
    refine ⟨rfl, ⟨?_, HI.out.2.setCell (p := ⟨q, 0, none⟩) hqw _⟩, by simp [World.setCell], Below.heap_setCell W ⟨q, 0, none⟩ _ sb (show sb ≠ q by omega), Below.heap_setCell W ⟨q, 0, none⟩ _ gx (show gx ≠ q by omega), Below.heap_setCell W ⟨q, 0, none⟩ _ gy (show gy ≠ q by omega)⟩
    have h2 := HI.out.1.set 0 (.int .i64 (wrap64 (wcnt C.length + 1)))
    rw [HN.out]
    exact h2

/-- the one-celled box of a variable of the caller is kept -/
theorem CInv.st {w0 w1 : World} {q : Nat} (hq : q < w1.heap.size) {C : List (List Int)} {a b : World} (h : CInv w0 q C a) (hb : Below w1.heap.size a b) (h0 : w0.heap.size ≤ w1.heap.size) : CInv w0 q C b :=
  ⟨(hb.block q hq).trans h.1, h.2.trans (hb.mono h0)⟩
theorem implCA_any (v : Int) (A : Option Addr) (c : Nat) (xs : List Blk) (w : World) (hA : Bl w A xs) (hl : xs.length ≤ 1048576) :
    Calls Try.prog 18 #[.agg #[.int .i64 v, .slice A xs.length c]] w fun e w' => e = .returned (.tuple #[.int .i64 (caR v xs).1, .int .i64 (caR v xs).2]) ∧ Below w.heap.size w w' := by
  have HRR : Hid (caR v xs = (wcnt (autL (fun _ => true) v xs).length, fcode v xs)) := by
    unfold Hid caR autL
    by_cases h : fcode v xs = 0
    · have := lead_few h
      rw [if_pos h, if_pos h, runE_all (fun _ => rfl), List.nil_append]
      show _ = (wcnt (leadL v.toNat xs xs).length, _)
      rw [wcnt_is _ (by omega), h]
    · rw [if_neg h, if_neg h]; rfl
  generalize caR v xs = R at *
  have HA := Lib.hid hA; clear hA; have HR := Lib.hid (Row.box w 30 (.int .i64 v) (.slice A xs.length c)); have HW := Lib.hid (Since.refl w); go_enter Try.func18, Try.ntmps18; go_wp2_with fail; replace HA := Lib.hid (HA.out.below (below_alloc _ (.cells #[.int .i64 v, .slice A xs.length c] 30))); replace HW := Lib.hid (HW.out.below (below_alloc _ (.cells #[.int .i64 v, .slice A xs.length c] 30)))
  have hsz := HR.out.lt
  have HAL := Lib.hid (below_alloc (w.alloc (.cells #[.int .i64 v, .slice A xs.length c] 30)) (.cells #[.int .i64 0] 2))
  have HRN := Lib.hid (Row.new (w.alloc (.cells #[.int .i64 v, .slice A xs.length c] 30)) 2 #[.int .i64 0])
  simp only [World.size_alloc] at HRN
  have HWL := Lib.hid (HW.out.below HAL.out)
  refine (autos_any v A c xs 55 #[] #[.pointer (some ⟨w.heap.size + 1, 0, none⟩)] (fun _ => true) (CInv w (w.heap.size + 1)) _ (HA.out.below HAL.out) hl ⟨HRN.out, HWL.out⟩ (fun a b h1 h2 _ => h1.st (by simp) h2 (by simp; omega)) (fun _ _ sb gx gy h1 h2 h3 _ _ => caCl_any _ sb _ gx gy _ w (by simp at h1; omega) (by simp at h2; omega) (by simp at h3; omega) (by omega))).mono ?_
  rintro e w3 ⟨rfl, hI, hz⟩
  have HI := Lib.hid hI
  have c0 := hI.1.cell 0
  have hlt := hI.1.lt
  clear hI hz
  go_wp2
  go_ret2
  exact ⟨by rw [HRR.out]; rfl, HI.out.2⟩

end Go.Proofs.Ytgbkonnmjmlalaa

/- Contracts of the reference's laws of automorphisms; conditions: stated in each. -/
namespace Go.Proofs.Ytgbkonnmjmlalaa
open Go.RowKit
set_option maxHeartbeats 1000000
set_option maxRecDepth 100000
set_option linter.unusedSimpArgs false
set_option linter.unusedVariables false

theorem okA_false : okA false = fun _ => true := by funext L; rfl
theorem okA_true : okA true = goB := by funext L; rfl
theorem btw_false (n : Nat) (xs ys : List Blk) (most : Nat) : btwL n xs ys most false = (leadL n xs ys).take most := by
  unfold btwL takeB; rw [okA_false, List.filter_eq_self.2 (fun _ _ => rfl)]; simp
theorem btw_true (n : Nat) (xs ys : List Blk) (most : Nat) : btwL n xs ys most true = ((leadL n xs ys).filter goB).take most := by
  unfold btwL takeB; rw [okA_true]; simp
theorem lead_bd {n : Nat} {xs ys : List Blk} (hs : isSys n xs) (ht : isSys n ys) (hf : fullB n xs = true) (hg : fullB n ys = true) : (leadL n xs ys).length ≤ 50625 := by
  have hv := hs.1
  exact autos_few (sts_of hs hf) (sts_of ht hg) (by omega) (by omega)
theorem LLq.base {w : World} {base b' : Nat} {u : Value} {xss : List (List Int)} (h : LLq w base u xss) (hb : b' ≤ base) : LLq w b' u xss := by
  obtain ⟨vs, ho, hi⟩ := h
  refine ⟨vs, own_base ho hb, fun k hk => ?_⟩
  obtain ⟨r, h1, h2, h3⟩ := hi k hk
  exact ⟨r, h1, own_base h2 hb, h3⟩
theorem code_one (v : Int) (A : Option Addr) (c : Nat) (xs : List Blk) (W : World) (g : Nat) (hg : W.heap.size = g) (hA : Bl W A xs) (hl : xs.length ≤ 1048576) :
    Calls Try.prog 51 #[.slice (some ⟨g, 0, none⟩) 1 1] (W.alloc (.cells #[.int .i64 v, .slice A xs.length c] 30)) fun e w' => e = .returned (.int .i64 (fcode v xs)) ∧ Below W.heap.size W w' := by
  subst hg
  have h := l06Code_any (some ⟨W.heap.size, 0, none⟩) 1 [(v, xs)] _ (sl_one W v A c xs 30 hA) (by simp) (by intro k hk; simp at hk; subst hk; exact hl)
  rw [codeP_one] at h
  exact h.mono fun e w' ⟨h1, h2⟩ => ⟨h1, below_up (below_alloc _ _) h2⟩
theorem l06All_any (n : Nat) (A : Option Addr) (c : Nat) (xs : List Blk) (w : World) (hA : Bl w A xs) (hl : xs.length ≤ 1048576) (hs : isSys n xs) (hf : fullB n xs = true) :
    Calls Try.prog 52 #[.agg #[.int .i64 n, .slice A xs.length c]] w fun r w' => ∃ u, r = .returned u ∧ LLq w' w.heap.size u (leadL n xs xs) ∧ Below w.heap.size w w' := by
  have HS := Lib.hid hs; have HF := Lib.hid hf
  have HE : Hid (btwL n xs xs 1000000 false = leadL n xs xs) := by
    unfold Hid; rw [btw_false, List.take_of_length_le (by have := lead_bd hs hs hf hf; omega)]
  clear hs hf
  go_enter Try.func52, Try.ntmps52
  have HB := Lib.hid (below_alloc w (.cells #[.int .i64 n, .slice A xs.length c] 30))
  have HA := Lib.hid (hA.below HB.out); clear hA
  go_wp2_with fail
  refine (l06Between_any n A c xs A c xs 1000000 false _ HA.out hl HA.out hl HS.out HS.out HF.out HF.out (by omega) (by omega)).mono ?_
  rintro r w1 ⟨u, rfl, hL, hb⟩
  rw [HE.out] at hL
  have HL : Hid (LLq w1 w.heap.size u (leadL n xs xs)) := hL.base HB.out.size
  have HB1 := Lib.hid (below_up HB.out hb)
  clear hL hb
  go_wp2
  go_ret
  exact ⟨_, rfl, HL.out, HB1.out⟩

theorem fcode_no {v : Int} {xs : List Blk} (h : fcode v xs ≠ 0) : (fcode v xs != 0) = true := by simpa using h
theorem specCA_any (v : Int) (A : Option Addr) (c : Nat) (xs : List Blk) (w : World) (hA : Bl w A xs) (hl : xs.length ≤ 1048576) :
    Calls Try.prog 16 #[.agg #[.int .i64 v, .slice A xs.length c]] w fun e w' => e = .returned (.tuple #[.int .i64 (caR v xs).1, .int .i64 (caR v xs).2]) ∧ Below w.heap.size w w' := by
  by_cases hc : fcode v xs = 0
  · obtain ⟨h1, h2⟩ := fcode_zero hc
    have hs := isSysB_iff.1 h1
    have hv := hs.1
    obtain ⟨n, rfl⟩ := Int.eq_ofNat_of_zero_le (by omega : 0 ≤ v)
    have HS := Lib.hid hs; have HF := Lib.hid h2
    have HC := Lib.hid hc
    have hld := lead_bd hs hs h2 h2
    have HN : Hid (caR n xs = (((leadL n xs xs).length : Int), 0)) := by unfold Hid caR; rw [if_pos hc]; rfl
    generalize caR n xs = R at *
    clear hs h1 h2 hc
    go_enter Try.func16, Try.ntmps16; have HA := Lib.hid hA; clear hA; have HR := Lib.hid (Row.box w 30 (.int .i64 n) (.slice A xs.length c)); have HW := Lib.hid (Since.refl w); replace HA := Lib.hid (HA.out.below (below_alloc _ (.cells #[.int .i64 n, .slice A xs.length c] 30))); replace HW := Lib.hid (HW.out.below (below_alloc _ (.cells #[.int .i64 n, .slice A xs.length c] 30))); obtain ⟨c0, c1⟩ := HR.out.c2; go_wp2_with fail; refine (code_one n A c xs _ _ (by simp) HA.out hl).mono ?_; rw [HC.out]; rintro e w_ ⟨rfl, hb⟩; replace HA := Lib.hid (HA.out.below hb); replace HW := Lib.hid (HW.out.below hb); replace HR := Lib.hid (HR.out.below hb); clear hb; (try clear c0 c1); obtain ⟨c0, c1⟩ := HR.out.c2
    go_wp2_with fail
    refine (l06All_any n A c xs _ HA.out hl HS.out HF.out).mono ?_
    rintro r w3 ⟨u, rfl, hL, hb⟩
    obtain ⟨B, d, rfl⟩ := hL.slice
    have HW3 := Lib.hid (HW.out.below hb)
    clear hL hb
    go_wp2
    go_ret2
    exact ⟨by rw [HN.out]; rfl, HW3.out⟩
  · have HC := Lib.hid hc
    have hne : (fcode v xs != 0) = true := by simpa using hc
    have HN : Hid (caR v xs = (0, fcode v xs)) := by unfold Hid caR; rw [if_neg hc]
    generalize caR v xs = R at *
    clear hc
    go_enter Try.func16, Try.ntmps16; have HA := Lib.hid hA; clear hA; have HR := Lib.hid (Row.box w 30 (.int .i64 v) (.slice A xs.length c)); have HW := Lib.hid (Since.refl w); replace HA := Lib.hid (HA.out.below (below_alloc _ (.cells #[.int .i64 v, .slice A xs.length c] 30))); replace HW := Lib.hid (HW.out.below (below_alloc _ (.cells #[.int .i64 v, .slice A xs.length c] 30))); obtain ⟨c0, c1⟩ := HR.out.c2; go_wp2_with fail; refine (code_one v A c xs _ _ (by simp) HA.out hl).mono ?_; rintro e w_ ⟨rfl, hb⟩; replace HA := Lib.hid (HA.out.below hb); replace HW := Lib.hid (HW.out.below hb); replace HR := Lib.hid (HR.out.below hb); clear hb; (try clear c0 c1); obtain ⟨c0, c1⟩ := HR.out.c2
    go_wp2
    go_ret2
    exact ⟨by rw [HN.out]; rfl, HW.out⟩

theorem specGo_any (v : Int) (A : Option Addr) (c : Nat) (xs : List Blk) (w : World) (hA : Bl w A xs) (hl : xs.length ≤ 1048576) :
    Calls Try.prog 30 #[.agg #[.int .i64 v, .slice A xs.length c]] w (LP w (goR v xs).1 (goR v xs).2) := by
  by_cases hc : fcode v xs = 0
  · obtain ⟨h1, h2⟩ := fcode_zero hc
    have hs := isSysB_iff.1 h1
    have hv := hs.1
    obtain ⟨n, rfl⟩ := Int.eq_ofNat_of_zero_le (by omega : 0 ≤ v)
    have HS := Lib.hid hs; have HF := Lib.hid h2
    have HC := Lib.hid hc
    have hld := lead_bd hs hs h2 h2
    have HN : Hid (goR n xs = if (leadL n xs xs).filter goB = [] then ([], 4) else (fstL ((leadL n xs xs).filter goB), 0)) := by unfold Hid goR; rw [if_pos hc]; rfl
    have HBT := Lib.hid (btw_true n xs xs 1)
    generalize goR n xs = R at *
    clear hs h1 h2 hc
    go_enter Try.func30, Try.ntmps30; have HA := Lib.hid hA; clear hA; have HR := Lib.hid (Row.box w 30 (.int .i64 n) (.slice A xs.length c)); have HW := Lib.hid (Since.refl w); replace HA := Lib.hid (HA.out.below (below_alloc _ (.cells #[.int .i64 n, .slice A xs.length c] 30))); replace HW := Lib.hid (HW.out.below (below_alloc _ (.cells #[.int .i64 n, .slice A xs.length c] 30))); obtain ⟨c0, c1⟩ := HR.out.c2; go_wp2_with fail; refine (code_one n A c xs _ _ (by simp) HA.out hl).mono ?_; rw [HC.out]; rintro e w_ ⟨rfl, hb⟩; replace HA := Lib.hid (HA.out.below hb); replace HW := Lib.hid (HW.out.below hb); replace HR := Lib.hid (HR.out.below hb); clear hb; (try clear c0 c1); obtain ⟨c0, c1⟩ := HR.out.c2
    go_wp2_with fail
    refine (l06Between_any n A c xs A c xs 1 true _ HA.out hl HA.out hl HS.out HS.out HF.out HF.out (by omega) (by omega)).mono ?_
    rintro r w3 ⟨u, rfl, hL, hb⟩
    rw [HBT.out] at hL
    obtain ⟨B, d, rfl⟩ := hL.slice
    have HL := Lib.hid (LLq.base hL HW.out.size)
    have HW3 := Lib.hid (HW.out.below hb)
    clear hL hb
    cases hfl : (leadL n xs xs).filter goB with
    | nil =>
      rw [hfl] at HL HN
      have HN2 : Hid (R = ([], 4)) := by unfold Hid; rw [HN.out, if_pos rfl]
      have e0 : (List.take 1 ([] : List (List Int))).length = 0 := rfl
      rw [e0]
      clear e0
      go_wp2
      go_ret2
      exact LP.nil (by rw [HN2.out]) (by rw [HN2.out]) HW3.out
    | cons L Ls =>
      rw [hfl] at HL HN
      have HN2 : Hid (R = (L, 0)) := by unfold Hid; rw [HN.out, if_neg (by simp)]; rfl
      obtain ⟨g, r, hB, hg, hcell, hR⟩ := HL.out.at_ (k := 0) (by simp)
      subst hB
      have e1 : nthLL (List.take 1 (L :: Ls)) 0 = L := rfl
      rw [e1] at hR
      obtain ⟨C, f, rfl⟩ := own_slice hR
      have HR2 := Lib.hid hR
      have e0 : (List.take 1 (L :: Ls)).length = 1 := rfl
      rw [e0]
      clear e0 e1 hR hfl
      go_wp2
      go_ret2
      exact LP.mk HR2.out (by rw [HN2.out]) (by rw [HN2.out]) HW3.out
  · have HC := Lib.hid hc
    have hne : (fcode v xs != 0) = true := by simpa using hc
    have HN : Hid (goR v xs = ([], fcode v xs)) := by unfold Hid goR; rw [if_neg hc]
    generalize goR v xs = R at *
    clear hc
    go_enter Try.func30, Try.ntmps30; have HA := Lib.hid hA; clear hA; have HR := Lib.hid (Row.box w 30 (.int .i64 v) (.slice A xs.length c)); have HW := Lib.hid (Since.refl w); replace HA := Lib.hid (HA.out.below (below_alloc _ (.cells #[.int .i64 v, .slice A xs.length c] 30))); replace HW := Lib.hid (HW.out.below (below_alloc _ (.cells #[.int .i64 v, .slice A xs.length c] 30))); obtain ⟨c0, c1⟩ := HR.out.c2; go_wp2_with fail; refine (code_one v A c xs _ _ (by simp) HA.out hl).mono ?_; rintro e w_ ⟨rfl, hb⟩; replace HA := Lib.hid (HA.out.below hb); replace HW := Lib.hid (HW.out.below hb); replace HR := Lib.hid (HR.out.below hb); clear hb; (try clear c0 c1); obtain ⟨c0, c1⟩ := HR.out.c2
    go_wp2
    go_ret2
    exact LP.nil (by rw [HN.out]) (by rw [HN.out]) HW.out

/-- The call returned the lists 'xss', all rows of its own, and 'k'. -/
def LPP (w : World) (xss : List (List Int)) (k : Int) (e : Ending) (w' : World) : Prop :=
  ∃ B d, e = .returned (.tuple #[.slice B xss.length d, .int .i64 k]) ∧ LLq w' w.heap.size (.slice B xss.length d) xss ∧ Below w.heap.size w w'
theorem LPP.mk {w w' : World} {u : Value} {xss yss : List (List Int)} {k k' : Int} (h : LLq w' w.heap.size u xss) (hn : yss = xss) (hk : k' = k) (hb : Below w.heap.size w w') : LPP w yss k' (.returned (.tuple #[u, .int .i64 k])) w' := by
  subst hn hk
  obtain ⟨B, d, rfl⟩ := h.slice
  exact ⟨B, d, rfl, h, hb⟩
theorem LPP.nil {w w' : World} {xss : List (List Int)} {k k' : Int} (hn : xss = []) (hk : k' = k) (hb : Below w.heap.size w w') : LPP w xss k' (.returned (.tuple #[.slice none 0 0, .int .i64 k])) w' := LPP.mk (LLq.nil _ _) hn hk hb

theorem specAut_any (v : Int) (A : Option Addr) (c : Nat) (xs : List Blk) (w : World) (hA : Bl w A xs) (hl : xs.length ≤ 1048576) :
    Calls Try.prog 34 #[.agg #[.int .i64 v, .slice A xs.length c]] w (LPP w (autR v xs).1 (autR v xs).2) := by
  by_cases hc : fcode v xs = 0
  · obtain ⟨h1, h2⟩ := fcode_zero hc
    have hs := isSysB_iff.1 h1
    have hv := hs.1
    obtain ⟨n, rfl⟩ := Int.eq_ofNat_of_zero_le (by omega : 0 ≤ v)
    have HS := Lib.hid hs; have HF := Lib.hid h2
    have HC := Lib.hid hc
    have hld := lead_bd hs hs h2 h2
    have HN : Hid (autR n xs = if (leadL n xs xs).length > 500 then ([], 3) else (leadL n xs xs, 0)) := by unfold Hid autR; rw [if_pos hc]; rfl
    have HBT := Lib.hid (btw_false n xs xs 501)
    generalize autR n xs = R at *
    clear hs h1 h2 hc
    go_enter Try.func34, Try.ntmps34; have HA := Lib.hid hA; clear hA; have HR := Lib.hid (Row.box w 30 (.int .i64 n) (.slice A xs.length c)); have HW := Lib.hid (Since.refl w); replace HA := Lib.hid (HA.out.below (below_alloc _ (.cells #[.int .i64 n, .slice A xs.length c] 30))); replace HW := Lib.hid (HW.out.below (below_alloc _ (.cells #[.int .i64 n, .slice A xs.length c] 30))); obtain ⟨c0, c1⟩ := HR.out.c2; go_wp2_with fail; refine (code_one n A c xs _ _ (by simp) HA.out hl).mono ?_; rw [HC.out]; rintro e w_ ⟨rfl, hb⟩; replace HA := Lib.hid (HA.out.below hb); replace HW := Lib.hid (HW.out.below hb); replace HR := Lib.hid (HR.out.below hb); clear hb; (try clear c0 c1); obtain ⟨c0, c1⟩ := HR.out.c2
    go_wp2_with fail
    refine (l06Between_any n A c xs A c xs 501 false _ HA.out hl HA.out hl HS.out HS.out HF.out HF.out (by omega) (by omega)).mono ?_
    rintro r w3 ⟨u, rfl, hL, hb⟩
    rw [HBT.out] at hL
    obtain ⟨B, d, rfl⟩ := hL.slice
    have HL := Lib.hid (LLq.base hL HW.out.size)
    have HW3 := Lib.hid (HW.out.below hb)
    clear hL hb
    by_cases h5 : (leadL n xs xs).length > 500
    · have HN2 : Hid (R = ([], 3)) := by unfold Hid; rw [HN.out, if_pos h5]
      have e0 : (List.take 501 (leadL n xs xs)).length = 501 := by rw [List.length_take]; omega
      rw [e0]
      clear e0 h5
      go_wp2
      go_ret2
      exact LPP.nil (by rw [HN2.out]) (by rw [HN2.out]) HW3.out
    · have HN2 : Hid (R = (leadL n xs xs, 0)) := by unfold Hid; rw [HN.out, if_neg h5]
      have e0 : List.take 501 (leadL n xs xs) = leadL n xs xs := List.take_of_length_le (by omega)
      rw [e0] at HL
      rw [e0]
      have h6 : (leadL n xs xs).length ≤ 500 := by omega
      clear e0 h5
      go_wp2
      go_ret2
      exact LPP.mk HL.out (by rw [HN2.out]) (by rw [HN2.out]) HW3.out
  · have HC := Lib.hid hc
    have hne : (fcode v xs != 0) = true := by simpa using hc
    have HN : Hid (autR v xs = ([], fcode v xs)) := by unfold Hid autR; rw [if_neg hc]
    generalize autR v xs = R at *
    clear hc
    go_enter Try.func34, Try.ntmps34; have HA := Lib.hid hA; clear hA; have HR := Lib.hid (Row.box w 30 (.int .i64 v) (.slice A xs.length c)); have HW := Lib.hid (Since.refl w); replace HA := Lib.hid (HA.out.below (below_alloc _ (.cells #[.int .i64 v, .slice A xs.length c] 30))); replace HW := Lib.hid (HW.out.below (below_alloc _ (.cells #[.int .i64 v, .slice A xs.length c] 30))); obtain ⟨c0, c1⟩ := HR.out.c2; go_wp2_with fail; refine (code_one v A c xs _ _ (by simp) HA.out hl).mono ?_; rintro e w_ ⟨rfl, hb⟩; replace HA := Lib.hid (HA.out.below hb); replace HW := Lib.hid (HW.out.below hb); replace HR := Lib.hid (HR.out.below hb); clear hb; (try clear c0 c1); obtain ⟨c0, c1⟩ := HR.out.c2
    go_wp2
    go_ret2
    exact LPP.nil (by rw [HN.out]) (by rw [HN.out]) HW.out

end Go.Proofs.Ytgbkonnmjmlalaa

/- The frame of a law's proof: arguments opened, the row shut; conditions: none. -/
namespace Go.Proofs.Ytgbkonnmjmlalaa
open Go.ChangeShapes Go.WideShapes Go.ChangeAt Go.RowKit Go.Deep Go.Joins

theorem Try.own : ownKnob Try.prog.godebug = none := by kernel_rfl
theorem Try.laidOut : laidOutB Try.prog = true := by kernel_rfl

set_option maxRecDepth 100000
section
variable {H : Type} {enc : TypeId × Value → H}

theorem trodAll_below {P : Program} (hl : laidOutB P = true) {W W' : World} (hb : Below W.heap.size W W') : ∀ (ts : List TypeId) (vs : List Value) (ds : List (DataW H)) (ps : List MemPlace),
    (∀ t ∈ ts, P.readableRec t = true ∧ t < P.types.size) → (∀ x ∈ ps, x.block < W.heap.size) →
    DataW.TrodAll enc P W 0 (fun _ => true) true ts vs ds ps → DataW.TrodAll enc P W' 0 (fun b => decide (b < W.heap.size)) true ts vs ds ps := by
  intro ts
  induction ts with
  | nil =>
    intro vs ds ps _ _ h
    cases vs <;> cases ds <;> first | exact h | exact h.elim
  | cons t ts ih =>
    intro vs ds ps ht hlt h
    cases vs with
    | nil => exact h.elim
    | cons v vs =>
      cases ds with
      | nil => exact h.elim
      | cons d ds =>
        obtain ⟨p, q, h1, h2, rfl⟩ := h
        exact ⟨p, q, Below.trod hl (ht t (by simp)).1 (ht t (by simp)).2 h1 hb (fun x hx => hlt x (by simp [hx])),
          ih vs ds q (fun t' ht' => ht t' (by simp [ht'])) (fun x hx => hlt x (by simp [hx])) h2, rfl⟩

/-- A law's call that returns true and leaves what was there: the row's post. -/
theorem law_post {P : Program} {f : Func} {s : ChangeSpec} {W W' : World} {args : Array Value} {ds gs : List (DataW H)} {before : List MemPlace} {tb : TypeId}
    (hW : DataW.Whole enc P f.params.toList s.vars false W args.toList ds gs before) (hvars : s.vars = [])
    (hfn : s.fn H (ds ++ gs) = { results := [.lit (.bool true)], args := ds }) (hrt : f.resultTypes.toList = [tb]) (hbool : P.underlying tb = some .bool)
    (hl : laidOutB P = true) (hread0 : f.params.toList.all (fun t => P.readableRec t && decide (t < P.types.size)) = true) (hb : Below W.heap.size W W') :
    s.post enc P f false true false false W args (.bool true) W' := by
  have hread : ∀ t ∈ f.params.toList, P.readableRec t = true ∧ t < P.types.size := fun t ht => by
    have := List.all_eq_true.1 hread0 t ht
    simpa using this
  have hlt : ∀ x ∈ before, x.block < W.heap.size := fun p hp => hW.lt p hp
  have hW' := hW
  obtain ⟨p, q, hA, hV, hpq, hfz, hnd⟩ := hW
  rw [hvars] at hV
  obtain ⟨rfl, rfl⟩ := trodVars_none hV
  rw [List.append_nil] at hpq
  subst hpq
  refine ⟨ds, [], before, [], before, [], hW', ?_, ?_, ?_, ?_, fun h => by cases h⟩
  · rw [hfn, hrt]
    have : f.resultTypes.size = 1 := by rw [← Array.length_toList, hrt]; rfl
    rw [this]
    exact trodAll_mk1 (shut_bool hbool true)
  · rw [hfn]
    exact trodAll_below hl hb _ _ _ _ hread hlt hA
  · rw [hfn, hvars]; rfl
  · exact World.keptBut_mono (fun x hx => ⟨hx, .inr (.inl hx)⟩) (hb.frame (· ∈ before))

variable {W : World}
theorem open_blks {n : Nat} {v : Value} {y : DataW H × List MemPlace} (h : DataW.trod enc Try.prog W 0 (fun _ => true) true n 22 [v] = some y) :
    ∃ A c xs, v = .slice A xs.length c ∧ Bl W A xs ∧ xs.length ≤ 9223372036854775807 := by
  rcases open_slice Try.underlying22 h with ⟨hcs, _⟩ | ⟨a, len, cap, m, n', D, Pl, hcs, _, hlc, hcm, hm, _, hi⟩
  · simp only [List.cons.injEq, and_true] at hcs
    exact ⟨none, 0, [], by simpa using hcs, .inl rfl, by simp⟩
  · simp only [List.cons.injEq, and_true] at hcs
    simp only [if_true] at hm
    have hC : Try.prog.cellsOf 74 = 3 := by kernel_rfl
    have hC2 : Try.prog.cellsOf 2 = 1 := by kernel_rfl
    have hel : ∀ i, i < len → ∃ b : Blk, W.cell? ((a.add (i * 3)).add 0) = some (.int .i64 b.1) ∧ W.cell? ((a.add (i * 3)).add 1) = some (.int .i64 b.2.1) ∧ W.cell? ((a.add (i * 3)).add 2) = some (.int .i64 b.2.2) := by
      intro i hil
      obtain ⟨cs', h1, h2⟩ := hi i (by omega)
      rw [hC] at h1
      obtain ⟨xs, m', _, _, hlen, hxl, he⟩ := DataW.trod_array Try.underlying74 h2
      rw [hC] at hlen
      obtain ⟨_, _, hc⟩ := World.cells?_some h1
      match cs', hlen with
      | [c0, c1, c2], _ =>
        have e0 := he 0 (by omega); have e1 := he 1 (by omega); have e2 := he 2 (by omega)
        rw [hC2] at e0 e1 e2
        simp only [Nat.zero_mul, Nat.one_mul, List.drop_zero, List.take_succ_cons, List.take_zero, List.drop_succ_cons, Nat.reduceMul] at e0 e1 e2
        rw [List.getElem?_eq_getElem (by omega)] at e0 e1 e2
        obtain ⟨p, hp, _, _⟩ := DataW.trod_int Try.underlying2 e0
        obtain ⟨q, hq, _, _⟩ := DataW.trod_int Try.underlying2 e1
        obtain ⟨r, hr, _, _⟩ := DataW.trod_int Try.underlying2 e2
        simp only [List.cons.injEq, and_true] at hp hq hr
        subst hp hq hr
        exact ⟨(p, q, r), hc 0 (by omega), hc 1 (by omega), hc 2 (by omega)⟩
    obtain ⟨f, hf⟩ := choose_lt hel
    refine ⟨some a, cap, (List.range len).map f, by simpa using hcs, ?_, by unfold maxLen at hcm; simp; omega⟩
    by_cases h0 : len = 0
    · subst h0; exact .inl (by simp)
    · right
      obtain ⟨b, o, sp⟩ := a
      have hc0 := (hf 0 (by omega)).1
      rw [Nat.zero_mul] at hc0
      have hsp : sp = none ∧ b < W.heap.size := by
        simp only [Addr.add, if_true] at hc0
        unfold World.cell? at hc0
        split at hc0
        · rename_i heq
          constructor
          · cases sp with
            | none => rfl
            | some s => simp at hc0
          · rcases Nat.lt_or_ge b W.heap.size with hlt | hge
            · exact hlt
            · simp only at heq; rw [Array.getElem?_eq_none hge] at heq; cases heq
        · cases hc0
      obtain ⟨rfl, hlt⟩ := hsp
      refine ⟨b, o, rfl, hlt, fun k hk => ?_⟩
      have hk : k < len := by simpa using hk
      obtain ⟨f0, f1, f2⟩ := hf k hk
      have hn : nth ((List.range len).map f) k = f k := by simp [nth, hk]
      rw [hn]
      rw [add_add] at f0 f1 f2
      have key : ∀ j, (⟨b, o, none⟩ : Addr).add j = ⟨b, o + j, none⟩ := by intro j; unfold Addr.add; split <;> simp_all
      rw [key] at f0 f1 f2
      exact ⟨f0, f1, f2⟩

theorem open_nums {n : Nat} {v : Value} {y : DataW H × List MemPlace} (h : DataW.trod enc Try.prog W 0 (fun _ => true) true n 39 [v] = some y) :
    ∃ A c xs, v = .slice A xs.length c ∧ Il W A xs ∧ (∀ x ∈ xs, -9223372036854775808 ≤ x ∧ x ≤ 9223372036854775807) ∧ xs.length ≤ 9223372036854775807 := by
  have hC2 : Try.prog.cellsOf 2 = 1 := by kernel_rfl
  rcases open_slice1 Try.underlying39 hC2 h with ⟨hcs, _⟩ | ⟨a, len, cap, m, n', V, D, Pl, hcs, _, hlc, hcm, hm, _, hi⟩
  · simp only [List.cons.injEq, and_true] at hcs
    exact ⟨none, 0, [], by simpa using hcs, .inl rfl, by simp, by simp⟩
  · simp only [List.cons.injEq, and_true] at hcs
    simp only [if_true] at hm
    have hel : ∀ i, i < len → ∃ x : Int, W.cell? (a.add i) = some (.int .i64 x) ∧ -9223372036854775808 ≤ x ∧ x ≤ 9223372036854775807 := by
      intro i hil
      obtain ⟨h1, h2⟩ := hi i (by omega)
      obtain ⟨p, hp, _, hw⟩ := DataW.trod_int Try.underlying2 h2
      simp only [List.cons.injEq, and_true] at hp
      rw [hp] at h1
      exact ⟨p, h1, bounds_i64 hw⟩
    obtain ⟨f, hf⟩ := choose_lt hel
    refine ⟨some a, cap, (List.range len).map f, by simpa using hcs, ?_, ?_, by unfold maxLen at hcm; simp; omega⟩
    · by_cases h0 : len = 0
      · subst h0; exact .inl (by simp)
      · right
        obtain ⟨b, o, sp⟩ := a
        have hc0 := (hf 0 (by omega)).1
        have hsp : sp = none ∧ b < W.heap.size := by
          simp only [Addr.add, if_true] at hc0
          unfold World.cell? at hc0
          split at hc0
          · rename_i heq
            constructor
            · cases sp with
              | none => rfl
              | some s => simp at hc0
            · rcases Nat.lt_or_ge b W.heap.size with hlt | hge
              · exact hlt
              · simp only at heq; rw [Array.getElem?_eq_none hge] at heq; cases heq
          · cases hc0
        obtain ⟨rfl, hlt⟩ := hsp
        refine ⟨b, o, rfl, hlt, fun k hk => ?_⟩
        have hk : k < len := by simpa using hk
        have f0 := (hf k hk).1
        have hn : nthI ((List.range len).map f) k = f k := by simp [nthI, hk]
        rw [hn]
        have key : ∀ j, (⟨b, o, none⟩ : Addr).add j = ⟨b, o + j, none⟩ := by intro j; unfold Addr.add; split <;> simp_all
        rw [key] at f0
        exact f0
    · intro x hx
      simp only [List.mem_map, List.mem_range] at hx
      obtain ⟨i, hi', rfl⟩ := hx
      exact (hf i hi').2

theorem open_sys {b0 : Nat} {v : Value} {d : DataW H} {ps : List MemPlace} (hv : Value.okWide Try.prog W .any b0 24 v) (h : DataW.Trod enc Try.prog W 0 (fun _ => true) true 24 v d ps) :
    ∃ n A c xs, v = .agg #[.int .i64 n, .slice A xs.length c] ∧ Bl W A xs ∧ xs.length ≤ 9223372036854775807 ∧ -9223372036854775808 ≤ n ∧ n ≤ 9223372036854775807 := by
  obtain ⟨v0, v1, y0, y1, n, rfl, rfl, rfl, h0, h1⟩ := open_agg2 Try.underlying24 (by kernel_rfl) (by kernel_rfl) hv h
  obtain ⟨p, hp, _, hw⟩ := DataW.trod_int Try.underlying2 h0
  simp only [List.cons.injEq, and_true] at hp
  obtain ⟨A, c, xs, rfl, hB, hl⟩ := open_blks h1
  subst hp
  exact ⟨p, A, c, xs, rfl, hB, hl, (bounds_i64 hw).1, (bounds_i64 hw).2⟩

end
end Go.Proofs.Ytgbkonnmjmlalaa

/- Contracts of the law's own small functions: toBlock, toBlockS, toSystem, szBlockS, szSystem, eqBlockS, eqSystem; conditions: stated in each. -/
namespace Go.Proofs.Ytgbkonnmjmlalaa
open Go.RowKit
set_option maxHeartbeats 400000
set_option linter.unusedSimpArgs false
set_option linter.unusedVariables false

theorem toBlock_any (b : Blk) (w : World) :
    Calls Try.prog 92 #[.agg #[.int .i64 b.1, .int .i64 b.2.1, .int .i64 b.2.2]] w fun e w' => e = .returned (.agg #[.int .i64 b.1, .int .i64 b.2.1, .int .i64 b.2.2]) ∧ Below w.heap.size w w' := by
  obtain ⟨p, q, r⟩ := b
  dsimp only
  go_enter Try.func92, Try.ntmps92
  go_wp2
  refine wp_loop_rounds 4 ?_
  rw [rounds_succ]; go_wp2
  rw [rounds_succ]; go_wp2
  rw [rounds_succ]; go_wp2
  rw [rounds_succ]; go_wp2
  go_returns
  exact ⟨rfl, by go_grown⟩

theorem infoBlk : (Try.prog.info? 75).map (fun i => (i.zero, i.size, i.bytes)) = some (some (.agg #[.int .i64 0, .int .i64 0, .int .i64 0]), 3, 24) := by kernel_rfl

theorem toBlockS_any (A : Option Addr) (c : Nat) (xs : List Blk) (w : World) (hA : Bl w A xs) (hl : xs.length ≤ 1048576) :
    Calls Try.prog 53 #[.slice A xs.length c] w fun e w' => ∃ g, e = .returned (.slice (some ⟨g, 0, none⟩) xs.length xs.length) ∧ (∃ cur, Row w' g 75 cur ∧ cur.size = xs.length * 3 ∧ ∀ k, k < xs.length → At3 cur k (nth xs k)) ∧ w.heap.size ≤ g ∧ Below w.heap.size w w' := by
  obtain ⟨i0, hi, hz0, hz1, hz2⟩ := info_parts infoBlk
  have HA := Lib.hid hA; clear hA
  go_enter Try.func53, Try.ntmps53
  go_wp2_with (at_make; refine wpList_make_full _ rfl _ _ 28 rfl w.heap.size 75 i0 _ 3 Try.underlying28 hi hz0 hz1 .i64 .i64 _ _ xs.length rfl rfl rfl rfl (by rw [hz2]; omega) (by unfold maxLen; omega) (Nat.le_refl _) ?_; intro w0 hown0 hgrow0)
  obtain ⟨cur0, hR0, hcs0⟩ := Row.own hown0
  have hB0 : Below w.heap.size w w0 := below_grown (Below.refl _ _) hgrow0 (fun k hk => by cases hk)
  have HR0 := Lib.hid hR0; have HB0 := Lib.hid hB0; have HS := Lib.hid hcs0
  clear hown0 hgrow0 hR0 hB0 hcs0 hi hz0 hz1 hz2
  go_loopw [4] (fun i wr => ∃ k : Nat, k ≤ xs.length ∧ i = .int .i64 k ∧ Hid (Below w.heap.size w wr ∧ ∃ cur, Row wr w.heap.size 75 cur ∧ cur.size = xs.length * 3 ∧ ∀ j, j < k → At3 cur j (nth xs j))) (fun i _ => xs.length - (intOf i).toNat)
  case atStart => exact ⟨0, by omega, rfl, HB0.out, cur0, HR0.out, HS.out, fun j hj => by omega⟩
  case round =>
    obtain ⟨k, hk, rfl, HC⟩ := hrel
    by_cases hlt : k < xs.length
    · obtain ⟨b1, o1, hA1, hb1, p0, p1, p2⟩ := (HA.out.below HC.out.1).at_ hlt
      subst hA1
      obtain ⟨hb, cur, hR, hcs, hat⟩ := HC.out
      have HB := Lib.hid hb; have HR := Lib.hid hR; have HCS := Lib.hid hcs; have HAT := Lib.hid hat
      clear hb hR hcs hat HC
      go_wp2_with fail
      refine (toBlock_any (nth xs k) _).mono ?_
      rintro e w1 ⟨rfl, hb2⟩
      have HR1 := Lib.hid (HR.out.below hb2)
      have HB1 := Lib.hid (below_up HB.out hb2)
      clear hb2 HR HB
      have hcs := HCS.out
      obtain ⟨u0, q0⟩ := HR1.out.cellAt (i := k * 3) (by omega)
      obtain ⟨u1, q1⟩ := HR1.out.cellAt (i := k * 3 + 1) (by omega)
      obtain ⟨u2, q2⟩ := HR1.out.cellAt (i := k * 3 + 2) (by omega)
      have f0 := HR1.out.frozen (k * 3)
      have f1 := HR1.out.frozen (k * 3 + 1)
      have f2 := HR1.out.frozen (k * 3 + 2)
      clear hcs
      go_wp2
      go_roundw
      case rel =>
        refine ⟨k + 1, by omega, by go_num, ((HB1.out.setCell (Nat.le_refl _) _).setCell (Nat.le_refl _) _).setCell (Nat.le_refl _) _, _, ((HR1.out.set _ _).set _ _).set _ _, by simpa using HCS.out, fun j hj => ?_⟩
        by_cases hjk : j = k
        · subst hjk
          exact At3.new (by have := HCS.out; omega) _
        · exact (HAT.out j (by omega)).set3 hjk _ _ _
      case measure => simp [intOf]; omega
    · obtain rfl : k = xs.length := by omega
      go_wp2
      go_ret
      obtain ⟨hb, cur, hR, hcs, hat⟩ := HC.out
      exact ⟨w.heap.size, rfl, ⟨cur, hR, hcs, hat⟩, Nat.le_refl _, hb⟩

theorem toSystem_row (v : Int) (A : Option Addr) (c : Nat) (xs : List Blk) (w : World) (hA : Bl w A xs) (hl : xs.length ≤ 1048576) :
    Calls Try.prog 17 #[.agg #[.int .i64 v, .slice A xs.length c]] w fun e w' => ∃ g, e = .returned (.agg #[.int .i64 v, .slice (some ⟨g, 0, none⟩) xs.length xs.length]) ∧ (∃ cur, Row w' g 75 cur ∧ cur.size = xs.length * 3 ∧ ∀ k, k < xs.length → At3 cur k (nth xs k)) ∧ w.heap.size ≤ g ∧ Below w.heap.size w w' := by
  have HA := Lib.hid hA; clear hA
  go_enter Try.func17, Try.ntmps17
  go_wp2_with fail
  refine (toBlockS_any A c xs _ (HA.out.below (by go_grown)) hl).mono ?_
  rintro e w1 ⟨g, rfl, ⟨cur, hR, hcs, hat⟩, hle, hb⟩
  have hR0 : Row w1 (w.heap.size + 1) 30 #[.int .i64 0, .slice none 0 0] := by
    have h0 := Row.new (w.alloc (.cells #[.int .i64 v, .slice A xs.length c] 24)) 30 #[.int .i64 0, .slice none 0 0]
    rw [World.size_alloc] at h0
    exact (h0.below (below_alloc _ _)).below hb
  obtain ⟨hc1, hf1⟩ := old_cells hb
  have hsz : w.heap.size + 3 ≤ w1.heap.size := by have := hb.size; simp at this; omega
  have HBL := Lib.hid hR; have HCS := Lib.hid hcs; have HAT := Lib.hid hat
  have HB := Lib.hid hb
  have HR0 := Lib.hid hR0
  have hg3 : w.heap.size + 3 ≤ g := by simpa using hle
  clear hR hcs hat hb hle hR0
  go_wp2
  have hR3 : Row (((w1.setCell ⟨w.heap.size + 1 + 1, 1, none⟩ (.slice (some ⟨g, 0, none⟩) xs.length xs.length)).setCell ⟨w.heap.size + 1, 0, none⟩ (.int .i64 v)).setCell ⟨w.heap.size + 1, 1, none⟩ (.slice (some ⟨g, 0, none⟩) xs.length xs.length)) (w.heap.size + 1) 30 #[.int .i64 v, .slice (some ⟨g, 0, none⟩) xs.length xs.length] :=
    ((HR0.out.far (by simp) _).set 0 _).set 1 _
  have r0 := hR3.cell 0
  have r1 := hR3.cell 1
  refine bodyPost_ret (v := .agg #[.int .i64 v, .slice (some ⟨g, 0, none⟩) xs.length xs.length]) (by simp [results, Try.results17, go_sem, r0, r1]) rfl ⟨g, rfl, ?_, by omega, ?_⟩
  · exact ⟨cur, ((HBL.out.far (by simp; omega) _).far (by simp; omega) _).far (by simp; omega) _, HCS.out, HAT.out⟩
  · refine Below.setCell (Below.setCell (Below.setCell (below_up ?_ HB.out) ?_ _) ?_ _) ?_ _
    · go_grown
    all_goals simp
    all_goals omega

theorem toSystem_any (v : Int) (A : Option Addr) (c : Nat) (xs : List Blk) (w : World) (hA : Bl w A xs) (hl : xs.length ≤ 1048576) :
    Calls Try.prog 17 #[.agg #[.int .i64 v, .slice A xs.length c]] w fun e w' => ∃ g, e = .returned (.agg #[.int .i64 v, .slice (some ⟨g, 0, none⟩) xs.length xs.length]) ∧ Bl w' (some ⟨g, 0, none⟩) xs ∧ w.heap.size ≤ g ∧ Below w.heap.size w w' := by
  refine (toSystem_row v A c xs w hA hl).mono ?_
  rintro e w1 ⟨g, rfl, ⟨cur, hR, _, hat⟩, hg, hb⟩
  exact ⟨g, rfl, Bl.row hR hat, hg, hb⟩

theorem szBlockS_any (A : Option Addr) (n c : Nat) (left : Int) (w : World) (hn : n ≤ 9223372036854775807) (h0 : 0 ≤ left) (h1 : left ≤ 1048576) :
    Calls Try.prog 50 #[.slice A n c, .int .i64 left] w fun e w' => e = .returned (.int .i64 (if left - n < 0 then -1 else left - n)) ∧ w = w' := by
  go_enter Try.func50, Try.ntmps50
  by_cases h : left - n < 0
  · go_wp2
    go_ret
    exact ⟨ret_int (by first | rfl | rw [if_pos h]), rfl⟩
  · go_wp2
    go_ret
    exact ⟨ret_int (by first | rfl | rw [if_neg (by omega)]), rfl⟩

theorem szSystem_any (v : Int) (A : Option Addr) (n c : Nat) (left : Int) (w : World) (hn : n ≤ 9223372036854775807) (h0 : 0 ≤ left) (h1 : left ≤ 1048576) :
    Calls Try.prog 15 #[.agg #[.int .i64 v, .slice A n c], .int .i64 left] w fun e w' => e = .returned (.int .i64 (if left - n < 0 then -1 else left - n)) ∧ Below w.heap.size w w' := by
  go_enter Try.func15, Try.ntmps15
  by_cases h : left - n < 0
  · have hi : (if left - (n : Int) < 0 then (-1 : Int) else left - n) = -1 := if_pos h
    rw [hi]
    have hi' := Lib.hid hi
    clear hi
    go_wp2_with (go_at_call 50; refine (szBlockS_any A n c left _ hn h0 h1).mono ?_; rw [hi'.out]; rintro e w' ⟨rfl, rfl⟩)
    go_ret
    exact ⟨rfl, below_alloc _ _⟩
  · have hi : (if left - (n : Int) < 0 then (-1 : Int) else left - n) = left - n := if_neg h
    rw [hi]
    have hi' := Lib.hid hi
    clear hi
    go_wp2_with (go_at_call 50; refine (szBlockS_any A n c left _ hn h0 h1).mono ?_; rw [hi'.out]; rintro e w' ⟨rfl, rfl⟩)
    go_ret
    exact ⟨rfl, below_alloc _ _⟩

theorem nth_ext {xs ys : List Blk} (hl : xs.length = ys.length) (h : ∀ j, j < xs.length → nth xs j = nth ys j) : xs = ys := by
  apply List.ext_getElem hl
  intro i h1 h2
  have := h i h1
  simpa [nth, h1, h2] using this
noncomputable def eqBls (xs ys : List Blk) : Bool := open Classical in decide (xs = ys)
theorem eqBls_true {xs ys : List Blk} (h : xs = ys) : eqBls xs ys = true := by unfold eqBls; simp [h]
theorem eqBls_false {xs ys : List Blk} (h : ¬ xs = ys) : eqBls xs ys = false := by unfold eqBls; simp [h]

theorem eqBlockS_any (A B : Option Addr) (c d : Nat) (xs ys : List Blk) (w : World) (hA : Bl w A xs) (hB : Bl w B ys) (hla : xs.length ≤ 1073741824) (hlb : ys.length ≤ 1073741824) :
    Calls Try.prog 56 #[.slice A xs.length c, .slice B ys.length d] w fun e w' => e = .returned (.bool (eqBls xs ys)) ∧ Below w.heap.size w w' := by
  have HA := Lib.hid hA; have HB := Lib.hid hB; clear hA hB
  by_cases hl : xs.length = ys.length
  · have HL := Lib.hid hl
    clear hl
    have hne : ((xs.length : Int) != (ys.length : Int)) = false := by simp [HL.out]
    go_enter Try.func56, Try.ntmps56
    go_wp2
    go_loopw [5] (fun i wr => ∃ k : Nat, k ≤ xs.length ∧ i = .int .i64 k ∧ Below w.heap.size w wr ∧ Hid (∀ j, j < k → nth xs j = nth ys j)) (fun i _ => xs.length - (intOf i).toNat)
    case atStart => exact ⟨0, by omega, rfl, Below.refl _ _, fun j hj => by omega⟩
    case round =>
      obtain ⟨k, hk, rfl, hb, HJ⟩ := hrel
      by_cases hlt : k < xs.length
      · have hltb : k < ys.length := by rw [← HL.out]; exact hlt
        obtain ⟨b1, o1, hA1, hb1, p0, p1, p2⟩ := (HA.out.below hb).at_ hlt
        subst hA1
        obtain ⟨b2, o2, hA2, hb2, q0, q1, q2⟩ := (HB.out.below hb).at_ hltb
        subst hA2
        by_cases he : eqB (nth xs k) (nth ys k) = true
        · go_wp2
          refine wp_region_ge_lit (by kernel_rfl) (by kernel_rfl) ?_; (repeat (go_big_quiet_step ((go_at_call 95; exact ge_call (eqBlock_any (nth xs k) (nth ys k) _))))); refine wpQuiet_nil ?_
          rintro w1 ⟨x, rfl⟩
          go_wp2
          go_roundw
          case rel =>
            refine ⟨k + 1, by omega, by go_num, below_up hb (ge_below _ _), fun j hj => ?_⟩
            by_cases hjk : j < k
            · exact HJ.out j hjk
            · obtain rfl : j = k := by omega
              simpa [eqB] using he
          case measure => simp [intOf]; omega
        · have he' : eqB (nth xs k) (nth ys k) = false := by simpa using he
          clear he
          go_wp2
          refine wp_region_ge_lit (by kernel_rfl) (by kernel_rfl) ?_; (repeat (go_big_quiet_step ((go_at_call 95; exact ge_call (eqBlock_any (nth xs k) (nth ys k) _))))); refine wpQuiet_nil ?_
          rintro w1 ⟨x, rfl⟩
          go_wp2
          go_ret
          exact ⟨ret_bool (eqBls_false fun h => by rw [h] at he'; simp [eqB] at he').symm, below_up hb (ge_below _ _)⟩
      · obtain rfl : k = xs.length := by omega
        go_wp2
        go_ret
        exact ⟨ret_bool (eqBls_true (nth_ext HL.out HJ.out)).symm, hb⟩
  · have hne : ((xs.length : Int) != (ys.length : Int)) = true := by rw [bne_iff_ne]; omega
    have HN := Lib.hid hl
    clear hl
    go_enter Try.func56, Try.ntmps56
    go_wp2
    go_ret
    exact ⟨ret_bool (eqBls_false fun h => HN.out (by rw [h])).symm, Below.refl _ _⟩

noncomputable def eqSys (v : Int) (xs : List Blk) (u : Int) (ys : List Blk) : Bool := open Classical in decide (v = u ∧ xs = ys)
theorem eqSys_true {v : Int} {xs : List Blk} {u : Int} {ys : List Blk} (h : v = u ∧ xs = ys) : eqSys v xs u ys = true := by unfold eqSys; simp [h]
theorem eqSys_false {v : Int} {xs : List Blk} {u : Int} {ys : List Blk} (h : ¬ (v = u ∧ xs = ys)) : eqSys v xs u ys = false := by unfold eqSys; simp [h]

theorem eqSystem_any (v u : Int) (A B : Option Addr) (c d : Nat) (xs ys : List Blk) (w : World) (hA : Bl w A xs) (hB : Bl w B ys) (hla : xs.length ≤ 1073741824) (hlb : ys.length ≤ 1073741824) :
    Calls Try.prog 19 #[.agg #[.int .i64 v, .slice A xs.length c], .agg #[.int .i64 u, .slice B ys.length d]] w fun e w' => e = .returned (.bool (eqSys v xs u ys)) ∧ Below w.heap.size w w' := by
  have HA := Lib.hid hA; have HB := Lib.hid hB; clear hA hB
  by_cases hv : v = u
  · subst hv
    by_cases he : eqBls xs ys = true
    all_goals
      go_enter Try.func19, Try.ntmps19
      go_wp2_with (go_at_call 56; refine (eqBlockS_any A B c d xs ys _ (HA.out.below (by go_grown)) (HB.out.below (by go_grown)) hla hlb).mono ?_; rintro e w' ⟨rfl, hb⟩)
      go_ret
    · refine ⟨ret_bool (eqSys_true ⟨rfl, ?_⟩).symm, below_up (by go_grown) hb⟩
      unfold eqBls at he; simpa using he
    · refine ⟨ret_bool (eqSys_false fun h => he (eqBls_true h.2)).symm, below_up (by go_grown) hb⟩
  · have hne : (v != u) = true := by simpa using hv
    go_enter Try.func19, Try.ntmps19
    go_wp2
    go_ret
    exact ⟨ret_bool (eqSys_false fun h => hv h.1).symm, by go_grown⟩

end Go.Proofs.Ytgbkonnmjmlalaa

/- Contracts of the law's own small functions over lists of numbers, and of mark and held; conditions: stated in each. -/
namespace Go.Proofs.Ytgbkonnmjmlalaa
open Go.RowKit
set_option maxHeartbeats 400000
set_option linter.unusedSimpArgs false
set_option linter.unusedVariables false

theorem infoInt : (Try.prog.info? 2).map (fun i => (i.zero, i.size, i.bytes)) = some (some (.int .i64 0), 1, 8) := by kernel_rfl

/-- m cells from the head of a row can be written. -/
def Wr (w : World) (t : TypeId) (A : Option Addr) (m : Nat) : Prop := m = 0 ∨ ∃ g cur, A = some ⟨g, 0, none⟩ ∧ Row w g t cur ∧ m ≤ cur.size
/-- .. and hold k, k + 1, .. -/
def Mk (w : World) (t : TypeId) (A : Option Addr) (m : Nat) (k : Int) : Prop := m = 0 ∨ ∃ g cur, A = some ⟨g, 0, none⟩ ∧ Row w g t cur ∧ m ≤ cur.size ∧ ∀ j, j < m → cur[j]? = some (.int .i64 (k + j))
theorem Mk.below {w w' : World} {t : TypeId} {A : Option Addr} {m : Nat} {k : Int} (h : Mk w t A m k) (hb : Below w.heap.size w w') : Mk w' t A m k := by
  rcases h with h | ⟨g, cur, hA, hR, hm, hc⟩
  · exact .inl h
  · exact .inr ⟨g, cur, hA, hR.below hb, hm, hc⟩
theorem Wr.below {w w' : World} {t : TypeId} {A : Option Addr} {m : Nat} (h : Wr w t A m) (hb : Below w.heap.size w w') : Wr w' t A m := by
  rcases h with h | ⟨g, cur, hA, hR, hm⟩
  · exact .inl h
  · exact .inr ⟨g, cur, hA, hR.below hb, hm⟩
theorem Wr.own {w : World} {base : Nat} {t : TypeId} {size n c : Nat} {A : Option Addr} {xs : List Value} (h : w.ownsRow base t size (.slice A n c) n xs) : Wr w t A (n * size) := by
  rcases h.2 with ⟨_, hn⟩ | ⟨g, cap, cur, hv, _, hg, hnc, _, hcs, _⟩
  · exact .inl (by rw [hn, Nat.zero_mul])
  · simp only [Value.slice.injEq] at hv
    exact .inr ⟨g, cur, hv.1, hg, by rw [hcs]; exact Nat.mul_le_mul_right _ hnc⟩
theorem Wr.row {w : World} {t : TypeId} {g m : Nat} {cur : Array Value} (h : Row w g t cur) (hm : m ≤ cur.size) : Wr w t (some ⟨g, 0, none⟩) m := .inr ⟨g, cur, rfl, h, hm⟩

theorem toInt64S_any (A : Option Addr) (c : Nat) (xs : List Int) (w : World) (hA : Il w A xs) (hl : xs.length ≤ 1048576) :
    Calls Try.prog 44 #[.slice A xs.length c] w fun e w' => ∃ g, e = .returned (.slice (some ⟨g, 0, none⟩) xs.length xs.length) ∧ (∃ cur, Row w' g 2 cur ∧ cur.size = xs.length * 1 ∧ ∀ k, k < xs.length → cur[k]? = some (.int .i64 (nthI xs k))) ∧ w.heap.size ≤ g ∧ Below w.heap.size w w' := by
  obtain ⟨i0, hi, hz0, hz1, hz2⟩ := info_parts infoInt
  have HA := Lib.hid hA; clear hA
  go_enter Try.func44, Try.ntmps44
  go_wp2_with (at_make; refine wpList_make_full _ rfl _ _ 39 rfl w.heap.size 2 i0 _ 1 Try.underlying39 hi hz0 hz1 .i64 .i64 _ _ xs.length rfl rfl rfl rfl (by rw [hz2]; omega) (by unfold maxLen; omega) (Nat.le_refl _) ?_; intro w0 hown0 hgrow0)
  obtain ⟨cur0, hR0, hcs0⟩ := Row.own hown0
  have hB0 : Below w.heap.size w w0 := below_grown (Below.refl _ _) hgrow0 (fun k hk => by cases hk)
  have HR0 := Lib.hid hR0; have HB0 := Lib.hid hB0; have HS := Lib.hid hcs0
  clear hown0 hgrow0 hR0 hB0 hcs0 hi hz0 hz1 hz2
  go_loopw [4] (fun i wr => ∃ k : Nat, k ≤ xs.length ∧ i = .int .i64 k ∧ Hid (Below w.heap.size w wr ∧ ∃ cur, Row wr w.heap.size 2 cur ∧ cur.size = xs.length * 1 ∧ ∀ j, j < k → cur[j]? = some (.int .i64 (nthI xs j)))) (fun i _ => xs.length - (intOf i).toNat)
  case atStart => exact ⟨0, by omega, rfl, HB0.out, cur0, HR0.out, HS.out, fun j hj => by omega⟩
  case round =>
    obtain ⟨k, hk, rfl, HC⟩ := hrel
    by_cases hlt : k < xs.length
    · obtain ⟨b1, o1, hA1, hb1, p0⟩ := (HA.out.below HC.out.1).at_ hlt
      subst hA1
      obtain ⟨hb, cur, hR, hcs, hat⟩ := HC.out
      obtain ⟨u0, q0⟩ := hR.cellAt (i := k) (by omega)
      have f0 := hR.frozen k
      have HB := Lib.hid hb; have HR := Lib.hid hR; have HCS := Lib.hid hcs; have HAT := Lib.hid hat
      clear hb hR hcs hat HC
      go_wp2
      go_roundw
      case rel =>
        refine ⟨k + 1, by omega, by go_num, HB.out.setCell (Nat.le_refl _) _, _, HR.out.set _ _, by simpa using HCS.out, fun j hj => ?_⟩
        rw [Array.getElem?_setIfInBounds]
        by_cases hjk : k = j
        · subst hjk
          rw [if_pos rfl, if_pos (by have := HCS.out; omega)]
        · rw [if_neg hjk]; exact HAT.out j (by omega)
      case measure => simp [intOf]; omega
    · obtain rfl : k = xs.length := by omega
      go_wp2
      go_ret
      obtain ⟨hb, cur, hR, hcs, hat⟩ := HC.out
      exact ⟨w.heap.size, rfl, ⟨cur, hR, hcs, hat⟩, Nat.le_refl _, hb⟩

noncomputable def eqInts (xs ys : List Int) : Bool := open Classical in decide (xs = ys)
theorem eqInts_true {xs ys : List Int} (h : xs = ys) : eqInts xs ys = true := by unfold eqInts; simp [h]
theorem eqInts_false {xs ys : List Int} (h : ¬ xs = ys) : eqInts xs ys = false := by unfold eqInts; simp [h]
theorem nthI_ext {xs ys : List Int} (hl : xs.length = ys.length) (h : ∀ j, j < xs.length → nthI xs j = nthI ys j) : xs = ys := by
  apply List.ext_getElem hl
  intro i h1 h2
  have := h i h1
  simpa [nthI, h1, h2] using this

theorem eqInt64S_any (A B : Option Addr) (c d : Nat) (xs ys : List Int) (w : World) (hA : Il w A xs) (hB : Il w B ys) (hla : xs.length ≤ 1073741824) (hlb : ys.length ≤ 1073741824) :
    Calls Try.prog 26 #[.slice A xs.length c, .slice B ys.length d] w fun e w' => e = .returned (.bool (eqInts xs ys)) ∧ Below w.heap.size w w' := by
  have HA := Lib.hid hA; have HB := Lib.hid hB; clear hA hB
  by_cases hl : xs.length = ys.length
  · have HL := Lib.hid hl
    clear hl
    have hne : ((xs.length : Int) != (ys.length : Int)) = false := by simp [HL.out]
    go_enter Try.func26, Try.ntmps26
    go_wp2
    go_loopw [5] (fun i wr => ∃ k : Nat, k ≤ xs.length ∧ i = .int .i64 k ∧ Below w.heap.size w wr ∧ Hid (∀ j, j < k → nthI xs j = nthI ys j)) (fun i _ => xs.length - (intOf i).toNat)
    case atStart => exact ⟨0, by omega, rfl, Below.refl _ _, fun j hj => by omega⟩
    case round =>
      obtain ⟨k, hk, rfl, hb, HJ⟩ := hrel
      by_cases hlt : k < xs.length
      · have hltb : k < ys.length := by rw [← HL.out]; exact hlt
        obtain ⟨b1, o1, hA1, hb1, p0⟩ := (HA.out.below hb).at_ hlt
        subst hA1
        obtain ⟨b2, o2, hA2, hb2, q0⟩ := (HB.out.below hb).at_ hltb
        subst hA2
        by_cases he : nthI xs k = nthI ys k
        · have he' : (nthI xs k != nthI ys k) = false := by simpa using he
          have HE := Lib.hid he; clear he
          go_wp2
          go_quiet (fail)
          go_wp2
          go_roundw
          case rel =>
            refine ⟨k + 1, by omega, by go_num, below_drewN hb _, fun j hj => ?_⟩
            by_cases hjk : j < k
            · exact HJ.out j hjk
            · obtain rfl : j = k := by omega
              exact HE.out
          case measure => simp [intOf]; omega
        · have he' : (nthI xs k != nthI ys k) = true := by simpa using he
          have HE := Lib.hid he; clear he
          go_wp2
          go_quiet (fail)
          go_wp2
          go_ret
          exact ⟨ret_bool (eqInts_false fun h => HE.out (by rw [h])).symm, below_drewN hb _⟩
      · obtain rfl : k = xs.length := by omega
        go_wp2
        go_ret
        exact ⟨ret_bool (eqInts_true (nthI_ext HL.out HJ.out)).symm, hb⟩
  · have hne : ((xs.length : Int) != (ys.length : Int)) = true := by rw [bne_iff_ne]; omega
    have HN := Lib.hid hl
    clear hl
    go_enter Try.func26, Try.ntmps26
    go_wp2
    go_ret
    exact ⟨ret_bool (eqInts_false fun h => HN.out (by rw [h])).symm, Below.refl _ _⟩

theorem markInt64S_any (A : Option Addr) (n c : Nat) (k0 : Int) (w : World) (hA : Wr w 2 A n) (hn : n ≤ 1073741824) (h0 : 0 ≤ k0) (h1 : k0 ≤ 1073741824) :
    Calls Try.prog 28 #[.slice A n c, .int .i64 k0] w fun e w' => e = .returned (.int .i64 (k0 + n)) ∧ Mk w' 2 A n k0 ∧ w.grownBy w' (A.map Addr.block) := by
  rcases hA with rfl | ⟨g, cur0, rfl, hR0, hm0⟩
  · go_enter Try.func28, Try.ntmps28
    go_wp2
    go_rounds 1
    go_ret
    exact ⟨ret_int (by simp), .inl rfl, grown_refl _ _⟩
  · have HR0 := Lib.hid hR0; have HM0 := Lib.hid hm0; clear hR0 hm0
    go_enter Try.func28, Try.ntmps28
    go_wp2
    go_loopw [1, 5] (fun s i wr => ∃ k : Nat, k ≤ n ∧ i = .int .i64 k ∧ s = .int .i64 (k0 + k) ∧ Hid (w.grownBy wr (some g) ∧ ∃ cur, Row wr g 2 cur ∧ n ≤ cur.size ∧ ∀ j, j < k → cur[j]? = some (.int .i64 (k0 + j)))) (fun _ i _ => n - (intOf i).toNat)
    case atStart => exact ⟨0, by omega, rfl, by simp, grown_refl _ _, cur0, HR0.out, HM0.out, fun j hj => by omega⟩
    case round =>
      obtain ⟨k, hk, rfl, rfl, HC⟩ := hrel
      by_cases hlt : k < n
      · obtain ⟨hb, cur, hR, hcs, hat⟩ := HC.out
        obtain ⟨u0, q0⟩ := hR.cellAt (i := k) (by omega)
        have f0 := hR.frozen k
        have HB := Lib.hid hb; have HR := Lib.hid hR; have HCS := Lib.hid hcs; have HAT := Lib.hid hat
        clear hb hR hcs hat HC
        go_wp2
        go_roundw
        case rel =>
          refine ⟨k + 1, by omega, by go_num, by simp; omega, grown_set HB.out _ _, _, HR.out.set _ _, by simpa using HCS.out, fun j hj => ?_⟩
          rw [Array.getElem?_setIfInBounds]
          by_cases hjk : k = j
          · subst hjk
            rw [if_pos rfl, if_pos (by have := HCS.out; omega)]
          · rw [if_neg hjk]; exact HAT.out j (by omega)
        case measure => simp [intOf]; omega
      · obtain rfl : k = n := by omega
        go_wp2
        go_ret
        obtain ⟨hb, cur, hR, hcs, hat⟩ := HC.out
        exact ⟨ret_int rfl, .inr ⟨g, cur, rfl, hR, hcs, hat⟩, hb⟩

theorem heldInt64S_any (A : Option Addr) (n c : Nat) (k0 : Int) (w : World) (hA : Mk w 2 A n k0) (hn : n ≤ 1073741824) (h0 : 0 ≤ k0) (h1 : k0 ≤ 1073741824) :
    Calls Try.prog 29 #[.slice A n c, .int .i64 k0] w fun e w' => e = .returned (.int .i64 (k0 + n)) ∧ w = w' := by
  rcases hA with rfl | ⟨g, cur, rfl, hR, hm, hc⟩
  · go_enter Try.func29, Try.ntmps29
    go_wp2
    go_rounds 1
    go_ret
    exact ⟨ret_int (by simp), rfl⟩
  · have HR := Lib.hid hR; have HC := Lib.hid hc; clear hR hc
    go_enter Try.func29, Try.ntmps29
    go_wp2
    go_loop [1, 5] (fun s i => ∃ k : Nat, k ≤ n ∧ i = .int .i64 k ∧ s = .int .i64 (k0 + k)) (fun _ i => n - (intOf i).toNat)
    case atStart => exact ⟨0, by omega, rfl, by simp⟩
    case round =>
      obtain ⟨k, hk, rfl, rfl⟩ := hrel
      by_cases hlt : k < n
      · have q0 := (HR.out.cell k).trans (HC.out k hlt)
        go_wp2
        go_round
        case rel => exact ⟨k + 1, by omega, by go_num, by simp; omega⟩
        case measure => simp [intOf]; omega
      · obtain rfl : k = n := by omega
        go_wp2
        go_ret
        exact ⟨ret_int rfl, rfl⟩

end Go.Proofs.Ytgbkonnmjmlalaa

/- Contracts of the law's own small functions: mark and held over blocks and systems; conditions: stated in each. -/
namespace Go.Proofs.Ytgbkonnmjmlalaa
open Go.RowKit
set_option maxHeartbeats 400000
set_option linter.unusedSimpArgs false
set_option linter.unusedVariables false

theorem markBlockS_any (A : Option Addr) (n c : Nat) (k0 : Int) (w : World) (hA : Wr w 75 A (n * 3)) (hn : n ≤ 268435456) (h0 : 0 ≤ k0) (h1 : k0 ≤ 1073741824) :
    Calls Try.prog 66 #[.slice A n c, .int .i64 k0] w fun e w' => e = .returned (.int .i64 (k0 + n * 3)) ∧ Mk w' 75 A (n * 3) k0 ∧ w.grownBy w' (A.map Addr.block) := by
  rcases hA with hz | ⟨g, cur0, rfl, hR0, hm0⟩
  · obtain rfl : n = 0 := by omega
    clear hz
    go_enter Try.func66, Try.ntmps66
    go_wp2
    go_rounds 1
    go_ret
    exact ⟨ret_int (by simp), .inl rfl, grown_refl _ _⟩
  · have HR0 := Lib.hid hR0; have HM0 := Lib.hid hm0; clear hR0 hm0
    go_enter Try.func66, Try.ntmps66
    go_wp2
    go_loopw [1, 5] (fun s i wr => ∃ k : Nat, k ≤ n ∧ i = .int .i64 k ∧ s = .int .i64 (k0 + (k * 3 : Nat)) ∧ Hid (w.grownBy wr (some g) ∧ ∃ cur, Row wr g 75 cur ∧ n * 3 ≤ cur.size ∧ ∀ j, j < k * 3 → cur[j]? = some (.int .i64 (k0 + j)))) (fun _ i _ => n - (intOf i).toNat)
    case atStart => exact ⟨0, by omega, rfl, by simp, grown_refl _ _, cur0, HR0.out, HM0.out, fun j hj => by omega⟩
    case round =>
      obtain ⟨k, hk, rfl, rfl, HC⟩ := hrel
      by_cases hlt : k < n
      · go_wp2
        obtain ⟨wo, rfl⟩ : ∃ wo : World, wo = wr := ⟨_, rfl⟩
        go_loopw [1, 6] (fun s i wr => ∃ m : Nat, m ≤ 3 ∧ i = .int .i64 m ∧ s = .int .i64 (k0 + (k * 3 + m : Nat)) ∧ Hid (w.grownBy wr (some g) ∧ ∃ cur, Row wr g 75 cur ∧ n * 3 ≤ cur.size ∧ ∀ j, j < k * 3 + m → cur[j]? = some (.int .i64 (k0 + j)))) (fun _ i _ => 3 - (intOf i).toNat)
        case atStart => exact ⟨0, by omega, rfl, rfl, HC⟩
        case round =>
          obtain ⟨m, hm, rfl, rfl, HC⟩ := hrel
          by_cases hlt2 : m < 3
          · obtain ⟨hb, cur, hR, hcs, hat⟩ := HC.out
            obtain ⟨u0, q0⟩ := hR.cellAt (i := k * 3 + m) (by omega)
            have f0 := hR.frozen (k * 3 + m)
            have HB := Lib.hid hb; have HR := Lib.hid hR; have HCS := Lib.hid hcs; have HAT := Lib.hid hat
            clear hb hR hcs hat HC
            go_wp2
            go_roundw
            case rel =>
              refine ⟨m + 1, by omega, by go_num, by simp; omega, grown_set HB.out _ _, _, HR.out.set _ _, by simpa using HCS.out, fun j hj => ?_⟩
              rw [Array.getElem?_setIfInBounds]
              by_cases hjk : k * 3 + m = j
              · subst hjk
                rw [if_pos rfl, if_pos (by have := HCS.out; omega)]
                first | rfl | simp
              · rw [if_neg hjk]; exact HAT.out j (by omega)
            case measure => simp [intOf]; omega
          · obtain rfl : m = 3 := by omega
            go_wp2
            go_roundw
            case rel => exact ⟨k + 1, by omega, by go_num, by simp; omega, HC.out.1, HC.out.2.elim fun cur h => ⟨cur, h.1, h.2.1, fun j hj => h.2.2 j (by omega)⟩⟩
            case measure => simp [intOf]; omega
      · obtain rfl : k = n := by omega
        go_wp2
        go_ret
        obtain ⟨hb, cur, hR, hcs, hat⟩ := HC.out
        exact ⟨ret_int (by simp), .inr ⟨g, cur, rfl, hR, hcs, hat⟩, hb⟩

theorem markSystem_any (v : Int) (A : Option Addr) (n c : Nat) (k0 : Int) (w : World) (hA : Wr w 75 A (n * 3)) (hn : n ≤ 268435456) (h0 : 0 ≤ k0) (h1 : k0 ≤ 1073741824) :
    Calls Try.prog 27 #[.agg #[.int .i64 v, .slice A n c], .int .i64 k0] w fun e w' => e = .returned (.int .i64 (k0 + n * 3)) ∧ Mk w' 75 A (n * 3) k0 ∧ w.grownBy w' (A.map Addr.block) := by
  have HA := Lib.hid hA; clear hA
  go_enter Try.func27, Try.ntmps27
  go_wp2_with (go_at_call 66; refine (markBlockS_any A n c k0 _ (HA.out.below (below_alloc _ _)) hn h0 h1).mono ?_; rintro e w1 ⟨rfl, hm, hg⟩)
  have HM := Lib.hid hm; have HG := Lib.hid hg; clear hm hg
  go_ret
  exact ⟨ret_int rfl, HM.out, grown_trans (grown_below (below_alloc _ _) _) HG.out⟩

end Go.Proofs.Ytgbkonnmjmlalaa

/- What a law's proof says of results that the call has made; conditions: stated in each. -/
namespace Go.Proofs.Ytgbkonnmjmlalaa
open Go.RowKit Go.ChangeShapes Go.WideShapes

theorem Own.il {w : World} {base n c : Nat} {t : TypeId} {A : Option Addr} {ns : List Int} (h : Own w base t 1 (.slice A n c) ns.length (ns.map (Value.int .i64))) : Il w A ns := by
  rcases h.2 with ⟨_, hn⟩ | ⟨g, cap, cur, hv, _, hg, hnc, _, hcs, htk⟩
  · exact .inl (by simpa using hn)
  · simp only [Value.slice.injEq] at hv
    obtain ⟨rfl, _, _⟩ := hv
    refine Il.row (t := t) (cur := cur) hg fun k hk => ?_
    have h1 : (cur.toList.take (ns.length * 1))[k]? = (ns.map (Value.int .i64))[k]? := by rw [htk]
    rw [List.getElem?_take_of_lt (by omega), List.getElem?_map] at h1
    rw [← Array.getElem?_toList, h1]
    simp [nthI, hk]
/-- the cells of blocks -/
def cells3 (xs : List Blk) : List Value := xs.flatMap fun b => [.int .i64 b.1, .int .i64 b.2.1, .int .i64 b.2.2]
theorem cells3_at : ∀ (xs : List Blk) (k : Nat), k < xs.length → (cells3 xs)[k * 3]? = some (.int .i64 (nth xs k).1) ∧ (cells3 xs)[k * 3 + 1]? = some (.int .i64 (nth xs k).2.1) ∧ (cells3 xs)[k * 3 + 2]? = some (.int .i64 (nth xs k).2.2) := by
  intro xs
  induction xs with
  | nil => intro k hk; simp at hk
  | cons b xs ih =>
    intro k hk
    cases k with
    | zero => simp [cells3, nth]
    | succ k =>
      have := ih k (by simpa using hk)
      have e0 : (k + 1) * 3 = k * 3 + 3 := by omega
      have e : ∀ j, (cells3 (b :: xs))[j + 3]? = (cells3 xs)[j]? := fun j => by simp [cells3]
      have e1 : (k + 1) * 3 + 1 = (k * 3 + 1) + 3 := by omega
      have e2 : (k + 1) * 3 + 2 = (k * 3 + 2) + 3 := by omega
      rw [e1, e2, e0, e, e, e]
      simpa [nth] using this
theorem Own.bl {w : World} {base n c : Nat} {t : TypeId} {A : Option Addr} {xs : List Blk} (h : Own w base t 3 (.slice A n c) xs.length (cells3 xs)) : Bl w A xs := by
  rcases h.2 with ⟨_, hn⟩ | ⟨g, cap, cur, hv, _, hg, hnc, _, hcs, htk⟩
  · exact .inl (by simpa using hn)
  · simp only [Value.slice.injEq] at hv
    obtain ⟨rfl, _, _⟩ := hv
    have key : ∀ j, j < xs.length * 3 → cur[j]? = (cells3 xs)[j]? := fun j hj => by
      rw [← htk, List.getElem?_take_of_lt hj, Array.getElem?_toList]
    refine Bl.row (t := t) (cur := cur) hg fun k hk => ?_
    have := cells3_at xs k hk
    exact ⟨(key _ (by omega)).trans this.1, (key _ (by omega)).trans this.2.1, (key _ (by omega)).trans this.2.2⟩
theorem Own.wr {w : World} {base n size c : Nat} {t : TypeId} {A : Option Addr} {xs : List Value} (h : Own w base t size (.slice A n c) n xs) : Wr w t A (n * size) := Wr.own h
theorem Own.wr1 {w : World} {base n c : Nat} {t : TypeId} {A : Option Addr} {xs : List Value} (h : Own w base t 1 (.slice A n c) n xs) : Wr w t A n := by
  have := Wr.own h; rwa [Nat.mul_one] at this
theorem Own.blk {w : World} {base n size c : Nat} {t : TypeId} {A : Option Addr} {xs : List Value} (h : Own w base t size (.slice A n c) n xs) : ∀ k, A.map Addr.block = some k → base ≤ k := by
  intro k hk
  refine own_block h k ?_
  cases A with
  | none => simp at hk
  | some a => simpa [Value.ownBlock] using hk
/-- A row keeps while another block is written. -/
theorem Own.grown {w w' : World} {base n size c : Nat} {t : TypeId} {A B : Option Addr} {xs : List Value} (h : Own w base t size (.slice A n c) n xs) (hg : w.grownBy w' (B.map Addr.block)) (hB : ∀ k, B.map Addr.block = some k → k < base) : Own w' base t size (.slice A n c) n xs := by
  refine ⟨h.1, ?_⟩
  rcases h.2 with h' | ⟨g, cap, cur, hv, hge, hR, r⟩
  · exact .inl h'
  · refine .inr ⟨g, cap, cur, hv, hge, ?_, r⟩
    refine (hg.block g (Row.lt hR) ?_).trans hR
    intro he
    have := hB g he.symm
    omega
theorem Since.grown {w W wr : World} {B : Option Addr} (h : Since w W) (hg : W.grownBy wr (B.map Addr.block)) (hr : ∀ k, B.map Addr.block = some k → w.heap.size ≤ k) : Since w wr := below_grown h hg hr
theorem blk_ge {g n : Nat} (h : n ≤ g) : ∀ k, (some (⟨g, 0, none⟩ : Addr)).map Addr.block = some k → n ≤ k := by
  intro k hk; simp only [Option.map_some, Option.some.injEq] at hk; omega
theorem blk_lt {g n : Nat} (h : g < n) : ∀ k, (some (⟨g, 0, none⟩ : Addr)).map Addr.block = some k → k < n := by
  intro k hk; simp only [Option.map_some, Option.some.injEq] at hk; omega
theorem blk_le {A : Option Addr} {m n : Nat} (h : ∀ k, A.map Addr.block = some k → m ≤ k) (hn : n ≤ m) : ∀ k, A.map Addr.block = some k → n ≤ k := fun k hk => Nat.le_trans hn (h k hk)

set_option maxRecDepth 100000 in
theorem open_ints1 {H : Type} {enc : TypeId × Value → H} {W : World} {b0 : Nat} {v : Value} {d : DataW H} {ps : List MemPlace} (hv : Value.okWide Try.prog W .any b0 39 v) (h : DataW.Trod enc Try.prog W 0 (fun _ => true) true 39 v d ps) :
    ∃ A c xs, v = .slice A xs.length c ∧ Il W A xs ∧ (∀ x ∈ xs, -9223372036854775808 ≤ x ∧ x ≤ 9223372036854775807) ∧ xs.length ≤ 9223372036854775807 := by
  obtain ⟨a, len, cap, rfl⟩ := okWide_slice Try.underlying39 hv
  obtain ⟨fuel, hf⟩ := h
  simp only [Value.cells] at hf
  exact open_nums hf

end Go.Proofs.Ytgbkonnmjmlalaa

/- Contracts of the loop's table; conditions: stated in each. -/
namespace Go.Proofs.Ytgbkonnmjmlalaa
open Go.RowKit
set_option maxHeartbeats 400000
set_option maxRecDepth 100000
set_option linter.unusedSimpArgs false
set_option linter.unusedVariables false

/-- the loop's rows as far as they are made: k of them, the last one k long -/
def loopX (xs : List Blk) (n k : Nat) (a : Nat) : List Int := if a = n then tabR (loopI xs n) k n else if a < k then tabR (loopI xs n) (n + 1) a else tabR (prodI xs) n a
theorem loopI_top (xs : List Blk) (n : Nat) (b : Int) : loopI xs n n b = b := by simp [loopI]
theorem row_loop (xs : List Blk) {n k : Nat} (hk : k < n) : (tabR (prodI xs) n k).set k (n : Int) ++ [(k : Int)] = tabR (loopI xs n) (n + 1) k := by
  rw [tabR_succ]
  congr 1
  · apply List.ext_getElem?
    intro i
    by_cases hi : i < n
    · by_cases e : i = k
      · subst e
        have h1 : (i : Int) ≠ n := by omega
        simp [tabR, hi, loopI, h1]
      · rw [List.getElem?_set_ne (Ne.symm e)]
        have h1 : (k : Int) ≠ n := by omega
        have h2 : (i : Int) ≠ n := by omega
        have h3 : (k : Int) ≠ i := by omega
        simp [tabR, hi, loopI, prodI, h1, h2, h3]
    · rw [List.getElem?_eq_none (by simp [tabR]; omega), List.getElem?_eq_none (by simp [tabR]; omega)]
  · have h1 : (k : Int) ≠ n := by omega
    simp [loopI, h1]

theorem Row.belowB {w w' : World} {B g : Nat} {t : TypeId} {cur : Array Value} (h : Row w g t cur) (hg : g < B) (hb : Below B w w') : Row w' g t cur := (hb.block g hg).trans h
theorem Since.below2 {w a b : World} (h : Since w a) (h' : Below (w.heap.size + 1) a b) : Below w.heap.size w b := Below.trans h (h'.mono (Nat.le_succ _))
end Go.Proofs.Ytgbkonnmjmlalaa

/- Contracts of counts of triples; conditions: stated in each. -/
namespace Go.Proofs.Ytgbkonnmjmlalaa
open Go.RowKit
set_option maxHeartbeats 400000
set_option maxRecDepth 100000
set_option linter.unusedSimpArgs false
set_option linter.unusedVariables false

end Go.Proofs.Ytgbkonnmjmlalaa

/- Contracts of the program's counts of triples; conditions: stated in each. -/
namespace Go.Proofs.Ytgbkonnmjmlalaa
open Go.RowKit
set_option maxHeartbeats 400000
set_option maxRecDepth 100000
set_option linter.unusedSimpArgs false
set_option linter.unusedVariables false

theorem one_any (b : Bool) (w : World) : Calls Try.prog 63 #[.bool b] w fun e w' => e = .returned (.int .i64 ((if b = true then 1 else 0 : Nat) : Int)) ∧ w = w' := by
  cases b
  · go_enter Try.func63, Try.ntmps63
    go_wp2
    go_ret
    exact ⟨rfl, rfl⟩
  · go_enter Try.func63, Try.ntmps63
    go_wp2
    go_ret
    exact ⟨rfl, rfl⟩

/-- the product of the loop that a grid tells -/
def loopG (G : Nat → Int) (v a b : Int) : Int := if a = v then b else if b = v then a else if a = b then v else G (a.toNat * 15 + b.toNat)
theorem prodG_bd {G : Nat → Int} {n a b : Nat} (h : ∀ a b : Nat, a < n → b < n → a ≠ b → 0 ≤ G (a * 15 + b) ∧ G (a * 15 + b) < n) (ha : a < n) (hb : b < n) : 0 ≤ prodG G a b ∧ prodG G a b < n := by
  unfold prodG
  split
  · omega
  · have := h a b ha hb (by omega); simpa using this
end Go.Proofs.Ytgbkonnmjmlalaa

/- Contracts for LeaveDegrees, of the reference and of the program; conditions: stated in each. -/
namespace Go.Proofs.Ytgbkonnmjmlalaa
open Go.RowKit
set_option maxHeartbeats 400000
set_option maxRecDepth 100000
set_option linter.unusedSimpArgs false
set_option linter.unusedVariables false

theorem infoList : (Try.prog.info? 39).map (fun i => (i.zero, i.size, i.bytes)) = some (some (.slice none 0 0), 1, 24) := by kernel_rfl
/-- the leave's degrees of the first k points -/
def leL (xs : List Blk) (n : Nat) (k : Nat) : List Int := (List.range k).map fun i : Nat => (n : Int) - 1 - 2 * ((nums (atP (i : Int)) xs).length : Int)
theorem leL_len (xs : List Blk) (n k : Nat) : (leL xs n k).length = k := by simp [leL]
theorem leL_succ (xs : List Blk) (n k : Nat) : leL xs n (k + 1) = leL xs n k ++ [(n : Int) - 1 - 2 * ((nums (atP (k : Int)) xs).length : Int)] := by simp [leL, List.range_succ]
noncomputable def leaveR (v : Int) (xs : List Blk) : List Int × Int := if isSysB v xs = true then (leL xs v.toNat v.toNat, 0) else ([], 1)
theorem leaveR_bd (v : Int) (xs : List Blk) : (leaveR v xs).1.length ≤ 15 := by
  unfold leaveR; split
  · rename_i h; have := (isSysB_iff.1 h).1; rw [leL_len]; omega
  · simp

end Go.Proofs.Ytgbkonnmjmlalaa

/- Contracts for BlocksAt, of the reference and of the program; conditions: stated in each. -/
namespace Go.Proofs.Ytgbkonnmjmlalaa
open Go.RowKit
set_option maxHeartbeats 400000
set_option maxRecDepth 100000
set_option linter.unusedSimpArgs false
set_option linter.unusedVariables false

/-- the code of a system and of points -/
noncomputable def ptCode (v : Int) (xs : List Blk) (ls : List Int) : Int := if isSysB v xs = true then (if allInB ls (v - 1) = true then 0 else 2) else 1
theorem l01Points_any (v : Int) (A : Option Addr) (c : Nat) (xs : List Blk) (B : Option Addr) (d : Nat) (ls : List Int) (w : World) (hA : Bl w A xs) (hl : xs.length ≤ 1048576) (hB : Il w B ls) (hlb : ls.length ≤ 1048576) :
    Calls Try.prog 106 #[.agg #[.int .i64 v, .slice A xs.length c], .slice B ls.length d] w fun e w' => e = .returned (.int .i64 (ptCode v xs ls)) ∧ Below w.heap.size w w' := by
  have HB := Lib.hid hB; clear hB
  cases hs : isSysB v xs
  · have HA := Lib.hid hA; clear hA; have HR := Lib.hid (Row.box w 30 (.int .i64 v) (.slice A xs.length c)); have HW := Lib.hid (Since.refl w); go_enter Try.func106, Try.ntmps106; go_wp2_with fail; replace HA := Lib.hid (HA.out.below (below_alloc _ (.cells #[.int .i64 v, .slice A xs.length c] 30))); replace HW := Lib.hid (HW.out.below (below_alloc _ (.cells #[.int .i64 v, .slice A xs.length c] 30)))
    refine (l01Is_any v A c xs _ HA.out hl).mono ?_; rw [hs]; rintro e w_ ⟨rfl, hb⟩; replace HW := Lib.hid (HW.out.below hb); clear hb
    go_wp2
    go_ret
    exact ⟨ret_int (by simp [ptCode, hs]), HW.out⟩
  · have hv := (isSysB_iff.1 hs).1
    have HE : Hid (ptCode v xs ls = if allInB ls (v - 1) = true then 0 else 2) := by unfold Hid ptCode; rw [if_pos hs]
    have HA := Lib.hid hA; clear hA; have HR := Lib.hid (Row.box w 30 (.int .i64 v) (.slice A xs.length c)); have HW := Lib.hid (Since.refl w); go_enter Try.func106, Try.ntmps106; go_wp2_with fail; replace HA := Lib.hid (HA.out.below (below_alloc _ (.cells #[.int .i64 v, .slice A xs.length c] 30))); replace HW := Lib.hid (HW.out.below (below_alloc _ (.cells #[.int .i64 v, .slice A xs.length c] 30))); replace HB := Lib.hid (HB.out.below (below_alloc _ (.cells #[.int .i64 v, .slice A xs.length c] 30)))
    refine (l01Is_any v A c xs _ HA.out hl).mono ?_; rw [hs]; rintro e w_ ⟨rfl, hb⟩; replace HA := Lib.hid (HA.out.below hb); replace HB := Lib.hid (HB.out.below hb); replace HW := Lib.hid (HW.out.below hb); replace HR := Lib.hid (HR.out.below hb); clear hb; (try clear c0 c1); obtain ⟨c0, c1⟩ := HR.out.c2
    go_wp2
    clear c0 c1
    go_loopw [5] (fun i wr => ∃ k : Nat, k ≤ ls.length ∧ i = .int .i64 k ∧ Below w_.heap.size w_ wr ∧ Hid (∀ j, j < k → 0 ≤ nthI ls j ∧ nthI ls j ≤ v - 1)) (fun i _ => ls.length - (intOf i).toNat)
    case atStart => exact ⟨0, by omega, rfl, Below.refl _ _, fun i hi => by omega⟩
    case round =>
      obtain ⟨k, hk, rfl, hb, HC⟩ := hrel
      obtain ⟨c0, c1⟩ := (HR.out.below hb).c2
      by_cases hlt : k < ls.length
      · obtain ⟨b1, o1, hA1, hb1, p0⟩ := (HB.out.below hb).at_ hlt
        subst hA1
        have hwr : IntKind.i64.wrap (v - 1) = v - 1 := by go_arith
        by_cases hin : 0 ≤ nthI ls k ∧ nthI ls k ≤ v - 1
        · have HIN := Lib.hid hin
          have HD : Hid (decide (0 ≤ nthI ls k ∧ nthI ls k ≤ IntKind.i64.wrap (v - 1)) = true) := by unfold Hid; rw [hwr]; exact decide_eq_true hin
          clear hin hwr
          go_wp2
          have HKEEP := Lib.hid (And.intro c0 (And.intro c1 p0))
          clear c0 c1 p0
          go_region_held3 (fun w' => w'.cell? ⟨w.heap.size, 0, none⟩ = some (.int .i64 v) ∧ w'.cell? ⟨w.heap.size, 1, none⟩ = some (.slice A xs.length c) ∧ w'.cell? ⟨b1, o1 + k, none⟩ = some (.int .i64 (nthI ls k))) (first | exact HKEEP.out) (first
            | (go_at_call 58; refine (l01In_any _ _ _ _).mono ?_; rw [HD.out]; rintro e w' ⟨rfl, rfl⟩))
          go_wp2
          go_roundw
          case rel =>
            refine ⟨k + 1, by omega, by go_num, below_up hb (below_drew _), fun j hj => ?_⟩
            by_cases hjk : j < k
            · exact HC.out j hjk
            · obtain rfl : j = k := by omega
              exact HIN.out
          case measure => simp [intOf]; omega
        · have HD : Hid (decide (0 ≤ nthI ls k ∧ nthI ls k ≤ IntKind.i64.wrap (v - 1)) = false) := by unfold Hid; rw [hwr]; exact decide_eq_false hin
          have HIN := Lib.hid hin
          clear hin hwr
          go_wp2
          have HKEEP := Lib.hid (And.intro c0 (And.intro c1 p0))
          clear c0 c1 p0
          go_region_held3 (fun w' => w'.cell? ⟨w.heap.size, 0, none⟩ = some (.int .i64 v) ∧ w'.cell? ⟨w.heap.size, 1, none⟩ = some (.slice A xs.length c) ∧ w'.cell? ⟨b1, o1 + k, none⟩ = some (.int .i64 (nthI ls k))) (first | exact HKEEP.out) (first
            | (go_at_call 58; refine (l01In_any _ _ _ _).mono ?_; rw [HD.out]; rintro e w' ⟨rfl, rfl⟩))
          go_wp2
          go_ret
          refine ⟨ret_int ?_, HW.out.below (below_up hb (below_drew _))⟩
          rw [HE.out, allInB_false fun h => HIN.out (h k hlt)]; rfl
      · obtain rfl : k = ls.length := by omega
        go_wp2
        go_ret
        refine ⟨ret_int ?_, HW.out.below hb⟩
        rw [HE.out, allInB_true HC.out]; rfl

theorem isPoint_any (v : Int) (A : Option Addr) (c n : Nat) (p : Int) (w : World) (hv : 0 ≤ v ∧ v ≤ 15) :
    Calls Try.prog 61 #[.agg #[.int .i64 v, .slice A n c], .int .i64 p] w fun e w' => e = .returned (.bool (decide (0 ≤ p ∧ p ≤ v - 1))) ∧ Below w.heap.size w w' := by
  go_enter Try.func61, Try.ntmps61
  have hb := below_alloc w (.cells #[.int .i64 v, .slice A n c] 30)
  obtain ⟨c0, c1⟩ := (Row.box w 30 (.int .i64 v) (.slice A n c)).c2
  go_wp2_with (go_at_call 100; refine (within_any _ _ _ _).mono ?_; rintro e w' ⟨rfl, rfl⟩)
  go_ret
  exact ⟨ret_bool (by simp), hb⟩

noncomputable def atR (v : Int) (xs : List Blk) (p : Int) : List Int × Int := if isSysB v xs = true then (if 0 ≤ p ∧ p ≤ v - 1 then (nums (atP p) xs, 0) else ([], 2)) else ([], 1)
theorem atR_bd (v : Int) (xs : List Blk) (p : Int) : (atR v xs p).1.length ≤ xs.length := by
  unfold atR; (repeat' split)
  · exact numsN_len _ _ _
  · simp
  · simp
theorem allInB_one (p m : Int) : allInB [p] m = decide (0 ≤ p ∧ p ≤ m) := by
  rw [Bool.eq_iff_iff, allInB_iff]
  unfold allIn
  simp only [decide_eq_true_eq]
  constructor
  · intro h; exact h 0 (by simp)
  · intro h k hk
    obtain rfl : k = 0 := by simpa using hk
    exact h

end Go.Proofs.Ytgbkonnmjmlalaa
