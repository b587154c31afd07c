/- Plain laws and contracts, part 5; conditions: stated in each. -/
import Derived.Laws.MakeOwn
import Derived.Deep.RegionHeld3
import Derived.Test.YtgbkonnmjmlalaaB3
import Derived.Test.YtgbkonnmjmlalaaB4
set_option linter.unusedSimpArgs false
set_option linter.unusedVariables false
/- Contracts of the numbers of renumberings by kept points, of the reference and of the program; conditions: stated in each. -/
namespace Go.Proofs.Ytgbkonnmjmlalaa
open Go.RowKit
set_option maxHeartbeats 1000000
set_option maxRecDepth 100000
set_option linter.unusedSimpArgs false
set_option linter.unusedVariables false

theorem made_ints (n : Nat) : madeCells (Value.cells (.int .i64 0)) (n * 1) = icells n (fun _ => 0) := by
  apply Array.ext'
  simp [icells, madeCells, Value.cells, Nat.mod_one]
@[go_sem] theorem make_ints (m : Int) (W : World) (h0 : 0 ≤ m) (h1 : m ≤ 1000000) : (Instr.makeSlice 39 (.int .i64 m) (.int .i64 m)).run Try.prog W = .ok (.slice (some ⟨W.heap.size, 0, none⟩) m.toNat m.toNat) (W.alloc (.cells (icells m.toNat (fun _ => 0)) 2)) := by
  obtain ⟨ni0, hni, hni0, hni1, hni2⟩ := info_parts infoInt'
  have h := run_make (P := Try.prog) W 39 2 ni0 (.int .i64 0) Try.underlying39 hni hni0 .i64 .i64 m m h0 (Int.le_refl _) (by rw [hni2]; omega) (by omega)
  rw [h, hni1, made_ints]
theorem LLq.keptB {w w' : World} {base g : Nat} {u : Value} {xss : List (List Int)} (h : LLq w base u xss) (hg : w.grownBy w' (some g)) (hne : g < base ∨ w.heap.size ≤ g) : LLq w' base u xss := by
  obtain ⟨vs, ho, hi⟩ := h
  refine ⟨vs, World.ownsRow.kept ho hg (.inr fun e => by have := ho.lt g e; omega), fun k hk => ?_⟩
  obtain ⟨r, k1, k2, k3⟩ := hi k hk
  exact ⟨r, k1, World.ownsRow.kept k2 hg (.inr fun e => by have := k2.lt g e; omega), k3⟩
theorem kep_upd (n k : Nat) (Ls : List (List Int)) (h : k < Ls.length) :
    upd (fun j => ((cnL (fun L => kepN L n == j) (Ls.take k) : Nat) : Int)) (kepN (nthLL Ls k) n) (((cnL (fun L => kepN L n == kepN (nthLL Ls k) n) (Ls.take k) : Nat) : Int) + 1) = fun j => ((cnL (fun L => kepN L n == j) (Ls.take (k + 1)) : Nat) : Int) := by
  funext j
  rw [stab_take _ _ h]
  unfold upd
  by_cases e : j = kepN (nthLL Ls k) n
  · subst e; simp
  · have : (kepN (nthLL Ls k) n == j) = false := by simpa using Ne.symm e
    rw [if_neg e, this]; simp

theorem specKep_any (v : Int) (A : Option Addr) (c : Nat) (xs : List Blk) (w : World) (hA : Bl w A xs) (hl : xs.length ≤ 1048576) :
    Calls Try.prog 32 #[.agg #[.int .i64 v, .slice A xs.length c]] w (LP w (kepR v xs).1 (kepR v xs).2) := by
  by_cases hc : fcode v xs = 0
  · obtain ⟨h1, h2⟩ := fcode_zero hc
    have hs := isSysB_iff.1 h1
    have hv := hs.1
    obtain ⟨n, rfl⟩ := Int.eq_ofNat_of_zero_le (by omega : 0 ≤ v)
    have HS := Lib.hid hs; have HF := Lib.hid h2
    have HC := Lib.hid hc
    have hld := lead_bd hs hs h2 h2
    have HN : Hid (kepR n xs = ((List.range (n + 1)).map (fun j => ((cnL (fun L => kepN L n == j) (leadL n xs xs) : Nat) : Int)), 0)) := by unfold Hid kepR; rw [if_pos hc]; rfl
    generalize kepR n xs = R at *
    clear hs h1 h2 hc
    have hn1 : (n : Int) + 1 ≤ 1000000 := by omega
    have hn0 : 0 ≤ (n : Int) + 1 := by omega
    have hwr : IntKind.i64.wrap ((n : Int) + 1) = (n : Int) + 1 := by rw [IntKind.wrap_i64]; omega
    have hto : ((n : Int) + 1).toNat = n + 1 := by omega
    go_enter Try.func32, Try.ntmps32; have HA := Lib.hid hA; clear hA; have HR := Lib.hid (Row.box w 30 (.int .i64 n) (.slice A xs.length c)); have HW := Lib.hid (Since.refl w); replace HA := Lib.hid (HA.out.below (below_alloc _ (.cells #[.int .i64 n, .slice A xs.length c] 30))); replace HW := Lib.hid (HW.out.below (below_alloc _ (.cells #[.int .i64 n, .slice A xs.length c] 30))); obtain ⟨c0, c1⟩ := HR.out.c2; go_wp2_with fail; refine (code_one n A c xs _ _ (by simp) HA.out hl).mono ?_; rw [HC.out]; rintro e w_ ⟨rfl, hb⟩; replace HA := Lib.hid (HA.out.below hb); replace HW := Lib.hid (HW.out.below hb); replace HR := Lib.hid (HR.out.below hb); clear hb; (try clear c0 c1); obtain ⟨c0, c1⟩ := HR.out.c2
    go_wp2
    have HKEEP := Lib.hid (And.intro c0 c1)
    have HBB : Hid (∀ W, Below w_.heap.size w_ W → (W.cell? ⟨w.heap.size, 0, none⟩ = some (.int .i64 n) ∧ W.cell? ⟨w.heap.size, 1, none⟩ = some (.slice A xs.length c))) := fun W hb => (HR.out.below hb).c2
    clear c0 c1
    go_region_held3 (fun w' => w'.cell? ⟨w.heap.size, 0, none⟩ = some (.int .i64 n) ∧ w'.cell? ⟨w.heap.size, 1, none⟩ = some (.slice A xs.length c)) (first | exact HKEEP.out | exact HBB.out _ (by (repeat' (first | (with_reducible exact Below.refl _ _) | (with_reducible assumption) | (with_reducible refine below_drewN ?_ _) | (with_reducible refine Below.drew ?_) | (with_reducible refine Below.alloc ?_ ?_ _) | (with_reducible refine Below.setCell ?_ ?_ _) | go_size)))) (first
      | (go_at_call 52
         refine (l06All_any n A c xs _ (HA.out.below (by (repeat' (first | (with_reducible exact Below.refl _ _) | (with_reducible assumption) | (with_reducible refine below_drewN ?_ _) | (with_reducible refine Below.drew ?_) | (with_reducible refine Below.alloc ?_ ?_ _) | (with_reducible refine Below.setCell ?_ ?_ _) | go_size)))) hl HS.out HF.out).mono ?_
         rintro r w3 ⟨u, rfl, hL, hb⟩
         obtain ⟨B, d, rfl⟩ := hL.slice
         have HL := Lib.hid hL
         have HB3 : Hid (Below w_.heap.size w_ w3) := below_up (by (repeat' (first | (with_reducible exact Below.refl _ _) | (with_reducible assumption) | (with_reducible refine below_drewN ?_ _) | (with_reducible refine Below.drew ?_) | (with_reducible refine Below.alloc ?_ ?_ _) | (with_reducible refine Below.setCell ?_ ?_ _) | go_size))) hb
         have HP3 := Lib.hid hb
         replace HKEEP := Lib.hid (HBB.out _ HB3.out)
         have hb3 := HB3.out
         have hz3 := HB3.out.size
         clear hL hb))
    have HNE : Hid (w3.heap.size < w_.drew.heap.size ∨ w3.heap.size ≤ w3.heap.size) := .inr (Nat.le_refl _)
    have HGR : Hid (w3.grownBy (w3.alloc (.cells (icells (n + 1) (fun _ => 0)) 2)) (some w3.heap.size)) := grown_below (below_alloc _ _) _
    have HVA : Hid (Va (w3.alloc (.cells (icells (n + 1) (fun _ => 0)) 2)) w3.heap.size (n + 1) (fun _ => 0)) := Row.new _ _ _
    have HBW : Hid (Below w.heap.size w (w3.alloc (.cells (icells (n + 1) (fun _ => 0)) 2))) := (HW.out.below HB3.out).below (below_alloc _ _)
    have HGB : Hid (w.heap.size ≤ w3.heap.size) := (HW.out.below HB3.out).size
    generalize w_.drew.heap.size = base at *
    obtain ⟨g, hg⟩ : ∃ g, w3.heap.size = g := ⟨_, rfl⟩
    rw [hg] at HVA HGR HGB
    replace HNE : Hid (g < base ∨ w3.heap.size ≤ g) := by rw [hg] at HNE; rw [hg]; exact HNE
    clear hb3 hz3
    generalize w3.alloc (.cells (icells (n + 1) (fun _ => 0)) 2) = wS at *
    rw [hg]
    clear hg
    rotate_left
    have HNE : Hid (w_.heap.size < (w_.alloc (.cells (icells (n + 1) (fun _ => 0)) 2)).drew.heap.size ∨ w3.heap.size ≤ w_.heap.size) := .inl (by simp)
    have HGR : Hid (w3.grownBy w3 (some w_.heap.size)) := grown_refl _ _
    have HVA : Hid (Va w3 w_.heap.size (n + 1) (fun _ => 0)) := (HP3.out.block w_.heap.size (by simp)).trans (heap_alloc_new w_ _)
    have HBW : Hid (Below w.heap.size w w3) := HW.out.below HB3.out
    have HGB : Hid (w.heap.size ≤ w_.heap.size) := HW.out.size
    clear HP3
    generalize (w_.alloc (.cells (icells (n + 1) (fun _ => 0)) 2)).drew.heap.size = base at *
    obtain ⟨g, hg⟩ : ∃ g, w_.heap.size = g := ⟨_, rfl⟩
    rw [hg] at HVA HGR HGB HNE
    clear hb3 hz3
    obtain ⟨wS, hS⟩ : ∃ wS, w3 = wS := ⟨_, rfl⟩
    replace HGR : Hid (w3.grownBy wS (some g)) := by rw [← hS]; exact HGR
    replace HVA : Hid (Va wS g (n + 1) (fun _ => 0)) := by rw [← hS]; exact HVA
    replace HBW : Hid (Below w.heap.size w wS) := by rw [← hS]; exact HBW
    rw [hg, hS]
    clear hg hS
    rotate_left
    all_goals
      have HLA : Hid (∀ k, k < (leadL n xs xs).length → (nthLL (leadL n xs xs) k).length = n) := fun k hk => (lead_at HS.out HS.out HF.out HF.out hk).2
      have HTB : Hid (∀ k j, cnL (fun L => kepN L n == j) ((leadL n xs xs).take k) ≤ 50625) := fun k j => by
        have := cnL_le (fun L => kepN L n == j) ((leadL n xs xs).take k)
        rw [List.length_take] at this; omega
      have HUP : Hid (∀ k, k < (leadL n xs xs).length → upd (fun j => ((cnL (fun L => kepN L n == j) ((leadL n xs xs).take k) : Nat) : Int)) (kepN (nthLL (leadL n xs xs) k) n) (((cnL (fun L => kepN L n == kepN (nthLL (leadL n xs xs) k) n) ((leadL n xs xs).take k) : Nat) : Int) + 1) = fun j => ((cnL (fun L => kepN L n == j) ((leadL n xs xs).take (k + 1)) : Nat) : Int)) := fun k hk => kep_upd n k _ hk
      have HTL : Hid ((leadL n xs xs).take (leadL n xs xs).length = leadL n xs xs) := List.take_length
      have hn15 : n ≤ 15 := by omega
      generalize leadL n xs xs = Ls at *
      go_wp2
      go_loopw [7] (fun i wr => ∃ k : Nat, k ≤ Ls.length ∧ i = .int .i64 k ∧ Hid (Below w.heap.size w wr ∧ w3.grownBy wr (some g) ∧ Va wr g (n + 1) (fun j => ((cnL (fun L => kepN L n == j) (Ls.take k) : Nat) : Int)))) (fun i _ => Ls.length - (intOf i).toNat)
      case atStart => exact ⟨0, by omega, rfl, HBW.out, HGR.out, HVA.out⟩
      case round =>
        obtain ⟨k, hk, rfl, HI⟩ := hrel
        by_cases hlt : k < Ls.length
        · obtain ⟨g2, E, f, hB, hg2, hcell, hI⟩ := LLq.rd (HL.out.keptB HI.out.2.1 HNE.out) hlt
          subst hB
          have e1 := HLA.out k hlt
          rw [e1] at hcell
          have HIL := Lib.hid hI
          have HLEN := Lib.hid e1
          have hlk := HTB.out k
          have HUPk := Lib.hid (HUP.out k hlt)
          have HKS : Hid (∀ j, kepN (nthLL Ls k) (j + 1) = kepN (nthLL Ls k) j + (if (nthI (nthLL Ls k) j == (j : Int)) = true then 1 else 0)) := fun j => rfl
          have HKL : Hid (∀ j, kepN (nthLL Ls k) j ≤ j) := kepN_le _
          have HLK := Lib.hid hlk
          clear hI e1 hlk
          go_wp2
          go_loop [8, 9] (fun a i => ∃ j : Nat, j ≤ n ∧ i = .int .i64 j ∧ a = .int .i64 (kepN (nthLL Ls k) j : Nat)) (fun _ i => n - (intOf i).toNat)
          case atStart => exact ⟨0, by omega, rfl, rfl⟩
          case round =>
            obtain ⟨j, hj, rfl, rfl⟩ := hrel
            have hkl := HKL.out j
            by_cases hlt2 : j < n
            · obtain ⟨b1, o1, hA1, hb1, p0⟩ := HIL.out.at_ (k := j) (by rw [HLEN.out]; exact hlt2)
              subst hA1
              have HSj := Lib.hid (HKS.out j)
              obtain ⟨m, hm⟩ : ∃ m, kepN (nthLL Ls k) j = m := ⟨_, rfl⟩
              rw [hm] at hkl ⊢
              have HM := Lib.hid hm; clear hm
              cases hb : (nthI (nthLL Ls k) j == (j : Int))
              · have HBB2 := Lib.hid hb
                go_wp2
                go_round
                case rel => exact ⟨j + 1, by omega, by go_num, by rw [HSj.out, HBB2.out, HM.out]; exact val_int (by simp)⟩
                case measure => simp [intOf]; omega
              · have HBB2 := Lib.hid hb
                go_wp2
                go_round
                case rel => exact ⟨j + 1, by omega, by go_num, by rw [HSj.out, HBB2.out, HM.out]; exact val_int (by simp)⟩
                case measure => simp [intOf]; omega
            · obtain rfl : j = n := by omega
              have q0 := HI.out.2.2.cell (i := kepN (nthLL Ls k) j) (by omega)
              have f0 := HI.out.2.2.frozen (kepN (nthLL Ls k) j)
              have hlg := HI.out.2.2.lt
              have hb1 := HLK.out (kepN (nthLL Ls k) j)
              have hkl2 : kepN (nthLL Ls k) j < j + 1 := by omega
              obtain ⟨m, hm⟩ : ∃ m, kepN (nthLL Ls k) j = m := ⟨_, rfl⟩
              obtain ⟨N, hN⟩ : ∃ N, cnL (fun L => kepN L j == m) (Ls.take k) = N := ⟨_, rfl⟩
              rw [hm] at q0 f0 hb1 hkl hkl2 ⊢
              simp only [hm, hN] at q0 hb1
              have HM := Lib.hid (And.intro hm hN)
              clear hm hN
              go_wp2
              go_roundw
              case rel =>
                refine ⟨k + 1, by omega, by go_num, HI.out.1.setCell (p := ⟨g, m, none⟩) HGB.out _, grown_trans HI.out.2.1 (grown_set (grown_refl _ _) _ _), ?_⟩
                have h := HI.out.2.2.set m ((N : Int) + 1)
                have h2 := HUPk.out
                rw [HM.out.1, HM.out.2] at h2
                rw [h2] at h
                exact h
              case measure => simp [intOf]; omega
        · obtain rfl : k = Ls.length := by omega
          go_wp2
          go_ret2
          have h := HI.out.2.2.own HGB.out (by unfold maxLen; omega)
          rw [HTL.out] at h
          exact LP.mk (ns := (List.range (n + 1)).map (fun j => ((cnL (fun L => kepN L n == j) Ls : Nat) : Int))) (by simpa using h) (by rw [HN.out]) (by rw [HN.out]) HI.out.1
  · have HC := Lib.hid hc
    have hne : (fcode v xs != 0) = true := by simpa using hc
    have HN : Hid (kepR v xs = ([], fcode v xs)) := by unfold Hid kepR; rw [if_neg hc]
    generalize kepR v xs = R at *
    clear hc
    go_enter Try.func32, Try.ntmps32; have HA := Lib.hid hA; clear hA; have HR := Lib.hid (Row.box w 30 (.int .i64 v) (.slice A xs.length c)); have HW := Lib.hid (Since.refl w); replace HA := Lib.hid (HA.out.below (below_alloc _ (.cells #[.int .i64 v, .slice A xs.length c] 30))); replace HW := Lib.hid (HW.out.below (below_alloc _ (.cells #[.int .i64 v, .slice A xs.length c] 30))); obtain ⟨c0, c1⟩ := HR.out.c2; go_wp2_with fail; refine (code_one v A c xs _ _ (by simp) HA.out hl).mono ?_; rintro e w_ ⟨rfl, hb⟩; replace HA := Lib.hid (HA.out.below hb); replace HW := Lib.hid (HW.out.below hb); replace HR := Lib.hid (HR.out.below hb); clear hb; (try clear c0 c1); obtain ⟨c0, c1⟩ := HR.out.c2
    go_wp2
    go_ret2
    exact LP.nil (by rw [HN.out]) (by rw [HN.out]) HW.out

theorem kept_any (A : Option Addr) (c : Nat) (L : List Int) (w : World) (hA : Il w A L) (hl : L.length ≤ 15) :
    Calls Try.prog 71 #[.slice A L.length c] w fun e w' => e = .returned (.int .i64 (kepN L L.length : Nat)) ∧ w = w' := by
  have HA := Lib.hid hA; clear hA
  have HST : Hid (∀ k, kepN L (k + 1) = kepN L k + (if (nthI L k == (k : Int)) = true then 1 else 0)) := fun k => rfl
  have HLE : Hid (∀ k, kepN L k ≤ k) := kepN_le L
  have HZ : Hid (kepN L 0 = 0) := rfl
  go_enter Try.func71, Try.ntmps71
  go_wp2
  go_loop [3, 8] (fun s i => ∃ k : Nat, k ≤ L.length ∧ i = .int .i64 k ∧ s = .int .i64 (kepN L k : Nat)) (fun _ i => L.length - (intOf i).toNat)
  case atStart => exact ⟨0, by omega, rfl, by rw [HZ.out]; rfl⟩
  case round =>
    obtain ⟨k, hk, rfl, rfl⟩ := hrel
    have hle := HLE.out k
    by_cases hlt : k < L.length
    · obtain ⟨b1, o1, hA1, hb1, p0⟩ := HA.out.at_ hlt
      subst hA1
      have HSk := Lib.hid (HST.out k)
      obtain ⟨m, hm⟩ : ∃ m, kepN L k = m := ⟨_, rfl⟩
      rw [hm] at hle
      rw [hm]
      have HM := Lib.hid hm; clear hm
      cases hb : (nthI L k == (k : Int))
      · have HBB := Lib.hid hb
        have hb2 : ((k : Int) == nthI L k) = false := by simp at hb ⊢; omega
        go_wp2_with fail
        refine (one_any _ _).mono ?_
        rintro e w' ⟨rfl, rfl⟩
        clear hb hb2
        go_wp2
        go_round
        case rel => exact ⟨k + 1, by omega, by go_num, by rw [HSk.out, HBB.out, HM.out]; exact val_int (by simp)⟩
        case measure => simp [intOf]; omega
      · have HBB := Lib.hid hb
        have hb2 : ((k : Int) == nthI L k) = true := by simp at hb ⊢; omega
        go_wp2_with fail
        refine (one_any _ _).mono ?_
        rintro e w' ⟨rfl, rfl⟩
        clear hb hb2
        go_wp2
        go_round
        case rel => exact ⟨k + 1, by omega, by go_num, by rw [HSk.out, HBB.out, HM.out]; exact val_int (by simp)⟩
        case measure => simp [intOf]; omega
    · obtain rfl : k = L.length := by omega
      go_wp2
      go_ret
      exact ⟨rfl, rfl⟩

/-- the numbers in their row and its header in its box -/
def KInv (w0 : World) (q g n : Nat) (C : List (List Int)) (a : World) : Prop :=
  Row a q 39 #[.slice (some ⟨g, 0, none⟩) (n + 1) (n + 1)] ∧ Va a g (n + 1) (fun j => wcnt (cnL (fun L => kepN L n == j) C)) ∧ Below w0.heap.size w0 a
theorem kepCl_any (sb n gx gy q g : Nat) (V : List Int → Prop) (h15 : n ≤ 15) (w0 : World) (hq : q < sb) (hg : g < sb) (hgx : g < gx) (hgy : g < gy) (hqw : w0.heap.size ≤ g) (hne : q ≠ g) :
    EachOk sb n gx gy 70 #[] #[.pointer (some ⟨q, 0, none⟩)] (fun _ => true) (KInv w0 q g n) V := by
  refine ⟨fun args w => by kernel_rfl, fun C a b hI _ hg2 => ?_, fun C L W to us kx ky _ _ hI hS hL hto => ?_⟩
  · exact ⟨hI.1.grown hg2 (by simp; omega), Row.grown hI.2.1 hg2 (by simp; omega), hI.2.2.grown hg2 hI.2.2.size (fun k hk => by simp at hk; omega)⟩
  · clear kx ky
    have HI := Lib.hid hI
    have HIL := Lib.hid (hS.il (L := L) (by omega) (fun k hk => hto k (by omega)))
    have c0 := hI.1.cell 0
    have hlt := hI.1.lt
    have hlg := hI.2.1.lt
    have hkl := kepN_le L n
    have p0 := hI.2.1.cell (i := kepN L n) (by omega)
    have f0 := hI.2.1.frozen (kepN L n)
    have HN : Hid (∀ j, cnL (fun L => kepN L n == j) (C ++ [L]) = cnL (fun L => kepN L n == j) C + (if (kepN L n == j) = true then 1 else 0)) := fun j => cnL_one _ _ _
    clear hI hS hto
    subst hL
    obtain ⟨m, hm⟩ : ∃ m, m = kepN L L.length := ⟨_, rfl⟩
    have HK := kept_any (some ⟨sb, 3, none⟩) 15 L W.drew (HIL.out.below (below_drew _)) h15
    rw [← hm] at p0 f0 hkl HK
    have HKC := Lib.hid HK
    have HM := Lib.hid hm
    clear hm HK
    generalize hX : wcnt (cnL (fun L_1 => kepN L_1 L.length == m) C) = X at *
    have HX := Lib.hid hX
    clear hX
    have hm16 : m < L.length + 1 := by omega
    have hm17 : (m : Int) < (L.length : Int) + 1 := by omega
    go_enter Try.func70, Try.ntmps70
    go_wp2
    refine wp_region_still_tail 7 (by kernel_rfl) (by kernel_rfl) ?_
    simp only [List.take_succ_cons, List.take_zero, List.drop_succ_cons, List.drop_zero]
    repeat still_step
    still_call (HKC.out.mono fun _ _ h => ⟨h.1, h.2.symm⟩)
    repeat still_step
    try refine wpStill_nil ?_
    change wpList _ _ _ _ _ W.drew
    go_wp2
    go_ret
    refine ⟨rfl, ⟨Row.far (w := W) HI.out.1 (p := ⟨g, m, none⟩) (by simp; omega) _, ?_, (HI.out.2.2.setCell (p := ⟨g, m, none⟩) hqw _).drew⟩, by simp [World.setCell], Below.heap_setCell W ⟨g, m, none⟩ _ sb (show sb ≠ g by omega), Below.heap_setCell W ⟨g, m, none⟩ _ gx (show gx ≠ g by omega), Below.heap_setCell W ⟨g, m, none⟩ _ gy (show gy ≠ g by omega)⟩
    have h := (HI.out.2.1.set m (wrap64 (X + 1))).ext (G := fun j => wcnt (cnL (fun L_1 => kepN L_1 L.length == j) (C ++ [L]))) fun i hi => by
      show upd _ m (wrap64 (X + 1)) i = wcnt (cnL (fun L_1 => kepN L_1 L.length == i) (C ++ [L]))
      rw [HN.out i]
      unfold upd
      by_cases e : i = m
      · subst e
        rw [if_pos rfl, if_pos (by rw [← HM.out]; simp), ← HX.out]; rfl
      · rw [if_neg e, if_neg (by rw [← HM.out]; simpa using Ne.symm e)]; rfl
    exact h

theorem implKep_any (v : Int) (A : Option Addr) (c : Nat) (xs : List Blk) (w : World) (hA : Bl w A xs) (hl : xs.length ≤ 1048576) :
    Calls Try.prog 33 #[.agg #[.int .i64 v, .slice A xs.length c]] w (LP w (kepR v xs).1 (kepR v xs).2) := by
  cases hs : isSysB v xs
  · have HN : Hid (kepR v xs = ([], 1)) := by unfold Hid kepR fcode; rw [hs]; rfl
    generalize kepR v xs = R at *
    have HA := Lib.hid hA; clear hA; have HR := Lib.hid (Row.box w 30 (.int .i64 v) (.slice A xs.length c)); have HW := Lib.hid (Since.refl w); go_enter Try.func33, Try.ntmps33; go_wp2_with fail; replace HA := Lib.hid (HA.out.below (below_alloc _ (.cells #[.int .i64 v, .slice A xs.length c] 30))); replace HW := Lib.hid (HW.out.below (below_alloc _ (.cells #[.int .i64 v, .slice A xs.length c] 30)))
    refine (IsSystem_any v A c xs _ HA.out hl).mono ?_; rw [hs]; rintro e w_ ⟨rfl, hb⟩; replace HW := Lib.hid (HW.out.below hb); clear hb
    go_wp2
    go_ret2
    exact LP.nil (by rw [HN.out]) (by rw [HN.out]) HW.out
  · have hsy := isSysB_iff.1 hs
    have hv := hsy.1
    obtain ⟨n, rfl⟩ := Int.eq_ofNat_of_zero_le (by omega : 0 ≤ v)
    have HS := Lib.hid hsy
    have HN : Hid (kepR n xs = if fcode n xs = 0 then ((List.range (n + 1)).map (fun j => wcnt (cnL (fun L => kepN L n == j) (autL (fun _ => true) n xs))), 0) else ([], fcode n xs)) := by
      unfold Hid kepR autL
      by_cases hc : fcode n xs = 0
      · rw [if_pos hc, if_pos hc, if_pos hc, runE_all (fun _ => rfl), List.nil_append]
        simp only [Int.toNat_natCast]
        obtain ⟨h1, h2⟩ := fcode_zero hc
        have hld := lead_bd hsy hsy h2 h2
        congr 1
        refine List.map_congr_left fun j _ => ?_
        have := cnL_le (fun L => kepN L n == j) (leadL n xs xs)
        rw [wcnt_is _ (by omega)]
      · rw [if_neg hc, if_neg hc]
    generalize kepR n xs = R at *
    have hn1 : (n : Int) + 1 ≤ 1000000 := by omega
    have hn0 : 0 ≤ (n : Int) + 1 := by omega
    have hwr : IntKind.i64.wrap ((n : Int) + 1) = (n : Int) + 1 := by rw [IntKind.wrap_i64]; omega
    have hto : ((n : Int) + 1).toNat = n + 1 := by omega
    clear hsy
    go_enter Try.func33, Try.ntmps33
    have HA := Lib.hid hA; clear hA; have HR := Lib.hid (Row.box w 30 (.int .i64 n) (.slice A xs.length c)); have HW := Lib.hid (Since.refl w)
    replace HA := Lib.hid (HA.out.below (below_alloc _ (.cells #[.int .i64 n, .slice A xs.length c] 30))); replace HW := Lib.hid (HW.out.below (below_alloc _ (.cells #[.int .i64 n, .slice A xs.length c] 30)))
    go_wp2_with fail
    refine (IsSystem_any n A c xs _ HA.out hl).mono ?_; rw [hs]; rintro e w_ ⟨rfl, hb⟩; replace HA := Lib.hid (HA.out.below hb); replace HW := Lib.hid (HW.out.below hb); replace HR := Lib.hid (HR.out.below hb); clear hb; (try clear c0 c1); obtain ⟨c0, c1⟩ := HR.out.c2
    have hlr := HR.out.lt
    go_wp2_with fail
    have HAL := Lib.hid (below_up (below_alloc w_ (.cells (icells (n + 1) (fun _ => 0)) 2)) (below_alloc _ (.cells #[.slice (some ⟨w_.heap.size, 0, none⟩) (n + 1) (n + 1)] 39)))
    have HRN := Lib.hid (Row.new (w_.alloc (.cells (icells (n + 1) (fun _ => 0)) 2)) 39 #[.slice (some ⟨w_.heap.size, 0, none⟩) (n + 1) (n + 1)])
    simp only [World.size_alloc] at HRN
    have HVN : Hid (Va ((w_.alloc (.cells (icells (n + 1) (fun _ => 0)) 2)).alloc (.cells #[.slice (some ⟨w_.heap.size, 0, none⟩) (n + 1) (n + 1)] 39)) w_.heap.size (n + 1) (fun j => wcnt (cnL (fun L => kepN L n == j) []))) := (show Va _ w_.heap.size (n + 1) (fun _ => 0) from Row.new w_ _ _).below (below_alloc _ _)
    have hws := HW.out.size
    refine (autos_any n A c xs 70 #[] #[.pointer (some ⟨w_.heap.size + 1, 0, none⟩)] (fun _ => true) (KInv w (w_.heap.size + 1) w_.heap.size n) _ (HA.out.below HAL.out) hl ⟨HRN.out, HVN.out, HW.out.below HAL.out⟩ (fun a b h1 h2 _ => ⟨(h2.block _ (by simp)).trans h1.1, (h2.block _ (by simp; omega)).trans h1.2.1, h1.2.2.trans (h2.mono (by simp; omega))⟩) (fun _ _ sb gx gy h1 h2 h3 _ _ => kepCl_any sb n gx gy _ _ _ (by omega) w (by simp at h1; omega) (by simp at h1; omega) (by simp at h2; omega) (by simp at h3; omega) hws (by omega))).mono ?_
    rintro e w3 ⟨rfl, hI, hz⟩
    have HB := Lib.hid hI.2.2
    have HV := Lib.hid hI.2.1
    have d0 := hI.1.cell 0
    have hl1 := hI.1.lt
    clear hI hz hs
    by_cases hc : fcode n xs = 0
    · have HN2 : Hid (R = ((List.range (n + 1)).map (fun j => wcnt (cnL (fun L => kepN L n == j) (autL (fun _ => true) n xs))), 0)) := by unfold Hid; rw [HN.out, if_pos hc]
      rw [hc]
      clear hc
      go_wp2
      go_ret2
      have h := HV.out.own hws (by unfold maxLen; omega)
      exact LP.mk (ns := (List.range (n + 1)).map (fun j => wcnt (cnL (fun L => kepN L n == j) (autL (fun _ => true) n xs)))) (by simpa using h) (by rw [HN2.out]) (by rw [HN2.out]) HB.out
    · have hne : (fcode n xs != 0) = true := by simpa using hc
      have HN2 : Hid (R = ([], fcode n xs)) := by unfold Hid; rw [HN.out, if_neg hc]
      clear hc
      go_wp2
      go_ret2
      exact LP.nil (by rw [HN2.out]) (by rw [HN2.out]) HB.out

theorem kepR_bd (v : Int) (xs : List Blk) : (kepR v xs).1.length ≤ 16 := by
  unfold kepR
  split
  · rename_i h
    have := (isSysB_iff.1 (fcode_zero h).1).1
    simp; omega
  · simp

end Go.Proofs.Ytgbkonnmjmlalaa

/- Lists of lists of numbers in a law's own functions; conditions: stated in each. -/
namespace Go.Proofs.Ytgbkonnmjmlalaa
open Go.ChangeShapes Go.WideShapes Go.ChangeAt Go.RowKit Go.Deep Go.Joins
set_option maxHeartbeats 400000
set_option maxRecDepth 100000
set_option linter.unusedSimpArgs false
set_option linter.unusedVariables false

theorem eqInt64SS_any (b1 b2 : Nat) (A B : Option Addr) (c d : Nat) (xss : List (List Int)) (w : World) (hA : LLq w b1 (.slice A xss.length c) xss) (hB : LLq w b2 (.slice B xss.length d) xss) (hl : xss.length ≤ 1073741824) (hx : ∀ k, k < xss.length → (nthLL xss k).length ≤ 1073741824) :
    Calls Try.prog 36 #[.slice A xss.length c, .slice B xss.length d] w fun e w' => e = .returned (.bool true) ∧ Below w.heap.size w w' := by
  have HA := Lib.hid hA; have HB := Lib.hid hB; have HX := Lib.hid hx
  clear hA hB hx
  go_enter Try.func36, Try.ntmps36
  go_wp2
  go_loopw [5] (fun i wr => ∃ k : Nat, k ≤ xss.length ∧ i = .int .i64 k ∧ Hid (Below w.heap.size w wr)) (fun i _ => xss.length - (intOf i).toNat)
  case atStart => exact ⟨0, by omega, rfl, Below.refl _ _⟩
  case round =>
    obtain ⟨k, hk, rfl, HC⟩ := hrel
    by_cases hlt : k < xss.length
    · obtain ⟨g1, B1, d1, hA1, hg1, p0, hI1⟩ := (LLq.rd (HA.out.below HC.out) hlt)
      subst hA1
      obtain ⟨g2, B2, d2, hA2, hg2, q0, hI2⟩ := (LLq.rd (HB.out.below HC.out) hlt)
      subst hA2
      have HI1 := Lib.hid hI1; have HI2 := Lib.hid hI2
      have hxk := HX.out k hlt
      have HKEEP := Lib.hid (And.intro p0 q0)
      clear hI1 hI2
      go_wp2
      clear p0 q0
      go_region_held3 (fun w' => w'.cell? ⟨g1, k, none⟩ = some (.slice B1 (nthLL xss k).length d1) ∧ w'.cell? ⟨g2, k, none⟩ = some (.slice B2 (nthLL xss k).length d2)) (first | exact HKEEP.out) (first
        | (go_at_call 26
           refine (eqInt64S_any B1 B2 d1 d2 (nthLL xss k) (nthLL xss k) _ (HI1.out.below (below_drew _)) (HI2.out.below (below_drew _)) hxk hxk).mono ?_
           rw [eqInts_true rfl]
           rintro e w1 ⟨rfl, hb⟩
           have HB1 := Lib.hid (below_up HC.out (below_up (below_drew wr) hb))
           have o := old_cells (below_up (below_drew wr) hb)
           replace HKEEP := Lib.hid (And.intro ((o.1 g1 k hg1).trans HKEEP.out.1) ((o.1 g2 k hg2).trans HKEEP.out.2))
           clear hb o))
      go_wp2
      go_roundw
      case rel => exact ⟨k + 1, by omega, by go_num, HB1.out⟩
      case measure => simp [intOf]; omega
    · obtain rfl : k = xss.length := by omega
      go_wp2
      go_ret
      exact ⟨rfl, HC.out⟩

/-- the lengths of the first lists, added up -/
def offL (xss : List (List Int)) : Nat → Nat
  | 0 => 0
  | k + 1 => offL xss k + (nthLL xss k).length
theorem offL_mono (xss : List (List Int)) {j : Nat} : ∀ {k}, j ≤ k → offL xss j ≤ offL xss k := by
  intro k
  induction k with
  | zero => intro h; have : j = 0 := by omega
            subst this; exact Nat.le_refl _
  | succ k ih =>
    intro h
    by_cases e : j = k + 1
    · subst e; exact Nat.le_refl _
    · have := ih (by omega); rw [offL]; omega
/-- A is a row of lists that hold k0, k0 + 1, .. -/
def MkL (w : World) (A : Option Addr) (xss : List (List Int)) (k0 : Int) : Prop :=
  ∀ k, k < xss.length → ∃ g B d, A = some ⟨g, 0, none⟩ ∧ g < w.heap.size ∧ w.cell? ⟨g, k, none⟩ = some (.slice B (nthLL xss k).length d) ∧ Mk w 2 B (nthLL xss k).length (k0 + offL xss k)
theorem MkL.below {w w' : World} {A : Option Addr} {xss : List (List Int)} {k0 : Int} (h : MkL w A xss k0) (hb : Below w.heap.size w w') : MkL w' A xss k0 := by
  intro k hk
  obtain ⟨g, B, d, h1, h2, h3, h4⟩ := h k hk
  exact ⟨g, B, d, h1, Nat.lt_of_lt_of_le h2 hb.size, (hb.cell (p := ⟨g, k, none⟩) h2).trans h3, h4.below hb⟩
theorem Mk.kept {w w' : World} {t : TypeId} {B : Option Addr} {n : Nat} {k : Int} (h : Mk w t B n k) (hk : ∀ b, B.map Addr.block = some b → w'.heap[b]? = w.heap[b]?) : Mk w' t B n k := by
  rcases h with h | ⟨g, cur, rfl, hR, r⟩
  · exact .inl h
  · exact .inr ⟨g, cur, rfl, (hk g rfl).trans hR, r⟩
theorem Wr.kept {w w' : World} {t : TypeId} {B : Option Addr} {n : Nat} (h : Wr w t B n) (hk : ∀ b, B.map Addr.block = some b → w'.heap[b]? = w.heap[b]?) : Wr w' t B n := by
  rcases h with h | ⟨g, cur, rfl, hR, r⟩
  · exact .inl h
  · exact .inr ⟨g, cur, rfl, (hk g rfl).trans hR, r⟩
theorem slice_block (B : Option Addr) (n d : Nat) : (Value.slice B n d).ownBlock = B.map Addr.block := by
  cases B with
  | none => rfl
  | some a => rfl

theorem markInt64SS_any (base : Nat) (A : Option Addr) (c : Nat) (xss : List (List Int)) (w : World) (hA : LLd w base (.slice A xss.length c) xss) (hl : xss.length ≤ 1000000) (ho : offL xss xss.length ≤ 100000000) :
    Calls Try.prog 37 #[.slice A xss.length c, .int .i64 1] w fun e w' => e = .returned (.int .i64 (1 + (offL xss xss.length : Nat))) ∧ MkL w' A xss 1 ∧ Below base w w' := by
  obtain ⟨hs, hown, hel, hdis⟩ := hA
  have hform : ∀ k, k < xss.length → ∃ B d, hs k = .slice B (nthLL xss k).length d := fun k hk => by
    have h := (hel k hk).1
    exact own_slice h
  have hcell : ∀ k, k < xss.length → ∃ g, A = some ⟨g, 0, none⟩ ∧ g < w.heap.size ∧ w.cell? ⟨g, k, none⟩ = some (hs k) ∧ base ≤ g := fun k hk => by
    rcases hown.2 with ⟨_, hn⟩ | ⟨g, cap, cur, hv, hge, hg, hnc, _, hcs, htk⟩
    · omega
    · simp only [Value.slice.injEq] at hv
      refine ⟨g, hv.1, Row.lt hg, ?_, hge⟩
      have h1 : ((List.range xss.length).map hs)[k]? = some (hs k) := by simp [hk]
      rw [Row.cell hg]
      rw [← htk, List.getElem?_take_of_lt (by omega), Array.getElem?_toList] at h1
      exact h1
  have hlt : ∀ k, k < xss.length → ∀ b, (hs k).ownBlock = some b → base ≤ b ∧ b < w.heap.size := fun k hk b e => (hel k hk).1.lt b e
  have HEL := Lib.hid hel; have HDIS := Lib.hid hdis; have HF := Lib.hid hform; have HC := Lib.hid hcell; have HLT := Lib.hid hlt
  have HUA : Hid (∀ k, k < xss.length → ∀ b, (hs k).ownBlock = some b → A.map Addr.block ≠ some b) := fun k hk b e => by rw [← slice_block A xss.length c]; exact (hel k hk).2 b e
  have HMO : Hid (∀ k, k ≤ xss.length → offL xss k ≤ 100000000) := fun k hk => Nat.le_trans (offL_mono xss hk) ho
  have HST : Hid (∀ k, offL xss (k + 1) = offL xss k + (nthLL xss k).length) := fun k => rfl
  clear hown hel hdis hform hcell hlt
  go_enter Try.func37, Try.ntmps37
  go_wp2
  go_loopw [1, 5] (fun s i wr => ∃ k : Nat, k ≤ xss.length ∧ i = .int .i64 k ∧ s = .int .i64 (1 + (offL xss k : Nat)) ∧ Hid (Below base w wr ∧ (∀ b, b < w.heap.size → (∀ j, j < k → (hs j).ownBlock ≠ some b) → wr.heap[b]? = w.heap[b]?) ∧ ∀ j, j < k → ∀ B d, hs j = .slice B (nthLL xss j).length d → Mk wr 2 B (nthLL xss j).length (1 + (offL xss j : Nat)))) (fun _ i _ => xss.length - (intOf i).toNat)
  case atStart => exact ⟨0, by omega, rfl, rfl, Below.refl _ _, fun _ _ _ => rfl, fun j hj => by omega⟩
  case round =>
    obtain ⟨k, hk, rfl, rfl, HI⟩ := hrel
    by_cases hlt : k < xss.length
    · obtain ⟨B, d, hB⟩ := HF.out k hlt
      obtain ⟨g, hA1, hg, p0, hge⟩ := HC.out k hlt
      subst hA1
      have hgn : ∀ j, j < k → (hs j).ownBlock ≠ some g := fun j hj e => HUA.out j (by omega) g e rfl
      have q0 : wr.cell? ⟨g, k, none⟩ = some (hs k) := (World.cell?_of_block (a := ⟨g, k, none⟩) (HI.out.2.1 g hg hgn)).trans p0
      rw [hB] at q0
      have hgr := Nat.lt_of_lt_of_le hg HI.out.1.size
      have HB := Lib.hid hB
      have HWR : Hid (Wr wr 2 B (nthLL xss k).length) := by
        have h := (HEL.out k hlt).1
        rw [hB] at h
        have h2 : Wr w 2 B (nthLL xss k).length := by have h3 := Wr.own h; rwa [Nat.mul_one] at h3
        refine h2.kept fun b hb => ?_
        have hb2 : (hs k).ownBlock = some b := by rw [hB, slice_block]; exact hb
        exact HI.out.2.1 b (HLT.out k hlt b hb2).2 (fun j hj e => HDIS.out j k (by omega) hlt (by omega) b e hb2)
      have hm1 := HMO.out k hk
      have hm2 := HMO.out (k + 1) hlt
      have HSk := HST.out k
      rw [HSk] at hm2
      have HSH := Lib.hid HSk
      clear p0 hgn hB HSk
      go_wp2_with fail
      refine (markInt64S_any B (nthLL xss k).length d (1 + (offL xss k : Nat)) _ HWR.out (by omega) (by omega) (by omega)).mono ?_
      rintro e w1 ⟨rfl, hmk, hgw⟩
      have HM := Lib.hid hmk; have HGW := Lib.hid hgw
      clear hmk hgw q0
      go_wp2
      go_roundw
      case rel =>
        have hbk : ∀ b, B.map Addr.block = some b → (hs k).ownBlock = some b := fun b e => by rw [HB.out, slice_block]; exact e
        have hsz := HI.out.1.size
        refine ⟨k + 1, by omega, by go_num, by rw [HSH.out]; exact val_int (by push_cast; omega), HI.out.1.grown HGW.out (by omega) (fun b e => (HLT.out k hlt b (hbk b e)).1), fun b hb hno => ?_, fun j hj B' d' e => ?_⟩
        · exact (HGW.out.block b (by omega) (fun e => hno k (by omega) (hbk b e.symm))).trans (HI.out.2.1 b hb fun j hj => hno j (by omega))
        · by_cases ej : j = k
          · subst ej
            rw [HB.out] at e
            simp only [Value.slice.injEq] at e
            rw [← e.1]; exact HM.out
          · refine (HI.out.2.2 j (by omega) B' d' e).kept fun b hb => ?_
            have hb2 : (hs j).ownBlock = some b := by rw [e, slice_block]; exact hb
            exact HGW.out.block b (by have := (HLT.out j (by omega) b hb2).2; omega) (fun e2 => HDIS.out j k (by omega) hlt ej b hb2 (hbk b e2.symm))
      case measure => simp [intOf]; omega
    · obtain rfl : k = xss.length := by omega
      go_wp2
      go_ret
      refine ⟨rfl, fun j hj => ?_, HI.out.1⟩
      obtain ⟨B, d, hB⟩ := HF.out j hj
      obtain ⟨g, hA1, hg, p0, _⟩ := HC.out j hj
      refine ⟨g, B, d, hA1, Nat.lt_of_lt_of_le hg HI.out.1.size, ?_, HI.out.2.2 j hj B d hB⟩
      rw [← hB, ← p0]
      exact World.cell?_of_block (a := ⟨g, j, none⟩) (HI.out.2.1 g hg (fun t ht e => HUA.out t ht g e (by rw [hA1]; rfl)))

theorem heldInt64SS_any (A : Option Addr) (c : Nat) (xss : List (List Int)) (w : World) (hA : MkL w A xss 1) (hl : xss.length ≤ 1000000) (ho : offL xss xss.length ≤ 100000000) :
    Calls Try.prog 38 #[.slice A xss.length c, .int .i64 1] w fun e w' => e = .returned (.int .i64 (1 + (offL xss xss.length : Nat))) ∧ w = w' := by
  have HA := Lib.hid hA
  have HMO : Hid (∀ k, k ≤ xss.length → offL xss k ≤ 100000000) := fun k hk => Nat.le_trans (offL_mono xss hk) ho
  have HST : Hid (∀ k, offL xss (k + 1) = offL xss k + (nthLL xss k).length) := fun k => rfl
  clear hA
  go_enter Try.func38, Try.ntmps38
  go_wp2
  go_loop [1, 5] (fun s i => ∃ k : Nat, k ≤ xss.length ∧ i = .int .i64 k ∧ s = .int .i64 (1 + (offL xss k : Nat))) (fun _ i => xss.length - (intOf i).toNat)
  case atStart => exact ⟨0, by omega, rfl, rfl⟩
  case round =>
    obtain ⟨k, hk, rfl, rfl⟩ := hrel
    by_cases hlt : k < xss.length
    · obtain ⟨g, B, d, hA1, hg, p0, hM⟩ := HA.out k hlt
      subst hA1
      have HM := Lib.hid hM
      have hm1 := HMO.out k hk
      have hm2 := HMO.out (k + 1) hlt
      have HSk := HST.out k
      rw [HSk] at hm2
      have HSH := Lib.hid HSk
      clear hM HSk
      go_wp2_with fail
      refine (heldInt64S_any B (nthLL xss k).length d (1 + (offL xss k : Nat)) _ HM.out (by omega) (by omega) (by omega)).mono ?_
      rintro e w' ⟨rfl, rfl⟩
      go_wp2
      go_round
      case rel => exact ⟨k + 1, by omega, by go_num, by rw [HSH.out]; exact val_int (by push_cast; omega)⟩
      case measure => simp [intOf]; omega
    · obtain rfl : k = xss.length := by omega
      go_wp2
      go_ret
      exact ⟨rfl, rfl⟩

theorem LLd.grown {w w' : World} {base : Nat} {u : Value} {B : Option Addr} {xss : List (List Int)} (h : LLd w base u xss) (hg : w.grownBy w' (B.map Addr.block)) (hB : ∀ k, B.map Addr.block = some k → k < base) : LLd w' base u xss := by
  obtain ⟨hs, ho, hi, hd⟩ := h
  have key : ∀ {x : Value} {t : TypeId} {size n : Nat} {ys : List Value}, w.ownsRow base t size x n ys → w'.ownsRow base t size x n ys := by
    intro x t size n ys hx
    refine World.ownsRow.kept hx hg ?_
    cases e : x.ownBlock with
    | none => exact .inl rfl
    | some b => right; intro e2; have := hB b e2.symm; have := (hx.lt b e).1; omega
  exact ⟨hs, key ho, fun k hk => ⟨key (hi k hk).1, (hi k hk).2⟩, hd⟩
theorem offL_le {xss : List (List Int)} {m : Nat} (h : ∀ k, k < xss.length → (nthLL xss k).length ≤ m) : ∀ j, j ≤ xss.length → offL xss j ≤ j * m := by
  intro j
  induction j with
  | zero => intro _; simp [offL]
  | succ j ih =>
    intro hj
    have h1 := ih (by omega); have h2 := h j (by omega)
    rw [offL, Nat.succ_mul]; omega

theorem Since.mark {w W wr : World} {B : Nat} (h : Since w W) (h' : Below B W wr) (hB : w.heap.size ≤ B) : Since w wr := Below.trans h (h'.mono hB)

end Go.Proofs.Ytgbkonnmjmlalaa

/- A bound of the lists of automorphisms; conditions: none. -/
namespace Go.Proofs.Ytgbkonnmjmlalaa
open Go.RowKit
set_option linter.unusedVariables false

theorem lists_bd {xss : List (List Int)} {m n : Nat} (h1 : xss.length ≤ n) (h2 : ∀ M ∈ xss, M.length ≤ m) (hm : m ≤ 1000) (hn : n ≤ 100000) : xss.length ≤ 1000000 ∧ (∀ k, k < xss.length → (nthLL xss k).length ≤ 1073741824) ∧ offL xss xss.length ≤ 100000000 := by
  have h3 : ∀ k, k < xss.length → (nthLL xss k).length ≤ m := fun k hk => h2 _ (by
    unfold nthLL
    rw [List.getD_eq_getElem?_getD, List.getElem?_eq_getElem hk, Option.getD_some]
    exact List.getElem_mem hk)
  have h4 := offL_le h3 xss.length (Nat.le_refl _)
  have h5 : xss.length * m ≤ 100000 * 1000 := Nat.mul_le_mul (by omega) hm
  exact ⟨by omega, fun k hk => by have := h3 k hk; omega, by omega⟩
theorem autR_bd (v : Int) (xs : List Blk) : (autR v xs).1.length ≤ 1000000 ∧ (∀ k, k < (autR v xs).1.length → (nthLL (autR v xs).1 k).length ≤ 1073741824) ∧ offL (autR v xs).1 (autR v xs).1.length ≤ 100000000 := by
  unfold autR
  split
  · rename_i h
    obtain ⟨h1, h2⟩ := fcode_zero h
    have hs := isSysB_iff.1 h1
    have hv := hs.1
    obtain ⟨n, rfl⟩ := Int.eq_ofNat_of_zero_le (by omega : 0 ≤ v)
    split
    · exact lists_bd (m := 0) (n := 0) (by simp) (fun M hM => by simp at hM) (by omega) (by omega)
    · rename_i h5
      exact lists_bd (m := 15) (n := 500) (by show (leadL _ xs xs).length ≤ 500; omega) (fun M hM => by have := lead_len hs hs h2 h2 hM; omega) (by omega) (by omega)
  · exact lists_bd (m := 0) (n := 0) (by simp) (fun M hM => by simp at hM) (by omega) (by omega)

end Go.Proofs.Ytgbkonnmjmlalaa
