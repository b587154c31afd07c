/- Plain laws and contracts, part 9; conditions: stated in each. -/
import Derived.StillTailTactics
import Derived.Test.YtbknpflbafjblaaB1
import Derived.Test.YtbknpflbafjblaaB8
set_option linter.unusedSimpArgs false
set_option linter.unusedVariables false
/- Contracts for MissingNumber, of the reference and of the program; conditions: stated in each. -/
namespace Go.Proofs.Ytbknpflbafjblaa
open Go.RowKit
set_option maxHeartbeats 400000
set_option linter.unusedSimpArgs false
set_option linter.unusedVariables false

def told (v : Int) : Bool := decide (v = 3 ∨ v = 7 ∨ v = 9 ∨ v = 13 ∨ v = 15)
def missN (v : Int) (n : Nat) : Int := v * (v - 1) / 6 - n

theorem sq_bd {v : Int} (h0 : 3 ≤ v) (h1 : v ≤ 15) : 0 ≤ v * (v - 1) ∧ v * (v - 1) ≤ 210 := by
  obtain rfl | rfl | rfl | rfl | rfl | rfl | rfl | rfl | rfl | rfl | rfl | rfl | rfl : v = 3 ∨ v = 4 ∨ v = 5 ∨ v = 6 ∨ v = 7 ∨ v = 8 ∨ v = 9 ∨ v = 10 ∨ v = 11 ∨ v = 12 ∨ v = 13 ∨ v = 14 ∨ v = 15 := by omega
  all_goals decide

theorem l08Missing_any (v : Int) (A : Option Addr) (c n : Nat) (w : World) (h0 : 3 ≤ v) (h1 : v ≤ 15) (hn : n ≤ 1048576) :
    Calls Try.prog 146 #[.agg #[.int .i64 v, .slice A n c]] w fun e w' => e = .returned (.tuple #[.int .i64 (missN v n), .bool (told v)]) ∧ Below w.heap.size w w' := by
  obtain rfl | rfl | rfl | rfl | rfl | rfl | rfl | rfl | rfl | rfl | rfl | rfl | rfl : v = 3 ∨ v = 4 ∨ v = 5 ∨ v = 6 ∨ v = 7 ∨ v = 8 ∨ v = 9 ∨ v = 10 ∨ v = 11 ∨ v = 12 ∨ v = 13 ∨ v = 14 ∨ v = 15 := by omega
  all_goals
    clear h0 h1
    go_enter Try.func146, Try.ntmps146
    go_wp2
    go_ret2
    exact ⟨ret_ib (by simp [missN]) (by simp [told]), below_alloc _ _⟩

/-- what MissingNumber gives: a number and a code -/
noncomputable def missR (v : Int) (xs : List Blk) : Int × Int := if isSysB v xs = true then (if told v = true then (missN v xs.length, 0) else (0, 5)) else (0, 1)
theorem missR_bad {v : Int} {xs : List Blk} (h : isSysB v xs = false) : missR v xs = (0, 1) := by simp [missR, h]
theorem missR_not {v : Int} {xs : List Blk} (h : isSysB v xs = true) (ht : told v = false) : missR v xs = (0, 5) := by simp [missR, h, ht]
theorem missR_yes {v : Int} {xs : List Blk} (h : isSysB v xs = true) (ht : told v = true) : missR v xs = (missN v xs.length, 0) := by simp [missR, h, ht]

theorem missing_any (v : Int) (A : Option Addr) (c n : Nat) (w : World) (h0 : 3 ≤ v) (h1 : v ≤ 15) (hn : n ≤ 1048576) :
    Calls Try.prog 149 #[.agg #[.int .i64 v, .slice A n c]] w fun e w' => e = .returned (.tuple #[.int .i64 (if told v = true then missN v n else 0), .int .i64 (if told v = true then 0 else 5)]) ∧ Below w.heap.size w w' := by
  obtain rfl | rfl | rfl | rfl | rfl | rfl | rfl | rfl | rfl | rfl | rfl | rfl | rfl : v = 3 ∨ v = 4 ∨ v = 5 ∨ v = 6 ∨ v = 7 ∨ v = 8 ∨ v = 9 ∨ v = 10 ∨ v = 11 ∨ v = 12 ∨ v = 13 ∨ v = 14 ∨ v = 15 := by omega
  all_goals
    clear h0 h1
    go_enter Try.func149, Try.ntmps149
    go_wp2_with fail
    refine (slicesContains_any (some ⟨w.heap.size + 1, 0, none⟩) 5 [3, 7, 9, 13, 15] _ _ (Il.new1 w _ [3, 7, 9, 13, 15] 2) (by simp)).mono ?_
    rintro e w1 ⟨rfl, rfl⟩
    simp only [idxI, idxFrom, nthI, List.length_cons, List.length_nil, List.getD_cons_zero, List.getD_cons_succ, Nat.reduceAdd, Int.reduceEq, if_false, if_true, Int.reduceNeg, ge_iff_le, Int.reduceLE, decide_true, decide_false]
    go_wp2
    go_ret2
    exact ⟨ret_ii (by simp [missN, told]) (by simp [told]), by go_grown⟩

end Go.Proofs.Ytbknpflbafjblaa

/- Contracts of what the program's walks through completions call, and of its lists of completions; conditions: stated in each. -/
namespace Go.Proofs.Ytbknpflbafjblaa
open Go.RowKit
set_option maxHeartbeats 2000000
set_option maxRecDepth 100000
set_option linter.unusedSimpArgs false
set_option linter.unusedVariables false

/-- what is known while completions are listed -/
structure InvC (W0 : World) (B r8 r2 r3 n most : Nat) (A : Option Addr) (c : Nat) (xs : List Blk) (C : List (List Blk)) (S : Nat → Prop) (w : World) : Prop where
  below : Below W0.heap.size W0 w
  size : B ≤ w.heap.size
  x : Row w r2 30 #[.int .i64 n, .slice A xs.length c]
  m : w.cell? ⟨r3, 0, none⟩ = some (.int .i64 most) ∧ r3 < w.heap.size
  out : ∃ u, Row w r8 38 #[u] ∧ LSS S w B n u (C.map srtL)
  away : ∀ k, S k → B ≤ k
theorem compCl_any (W0 : World) (B r8 r2 r3 n most : Nat) (A : Option Addr) (c : Nat) (xs : List Blk) (hB : W0.heap.size ≤ B) (h8 : W0.heap.size ≤ r8 ∧ r8 < B) (h2 : r2 < B) (h3 : r3 < B) (hne2 : r2 ≠ r8) (hne3 : r3 ≠ r8) (hmost : most ≤ 1073741824) (N : Nat) (cb g : Nat) :
    EachC B cb g n 150 #[] #[.pointer (some ⟨r8, 0, none⟩), .pointer (some ⟨r2, 0, none⟩), .pointer (some ⟨r3, 0, none⟩)] (fun C => decide (C.length < most)) (InvC W0 B r8 r2 r3 n most A c xs) (fun L => L.length ≤ 1048576) N := by
  refine ⟨fun args w => by kernel_rfl, fun C S w w' row hI hg hr => ?_, fun C S w k hI hS => ?_, ?_⟩
  · obtain ⟨hb, hz, hx, hm, ⟨u, hu, hl⟩, haw⟩ := hI
    have hne : ∀ j, j < B → row ≠ some j := fun j hj e => by have := (hr j e).2; omega
    refine ⟨hb.grown hg hb.size (fun k e => by have := (hr k e).2; omega), Nat.le_trans hz hg.size, Row.grown hx hg (hne _ h2), ⟨(World.cell?_of_block (a := ⟨r3, 0, none⟩) (hg.block r3 hm.2 (fun e => hne _ h3 e.symm))).trans hm.1, Nat.lt_of_lt_of_le hm.2 hg.size⟩, ⟨u, Row.grown hu hg (hne _ h8.2), hl.kept hg fun k e => (hr k e).1⟩, haw⟩
  · obtain ⟨_, _, _, _, ⟨u, _, hl⟩, _⟩ := hI
    exact hl.1 k hS
  · intro C S L W A1 c1 hV _ hgo hI hBW hL
    obtain ⟨si0, hsi, hsi0, hsi1, hsi2⟩ := info_parts infoSys'
    obtain ⟨hb, hz, hx, hm, ⟨u, hu, hls⟩, haw⟩ := hI
    have HB0 : Hid (¬ S r8) := fun h => by have := haw _ h; omega
    have HAW := Lib.hid haw
    have HSU : Hid (∀ b, u.ownBlock = some b → S b) := hls.2.elim fun _ h => h.2.2.2.1
    clear haw
    have HB := Lib.hid hb; have HX := Lib.hid hx; have HM := Lib.hid hm; have HU := Lib.hid hu; have HLS := Lib.hid hls; have HL := Lib.hid hL; have HV : Hid (L.length ≤ 1048576) := hV
    have hCl : C.length < 1073741825 := by
      rcases hgo with rfl | h
      · simp
      · have : C.length < most := by simpa using h
        omega
    have HGO := Lib.hid hgo
    clear hb hx hm hu hls hL hV hgo
    obtain ⟨Au, cu, rfl⟩ := HLS.out.slice
    have hlen : (C.map srtL).length = C.length := List.length_map ..
    obtain ⟨hs, hown, hpush⟩ := HLS.out.push
    rw [hlen] at hown HU HLS hpush HSU
    have HOWN := Lib.hid hown; have HPUSH := Lib.hid hpush; have HLEN := Lib.hid hlen
    clear hown hpush hlen
    obtain ⟨x0, x1⟩ := HX.out.c2
    have u0 : W.cell? ⟨r8, 0, none⟩ = some (.slice Au C.length cu) := (Row.cell HU.out 0).trans rfl
    have m0 := HM.out.1
    have hxl := HX.out.lt
    have hul := Row.lt HU.out
    go_enter Try.func150, Try.ntmps150
    go_wp2
    refine wp_region_noPanic ?_
    refine AnyBut.begin (N := 7) (S := (fun w' => w'.cell? ⟨r8, 0, none⟩ = some (.slice Au C.length cu) ∧ w'.cell? ⟨r2, 0, none⟩ = some (.int .i64 n))) (by kernel_rfl) ?_
    have hS0 : (fun w' : World => w'.cell? ⟨r8, 0, none⟩ = some (.slice Au C.length cu) ∧ w'.cell? ⟨r2, 0, none⟩ = some (.int .i64 n)) W.drew := ⟨u0, x0⟩
    refine AnyBut.take (i := 0) (v := ?_) rfl rfl (by decide) (by kernel_rfl) (by kernel_rfl) (by kernel_rfl) (by kernel_rfl) (fun _ _ _ h => h) (Or.inl ⟨by rfl, ?_⟩) hS0 ?_; rotate_left; (focus (intro W hSw; (try dsimp only at hSw); obtain ⟨z0, z1⟩ := hSw; go_simp; (try with_reducible rfl))); (try simp only [Act.put, List.setIfInBounds_toArray, List.set_cons_zero, List.set_cons_succ]); refine AnyBut.take (i := 1) (v := ?_) rfl rfl (by decide) (by kernel_rfl) (by kernel_rfl) (by kernel_rfl) (by kernel_rfl) (fun _ _ _ h => h) (Or.inl ⟨by rfl, ?_⟩) hS0 ?_; rotate_left; (focus (intro W hSw; (try dsimp only at hSw); obtain ⟨z0, z1⟩ := hSw; go_simp; (try with_reducible rfl))); (try simp only [Act.put, List.setIfInBounds_toArray, List.set_cons_zero, List.set_cons_succ]); refine AnyBut.take (i := 2) (v := ?_) rfl rfl (by decide) (by kernel_rfl) (by kernel_rfl) (by kernel_rfl) (by kernel_rfl) (fun _ _ _ h => h) (Or.inl ⟨by rfl, ?_⟩) hS0 ?_; rotate_left; (focus (intro W hSw; (try dsimp only at hSw); obtain ⟨z0, z1⟩ := hSw; go_simp; (try with_reducible rfl))); (try simp only [Act.put, List.setIfInBounds_toArray, List.set_cons_zero, List.set_cons_succ]); refine AnyBut.take (i := 3) (v := ?_) rfl rfl (by decide) (by kernel_rfl) (by kernel_rfl) (by kernel_rfl) (by kernel_rfl) (fun _ _ _ h => h) (Or.inl ⟨by rfl, ?_⟩) hS0 ?_; rotate_left; (focus (intro W hSw; (try dsimp only at hSw); obtain ⟨z0, z1⟩ := hSw; go_simp; (try with_reducible rfl))); (try simp only [Act.put, List.setIfInBounds_toArray, List.set_cons_zero, List.set_cons_succ])
    have HSX : Hid (∀ w', Below W.heap.size W w' → w'.cell? ⟨r8, 0, none⟩ = some (.slice Au C.length cu) ∧ w'.cell? ⟨r2, 0, none⟩ = some (.int .i64 n)) := fun w' hb => ⟨(Row.cell (Row.below HU.out hb) 0).trans rfl, (HX.out.below hb).c2.1⟩
    clear hS0
    refine AnyBut.ready (rs := [4]) (by kernel_rfl) (by simp) ?_; refine AllBut.cons rfl (fun K hK => ?_) AllBut.nil
    rw [if_pos (by rfl)]
    go_simp
    refine (system_any n A1 c1 L _ (HL.out.below (below_drew W)) HV.out).mono ?_
    rintro e w1 ⟨r, rfl, hO, hb1⟩
    obtain ⟨Br, dr, rfl⟩ := own_slice hO
    have HB1 : Hid (Below W.heap.size W w1) := below_up (below_drew W) hb1
    have HO1 : Hid (OB w1 B (.slice Br (srtL L).length dr) (srtL L)) := OB.base hO hBW
    have HF1 : Hid (∀ b, (Value.slice Br (srtL L).length dr).ownBlock = some b → W.heap.size ≤ b) := fun b e => own_block hO b e
    clear hO hb1
    refine hK.out _ _ (fun _ => HSX.out _ HB1.out) ?_
    clear hK K
    (try simp only [Act.put, List.setIfInBounds_toArray, List.set_cons_zero, List.set_cons_succ])
    refine AnyBut.ready (rs := [5]) (by kernel_rfl) (by simp) ?_; refine AllBut.cons rfl (fun K hK => ?_) AllBut.nil
    go_simp
    refine hK.out _ _ (fun _ => HSX.out _ ?_) ?_
    · exact below_up HB1.out (below_alloc w1 _)
    clear hK K
    (try simp only [Act.put, List.setIfInBounds_toArray, List.set_cons_zero, List.set_cons_succ])
    refine AnyBut.ready (rs := [6]) (by kernel_rfl) (by simp) ?_; refine AllBut.cons rfl (fun K hK => ?_) AllBut.nil
    have HOW1 : Hid (w1.ownsRow B 30 2 (.slice Au C.length cu) C.length (hdS n hs C.length)) := own_below HOWN.out HB1.out
    have hz1 := HB1.out.size
    refine step_append_lies _ (by rfl) _ _ 38 (by rfl) B 30 si0 (.agg #[.int .i64 0, .slice none 0 0]) 2 32 Try.underlying38 hsi hsi0 hsi1 hsi2 rfl (by decide) _ _ _ (by rfl) (HOW1.out.alloc _) ⟨w1.heap.size, 0, none⟩ 1 1 [.int .i64 (n : Int), .slice Br (srtL L).length dr] (by rfl) rfl (cells_new _ _ _) (by simp [Value.oneCell']) (by omega) (by unfold maxLen; omega) (by omega) (by simp; omega) (w1.heap.size + 1) (by simp) ?_
    intro g7 cap7 w7 hO7 hg7 hat7 hlt7
    have HAT7 : Hid ((Value.slice (some ⟨g7, 0, none⟩) (C.length + 1) cap7).ownBlock = (Value.slice Au C.length cu).ownBlock ∨ ∃ q, (Value.slice (some ⟨g7, 0, none⟩) (C.length + 1) cap7).ownBlock = some q ∧ W.heap.size ≤ q) := by
      rcases hat7 with h | h
      · exact .inl h.symm
      · exact .inr ⟨g7, rfl, by omega⟩
    have HLS7 := Lib.hid (HPUSH.out w1 _ w7 _ _ (srtL L) HB1.out HO1.out HF1.out (below_alloc w1 _) hg7 hO7 HAT7.out)
    have HGR7 : Hid (W.grownBy w7 (Value.slice Au C.length cu).ownBlock) := grown_trans (grown_below (below_up HB1.out (below_alloc w1 _)) _) hg7
    have HOB : Hid (∀ b, (Value.slice Au C.length cu).ownBlock = some b → B ≤ b) := own_block HOWN.out
    have HNE : Hid ((Value.slice Au C.length cu).ownBlock ≠ some r8 ∧ (Value.slice Au C.length cu).ownBlock ≠ some r2 ∧ (Value.slice Au C.length cu).ownBlock ≠ some r3) := ⟨fun e => by have := HOB.out _ e; omega, fun e => by have := HOB.out _ e; omega, fun e => by have := HOB.out _ e; omega⟩
    clear hO7 hg7 hat7
    have HSX7 : Hid (w7.cell? ⟨r8, 0, none⟩ = some (.slice Au C.length cu) ∧ w7.cell? ⟨r2, 0, none⟩ = some (.int .i64 n)) := ⟨(Row.cell (Row.grown HU.out HGR7.out HNE.out.1) 0).trans rfl, (Row.grown HX.out HGR7.out HNE.out.2.1).c2.1⟩
    refine hK.out _ _ (fun _ => HSX7.out) ?_
    clear hK K x0 x1 u0 m0 hxl hul
    have HU7 := Lib.hid (Row.grown HU.out HGR7.out HNE.out.1)
    have u0 : w7.cell? ⟨r8, 0, none⟩ = some (.slice Au C.length cu) := (Row.cell HU7.out 0).trans rfl
    have hul := Row.lt HU7.out
    have uf := Row.frozen HU7.out 0
    (try simp only [Act.put, List.setIfInBounds_toArray, List.set_cons_zero, List.set_cons_succ])
    refine AnyBut.ready (rs := [7]) (by kernel_rfl) (by simp) ?_; refine AllBut.cons rfl (fun K hK => ?_) AllBut.nil
    go_simp
    refine hK.out _ _ (fun h => absurd rfl h) ?_
    clear hK K
    (try simp only [Act.put, List.setIfInBounds_toArray, List.set_cons_zero, List.set_cons_succ])
    refine AnyBut.done (by kernel_rfl) ?_ _
    refine NoPanic.normal ?_
    have HU8 : Hid (Row (w7.setCell ⟨r8, 0, none⟩ (.slice (some ⟨g7, 0, none⟩) (C.length + 1) cap7)) r8 38 #[.slice (some ⟨g7, 0, none⟩) (C.length + 1) cap7]) := Row.set HU7.out 0 _
    have HX8 := Lib.hid ((Row.grown HX.out HGR7.out HNE.out.2.1).far (p := ⟨r8, 0, none⟩) (Ne.symm hne2) (.slice (some ⟨g7, 0, none⟩) (C.length + 1) cap7))
    have HM8 : Hid ((w7.setCell ⟨r8, 0, none⟩ (.slice (some ⟨g7, 0, none⟩) (C.length + 1) cap7)).cell? ⟨r3, 0, none⟩ = some (.int .i64 most) ∧ r3 < (w7.setCell ⟨r8, 0, none⟩ (.slice (some ⟨g7, 0, none⟩) (C.length + 1) cap7)).heap.size) := by
      refine ⟨(World.cell?_of_block (a := ⟨r3, 0, none⟩) (Below.heap_setCell w7 ⟨r8, 0, none⟩ _ r3 hne3)).trans ((World.cell?_of_block (a := ⟨r3, 0, none⟩) (HGR7.out.block r3 HM.out.2 (fun e => HNE.out.2.2 e.symm))).trans HM.out.1), ?_⟩
      have h1 := HM.out.2; have h2 := HGR7.out.size; simp [World.setCell]; omega
    have HNS : Hid (¬ (S r8 ∨ (W.heap.size ≤ r8 ∧ r8 < w7.heap.size))) := by
      rintro (h | h)
      · have h1 := HB0.out; exact h1 h
      · omega
    have HLS8 := Lib.hid (HLS7.out.kept (row := some r8) (grown_set (grown_refl w7 (some r8)) 0 (.slice (some ⟨g7, 0, none⟩) (C.length + 1) cap7)) (fun k e => by simp only [Option.some.injEq] at e; subst e; exact HNS.out))
    have HB8 : Hid (Below W0.heap.size W0 (w7.setCell ⟨r8, 0, none⟩ (.slice (some ⟨g7, 0, none⟩) (C.length + 1) cap7))) := (HB.out.grown HGR7.out HB.out.size (fun k e => Nat.le_trans hB (HOB.out k e))).setCell h8.1 _
    have HK8 : Hid (W.heap.size ≤ (w7.setCell ⟨r8, 0, none⟩ (.slice (some ⟨g7, 0, none⟩) (C.length + 1) cap7)).heap.size ∧ ∀ k, k < W.heap.size → B ≤ k → ¬ S k → (w7.setCell ⟨r8, 0, none⟩ (.slice (some ⟨g7, 0, none⟩) (C.length + 1) cap7)).heap[k]? = W.heap[k]?) := by
      refine ⟨by have := HGR7.out.size; simpa [World.setCell] using this, fun k hk hBk hSk => ?_⟩
      exact (Below.heap_setCell w7 ⟨r8, 0, none⟩ _ k (by simp; omega)).trans (HGR7.out.block k hk fun e => hSk (HSU.out k e.symm))
    generalize hw8 : w7.setCell ⟨r8, 0, none⟩ (.slice (some ⟨g7, 0, none⟩) (C.length + 1) cap7) = w8 at *
    have hul8 := Row.lt HU8.out
    have v0 : w8.cell? ⟨r8, 0, none⟩ = some (.slice (some ⟨g7, 0, none⟩) (C.length + 1) cap7) := (Row.cell HU8.out 0).trans rfl
    have m0 := HM8.out.1
    clear u0 hul uf
    go_wp2
    go_ret
    refine ⟨ret_bool ?_, fun b => S b ∨ (W.heap.size ≤ b ∧ b < w7.heap.size), ⟨HB8.out, Nat.le_trans hBW HK8.out.1, HX8.out, HM8.out, ⟨_, HU8.out, ?_⟩, fun k h => ?_⟩, HK8.out.1, fun k hk h => ?_, HK8.out.2⟩
    · rw [Bool.eq_iff_iff, decide_eq_true_eq, decide_eq_true_eq, List.length_append, List.length_singleton]; omega
    · rw [List.map_append]; exact HLS8.out
    · rcases h with h | h
      · exact HAW.out k h
      · omega
    · rcases h with h | h
      · exact h
      · omega

end Go.Proofs.Ytbknpflbafjblaa

/- The contract of the program's list of completions; conditions: stated in it. -/
namespace Go.Proofs.Ytbknpflbafjblaa
open Go.RowKit
set_option maxHeartbeats 2000000
set_option maxRecDepth 100000
set_option linter.unusedSimpArgs false
set_option linter.unusedVariables false

/-- the first completions and a code -/
noncomputable def cmpR (v : Int) (xs : List Blk) (most : Nat) : List (List Blk) × Int := if isSysB v xs = true then (if told v = true then (if misN v.toNat xs ≤ 12 then (cplL v.toNat xs most, 0) else ([], 3)) else ([], 5)) else ([], 1)
theorem cmpR_bad {v : Int} {xs : List Blk} {most : Nat} (h : isSysB v xs = false) : cmpR v xs most = ([], 1) := by simp [cmpR, h]
theorem cmpR_not {v : Int} {xs : List Blk} {most : Nat} (h : isSysB v xs = true) (ht : told v = false) : cmpR v xs most = ([], 5) := by simp [cmpR, h, ht]
theorem cmpR_many {v : Int} {xs : List Blk} {most : Nat} (h : isSysB v xs = true) (ht : told v = true) (hm : ¬ misN v.toNat xs ≤ 12) : cmpR v xs most = ([], 3) := by simp [cmpR, h, ht, hm]
theorem cmpR_yes {v : Int} {xs : List Blk} {most : Nat} (h : isSysB v xs = true) (ht : told v = true) (hm : misN v.toNat xs ≤ 12) : cmpR v xs most = (cplL v.toNat xs most, 0) := by simp [cmpR, h, ht, hm]
theorem told_nat {n : Nat} (h : told n = true) : n = 3 ∨ n = 7 ∨ n = 9 ∨ n = 13 ∨ n = 15 := by unfold told at h; simp only [decide_eq_true_eq] at h; omega
theorem mis_int {n : Nat} {xs : List Blk} (hs : isSys n xs) (ht : told n = true) : missN n xs.length = (misN n xs : Nat) := by
  have h := (mis_cnt hs (told_nat ht)).2
  unfold missN
  rcases told_nat ht with rfl | rfl | rfl | rfl | rfl <;> simp only [Nat.reduceMul, Nat.reduceSub, Nat.reduceDiv] at h <;> omega
theorem completions_any (v : Int) (A : Option Addr) (c : Nat) (xs : List Blk) (most : Nat) (w : World) (hA : Bl w A xs) (hl : xs.length ≤ 1048576) (hm0 : 0 < most) (hm1 : most ≤ 1073741824) :
    Calls Try.prog 103 #[.agg #[.int .i64 v, .slice A xs.length c], .int .i64 most] w fun e w' => ∃ A' c' S, e = .returned (.tuple #[.slice A' (cmpR v xs most).1.length c', .int .i64 (cmpR v xs most).2]) ∧ LSS S w' w.heap.size v.toNat (.slice A' (cmpR v xs most).1.length c') (cmpR v xs most).1 ∧ Below w.heap.size w w' := by
  have HW := Lib.hid (below_up (below_alloc w (.cells #[.int .i64 v, .slice A xs.length c] 30)) (below_alloc _ (.cells #[.int .i64 most] 3)))
  have HA := Lib.hid (hA.below HW.out); clear hA
  have HR := Lib.hid ((Row.box w 30 (.int .i64 v) (.slice A xs.length c)).below (below_alloc _ (.cells #[.int .i64 most] 3)))
  have HQ := Lib.hid (Row.new (w.alloc (.cells #[.int .i64 v, .slice A xs.length c] 30)) 3 #[.int .i64 most])
  rw [World.size_alloc] at HQ
  cases hs : isSysB v xs
  · have HN : Hid (cmpR v xs most = ([], 1)) := cmpR_bad hs
    generalize cmpR v xs most = R at *
    go_enter Try.func103, Try.ntmps103
    obtain ⟨c0, c1⟩ := HR.out.c2
    go_wp2_with fail
    refine (IsSystem_any v A c xs _ HA.out hl).mono ?_
    rw [hs]
    rintro e w1 ⟨rfl, hb⟩
    have HB1 := Lib.hid (below_up HW.out hb)
    clear hb
    go_wp2
    go_ret2
    exact ⟨none, 0, fun _ => False, by rw [HN.out]; rfl, by rw [HN.out]; exact LSS.nil _ _ _, HB1.out⟩
  · have HS := Lib.hid (isSysB_iff.1 hs)
    have hv := HS.out.1
    obtain ⟨n, rfl⟩ := Int.eq_ofNat_of_zero_le (by omega : 0 ≤ v)
    cases ht : told n
    · have HN : Hid (cmpR n xs most = ([], 5)) := cmpR_not hs ht
      generalize cmpR n xs most = R at *
      have HT := Lib.hid ht; clear ht
      go_enter Try.func103, Try.ntmps103
      obtain ⟨c0, c1⟩ := HR.out.c2
      go_wp2_with fail
      refine (IsSystem_any n A c xs _ HA.out hl).mono ?_
      rw [hs]
      rintro e w1 ⟨rfl, hb⟩
      have HB1 := Lib.hid (below_up HW.out hb)
      have HR1 := Lib.hid (HR.out.below hb)
      clear hb
      obtain ⟨c0, c1⟩ := HR1.out.c2
      go_wp2_with fail
      refine (missing_any n A c xs.length _ hv.1 hv.2 hl).mono ?_
      rw [HT.out]
      simp only [if_neg Bool.false_ne_true]
      rintro e w2 ⟨rfl, hb⟩
      have HB2 := Lib.hid (below_up HB1.out hb)
      clear hb
      go_wp2
      go_ret2
      exact ⟨none, 0, fun _ => False, by rw [HN.out]; rfl, by rw [HN.out]; exact LSS.nil _ _ _, HB2.out⟩
    · have HT := Lib.hid ht
      have HMI := Lib.hid (mis_int HS.out ht)
      by_cases hm12 : misN n xs ≤ 12
      · have HN : Hid (cmpR n xs most = (cplL n xs most, 0)) := cmpR_yes hs ht hm12
        have hln := cplL_len n xs most
        generalize cmpR n xs most = R at *
        clear ht
        generalize hmn : misN n xs = MN at *
        have HMN := Lib.hid hmn; clear hmn
        go_enter Try.func103, Try.ntmps103
        obtain ⟨c0, c1⟩ := HR.out.c2
        go_wp2_with fail
        refine (IsSystem_any n A c xs _ HA.out hl).mono ?_
        rw [hs]
        rintro e w1 ⟨rfl, hb⟩
        have HB1 := Lib.hid (below_up HW.out hb)
        have HR1 := Lib.hid (HR.out.below hb)
        have HQ1 := Lib.hid (Row.below HQ.out hb)
        have HA1 := Lib.hid (HA.out.below hb)
        clear hb
        obtain ⟨c0, c1⟩ := HR1.out.c2
        go_wp2_with fail
        refine (missing_any n A c xs.length _ hv.1 hv.2 hl).mono ?_
        rw [HT.out, HMI.out]
        simp only [if_true]
        rintro e w2 ⟨rfl, hb⟩
        have HB2 := Lib.hid (below_up HB1.out hb)
        have HR2 := Lib.hid (HR1.out.below hb)
        have HQ2 := Lib.hid (Row.below HQ1.out hb)
        have HA2 := Lib.hid (HA1.out.below hb)
        clear hb
        have hb3 := below_alloc w2 (.cells #[.slice none 0 0] 38)
        have HB3 := Lib.hid (below_up HB2.out hb3)
        have HR3 := Lib.hid (HR2.out.below hb3)
        have HQ3 := Lib.hid (Row.below HQ2.out hb3)
        have HA3 := Lib.hid (HA2.out.below hb3)
        have HU3 := Lib.hid (Row.new w2 38 #[.slice none 0 0])
        have HZ3 : Hid ((w2.alloc (.cells #[.slice none 0 0] 38)).heap.size = w2.heap.size + 1) := World.size_alloc _ _
        clear hb3 c0 c1
        obtain ⟨c0, c1⟩ := HR2.out.c2
        have hrl := HR2.out.lt
        have hql := Row.lt HQ2.out
        have hz2 := HB2.out.size
        go_wp2_with fail
        have hl35 := HS.out.2.1
        generalize hw3 : w2.alloc (.cells #[.slice none 0 0] 38) = w3 at *
        have hz3 := HZ3.out
        clear hw3 c0 c1
        have HINV : Hid (InvC w w3.heap.size w2.heap.size w.heap.size (w.heap.size + 1) n most A c xs [] (fun _ => False) w3) := ⟨HB3.out, Nat.le_refl _, HR3.out, ⟨(Row.cell HQ3.out 0).trans rfl, Row.lt HQ3.out⟩, ⟨_, HU3.out, LSS.nil _ _ _⟩, fun _ h => h.elim⟩
        refine (complete_any n A c xs 150 #[] #[.pointer (some ⟨w2.heap.size, 0, none⟩), .pointer (some ⟨w.heap.size, 0, none⟩), .pointer (some ⟨w.heap.size + 1, 0, none⟩)] (fun C => decide (C.length < most)) (InvC w w3.heap.size w2.heap.size w.heap.size (w.heap.size + 1) n most A c xs) (fun L => L.length ≤ 1048576) (addC n xs).length w3 HA3.out HS.out (told_nat HT.out) (fun M hM => by
          rw [List.length_append, add_len HS.out (told_nat HT.out) hM, HMN.out]; omega) (Nat.le_refl _) HINV.out (fun cb g _ _ => compCl_any w w3.heap.size w2.heap.size w.heap.size (w.heap.size + 1) n most A c xs (by omega) (by omega) (by omega) (by omega) (by omega) (by omega) hm1 (addC n xs).length cb g)).mono ?_
        rintro e w4 ⟨rfl, S', hI⟩
        obtain ⟨hb4, hz4, _, _, ⟨u, hu, hls⟩, _⟩ := hI
        rw [cplL_run hm0] at hls
        obtain ⟨A', c', rfl⟩ := hls.slice
        have HB4 := Lib.hid hb4; have HLS := Lib.hid (hls.base (by omega : w.heap.size ≤ w3.heap.size))
        have u0 : w4.cell? ⟨w2.heap.size, 0, none⟩ = some (.slice A' (cplL n xs most).length c') := (Row.cell hu 0).trans rfl
        have hul := Row.lt hu
        clear hb4 hls hu
        go_wp2
        go_ret2
        exact ⟨A', c', S', by rw [HN.out]; rfl, by rw [HN.out]; exact HLS.out, HB4.out⟩
      · have HN : Hid (cmpR n xs most = ([], 3)) := cmpR_many hs ht hm12
        generalize cmpR n xs most = R at *
        clear ht
        generalize hmn : misN n xs = MN at *
        have HMN := Lib.hid hmn; clear hmn
        have hgt : 12 < MN := by omega
        go_enter Try.func103, Try.ntmps103
        obtain ⟨c0, c1⟩ := HR.out.c2
        go_wp2_with fail
        refine (IsSystem_any n A c xs _ HA.out hl).mono ?_
        rw [hs]
        rintro e w1 ⟨rfl, hb⟩
        have HB1 := Lib.hid (below_up HW.out hb)
        have HR1 := Lib.hid (HR.out.below hb)
        clear hb
        obtain ⟨c0, c1⟩ := HR1.out.c2
        go_wp2_with fail
        refine (missing_any n A c xs.length _ hv.1 hv.2 hl).mono ?_
        rw [HT.out, HMI.out]
        simp only [if_true]
        rintro e w2 ⟨rfl, hb⟩
        have HB2 := Lib.hid (below_up HB1.out hb)
        clear hb
        go_wp2
        go_ret2
        exact ⟨none, 0, fun _ => False, by rw [HN.out]; rfl, by rw [HN.out]; exact LSS.nil _ _ _, HB2.out⟩

end Go.Proofs.Ytbknpflbafjblaa

/- Contracts of the reference's tables of pairs and of its codes of completions; conditions: stated in each. -/
namespace Go.Proofs.Ytbknpflbafjblaa
open Go.RowKit
set_option maxHeartbeats 2000000
set_option maxRecDepth 100000
set_option linter.unusedSimpArgs false
set_option linter.unusedVariables false

/-- the number of a pair, in any order -/
def prN (a b : Nat) : Nat := min a b * 16 + max a b
theorem prN_lt {a b : Nat} (h : a < b) : prN a b = a * 16 + b := by unfold prN; rw [Nat.min_eq_left (by omega), Nat.max_eq_right (by omega)]
theorem prN_gt {a b : Nat} (h : b < a) : prN a b = b * 16 + a := by unfold prN; rw [Nat.min_eq_right (by omega), Nat.max_eq_left (by omega)]
theorem l04Pair_any (a b : Nat) (w : World) (ha : a < 15) (hb : b < 15) :
    Calls Try.prog 171 #[.int .i64 (a : Int), .int .i64 (b : Int)] w fun e w' => e = .returned (.int .i64 (prN a b : Nat)) ∧ w = w' := by
  have HP : Hid (prN a b = min a b * 16 + max a b) := rfl
  generalize prN a b = R at *
  go_enter Try.func171, Try.ntmps171
  rcases Nat.lt_or_ge a b with h | h
  · go_wp2
    go_ret
    exact ⟨ret_int (by rw [HP.out, Nat.min_eq_left (by omega), Nat.max_eq_right (by omega)]; omega), rfl⟩
  · go_wp2
    go_ret
    exact ⟨ret_int (by rw [HP.out, Nat.min_eq_right (by omega), Nat.max_eq_left (by omega)]; omega), rfl⟩
theorem pair_lt {a b : Nat} (w : World) (h : a < b) (hb : b < 15) :
    Calls Try.prog 171 #[.int .i64 (a : Int), .int .i64 (b : Int)] w fun e w' => e = .returned (.int .i64 ((a * 16 + b : Nat) : Int)) ∧ w' = w := by
  have := l04Pair_any a b w (by omega) hb
  rw [prN_lt h] at this
  exact this.mono fun _ _ ⟨h1, h2⟩ => ⟨h1, h2.symm⟩
theorem pair_gt {a b : Nat} (w : World) (h : b < a) (ha : a < 15) :
    Calls Try.prog 171 #[.int .i64 (a : Int), .int .i64 (b : Int)] w fun e w' => e = .returned (.int .i64 ((b * 16 + a : Nat) : Int)) ∧ w' = w := by
  have := l04Pair_any a b w ha (by omega)
  rw [prN_gt h] at this
  exact this.mono fun _ _ ⟨h1, h2⟩ => ⟨h1, h2.symm⟩

theorem pair_is {a b r : Nat} (h : prN a b = r) (w : World) (ha : a < 15) (hb : b < 15) :
    Calls Try.prog 171 #[.int .i64 (a : Int), .int .i64 (b : Int)] w fun e w' => e = .returned (.int .i64 (r : Int)) ∧ w' = w :=
  (h ▸ l04Pair_any a b w ha hb).mono fun _ _ ⟨h1, h2⟩ => ⟨h1, h2.symm⟩

theorem l04Pairs_any (n : Nat) (A : Option Addr) (c : Nat) (xs : List Blk) (w : World) (hA : Bl w A xs) (hs : isSys n xs) :
    Calls Try.prog 147 #[.slice A xs.length c] w fun e w' => ∃ g, e = .returned (.slice (some ⟨g, 0, none⟩) 256 256) ∧ w.heap.size ≤ g ∧ Vb w' g 256 (fun i => (mskN xs xs.length).testBit i) ∧ Below w.heap.size w w' := by
  have HA := Lib.hid hA; clear hA
  have HS := Lib.hid hs
  have hl35 := hs.2.1
  have hv := hs.1
  clear hs
  have HV0 := Lib.hid (Vb.new w 256 (fun _ => false))
  have HB0 := Lib.hid (below_alloc w (.cells (bcells 256 (fun _ => false)) 4))
  go_enter Try.func147, Try.ntmps147
  go_wp2
  go_loopw [4] (fun i wr => ∃ k : Nat, k ≤ xs.length ∧ i = .int .i64 k ∧ Hid (Vb wr w.heap.size 256 (fun i => (mskN xs k).testBit i) ∧ Below w.heap.size w wr)) (fun i _ => xs.length - (intOf i).toNat)
  case atStart => exact ⟨0, by omega, rfl, HV0.out.ext (fun i _ => by simp [mskN]), HB0.out⟩
  case round =>
    obtain ⟨k, hk, rfl, HC⟩ := hrel
    by_cases hlt : k < xs.length
    · obtain ⟨x, y, z, hb, h1, h2, h3, e1, e2, e3⟩ := good_nat (HS.out.2.2.1 k hlt).1
      obtain ⟨b1, o1, hA1, hb1, p0, p1, p2⟩ := HA.out.at_ hlt
      subst hA1
      have HM : Hid (mskN xs (k + 1) = mskN xs k ||| prM x y z) := by unfold Hid; rw [mskN, e1, e2, e3]
      rw [hb] at p0 p1 p2
      simp only [blkN] at p0 p1 p2
      have HP := Lib.hid (And.intro p0 (And.intro p1 p2))
      clear e1 e2 e3 hb p0 p1 p2
      have hz15 : z < 15 := by omega
      obtain ⟨r1, hr1⟩ : ∃ r, r = x * 16 + y := ⟨_, rfl⟩
      obtain ⟨r2, hr2⟩ : ∃ r, r = x * 16 + z := ⟨_, rfl⟩
      obtain ⟨r3, hr3⟩ : ∃ r, r = y * 16 + z := ⟨_, rfl⟩
      have Hr1 : Hid (prN x y = r1) := by rw [hr1]; exact prN_lt h1
      have Hr2 : Hid (prN x z = r2) := by rw [hr2]; exact prN_lt (by omega)
      have Hr3 : Hid (prN y z = r3) := by rw [hr3]; exact prN_lt h2
      have HRR := Lib.hid (And.intro hr1 (And.intro hr2 hr3))
      have i1 : (r1 : Int) < 256 := by omega
      have i2 : (r2 : Int) < 256 := by omega
      have i3 : (r3 : Int) < 256 := by omega
      have j1 : r1 < 256 := by omega
      have j2 : r2 < 256 := by omega
      have j3 : r3 < 256 := by omega
      clear hr1 hr2 hr3
      have HV := Lib.hid HC.out.1
      have HB := Lib.hid HC.out.2
      clear HC
      have p0 := (HB.out.cell (p := ⟨b1, o1 + k * 3, none⟩) hb1).trans HP.out.1
      have p1 := (HB.out.cell (p := ⟨b1, o1 + k * 3 + 1, none⟩) hb1).trans HP.out.2.1
      have p2 := (HB.out.cell (p := ⟨b1, o1 + k * 3 + 2, none⟩) hb1).trans HP.out.2.2
      have hgl := HV.out.lt
      have hz1 := HB.out.size
      obtain ⟨t, q0⟩ : ∃ t, wr.cell? ⟨w.heap.size, r1, none⟩ = some t := ⟨_, HV.out.cell (by omega)⟩
      have f0 := HV.out.frozen r1
      go_wp2
      go_still_tail 12, (by kernel_rfl)
      still_call (pair_is Hr1.out _ (by omega) (by omega))
      (repeat still_step)
      refine wpStill_nil ?_
      change wpList _ _ _ _ _ wr.drew
      have HVw3 := Lib.hid ((HV.out.below (below_drew wr)).set r1 true)
      have HBw3 : Hid (Below w.heap.size w (wr.drew.setCell ⟨w.heap.size, r1, none⟩ (.bool true))) := HB.out.drew.setCell (Nat.le_refl _) _
      have q1 : wr.drew.cell? ⟨w.heap.size, r1, none⟩ = some t := q0
      have f1 : wr.drew.frozen? ⟨w.heap.size, r1, none⟩ = false := f0
      have hgl1 : w.heap.size < wr.drew.heap.size := hgl
      clear p0 p1 p2 q0 f0 hgl hz1
      generalize hwd : wr.drew = wd at *
      clear hwd
      go_wp2
      clear q1 f1 hgl1
      generalize wd.setCell ⟨w.heap.size, r1, none⟩ (.bool true) = w3 at *
      have p0 := (HBw3.out.cell (p := ⟨b1, o1 + k * 3, none⟩) hb1).trans HP.out.1
      have p1 := (HBw3.out.cell (p := ⟨b1, o1 + k * 3 + 1, none⟩) hb1).trans HP.out.2.1
      have p2 := (HBw3.out.cell (p := ⟨b1, o1 + k * 3 + 2, none⟩) hb1).trans HP.out.2.2
      have hgl := HVw3.out.lt
      have hz1 := HBw3.out.size
      obtain ⟨t, q0⟩ : ∃ t, w3.cell? ⟨w.heap.size, r2, none⟩ = some t := ⟨_, HVw3.out.cell (by omega)⟩
      have f0 := HVw3.out.frozen r2
      go_wp2
      go_still_tail 12, (by kernel_rfl)
      still_call (pair_is Hr2.out _ (by omega) (by omega))
      (repeat still_step)
      refine wpStill_nil ?_
      change wpList _ _ _ _ _ w3.drew
      have HVw4 := Lib.hid ((HVw3.out.below (below_drew w3)).set r2 true)
      have HBw4 : Hid (Below w.heap.size w (w3.drew.setCell ⟨w.heap.size, r2, none⟩ (.bool true))) := HBw3.out.drew.setCell (Nat.le_refl _) _
      have q1 : w3.drew.cell? ⟨w.heap.size, r2, none⟩ = some t := q0
      have f1 : w3.drew.frozen? ⟨w.heap.size, r2, none⟩ = false := f0
      have hgl1 : w.heap.size < w3.drew.heap.size := hgl
      clear p0 p1 p2 q0 f0 hgl hz1
      generalize hwd : w3.drew = wd at *
      clear hwd
      go_wp2
      clear q1 f1 hgl1
      generalize wd.setCell ⟨w.heap.size, r2, none⟩ (.bool true) = w4 at *
      have p0 := (HBw4.out.cell (p := ⟨b1, o1 + k * 3, none⟩) hb1).trans HP.out.1
      have p1 := (HBw4.out.cell (p := ⟨b1, o1 + k * 3 + 1, none⟩) hb1).trans HP.out.2.1
      have p2 := (HBw4.out.cell (p := ⟨b1, o1 + k * 3 + 2, none⟩) hb1).trans HP.out.2.2
      have hgl := HVw4.out.lt
      have hz1 := HBw4.out.size
      obtain ⟨t, q0⟩ : ∃ t, w4.cell? ⟨w.heap.size, r3, none⟩ = some t := ⟨_, HVw4.out.cell (by omega)⟩
      have f0 := HVw4.out.frozen r3
      go_wp2
      go_still_tail 12, (by kernel_rfl)
      still_call (pair_is Hr3.out _ (by omega) (by omega))
      (repeat still_step)
      refine wpStill_nil ?_
      change wpList _ _ _ _ _ w4.drew
      have HVw5 := Lib.hid ((HVw4.out.below (below_drew w4)).set r3 true)
      have HBw5 : Hid (Below w.heap.size w (w4.drew.setCell ⟨w.heap.size, r3, none⟩ (.bool true))) := HBw4.out.drew.setCell (Nat.le_refl _) _
      have q1 : w4.drew.cell? ⟨w.heap.size, r3, none⟩ = some t := q0
      have f1 : w4.drew.frozen? ⟨w.heap.size, r3, none⟩ = false := f0
      have hgl1 : w.heap.size < w4.drew.heap.size := hgl
      clear p0 p1 p2 q0 f0 hgl hz1
      generalize hwd : w4.drew = wd at *
      clear hwd
      go_wp2
      clear q1 f1 hgl1
      generalize wd.setCell ⟨w.heap.size, r3, none⟩ (.bool true) = w5 at *
      go_roundw
      case rel =>
        refine ⟨k + 1, by omega, by go_num, HVw5.out.ext fun i hi => ?_, HBw5.out⟩
        rw [HM.out, Nat.testBit_or, prM_bit, ← HRR.out.1, ← HRR.out.2.1, ← HRR.out.2.2]
        unfold updA
        by_cases g3 : i = r3
        · simp [g3]
        · by_cases g2 : i = r2
          · simp [g2]
          · by_cases g1 : i = r1
            · simp [g1]
            · simp [g1, g2, g3]
      case measure => simp [intOf]; omega
    · obtain rfl : k = xs.length := by omega
      go_wp2
      go_ret
      exact ⟨w.heap.size, rfl, Nat.le_refl _, HC.out.1, HC.out.2⟩

theorem l08Code_any (v : Int) (A : Option Addr) (c : Nat) (xs : List Blk) (most : Nat) (w : World) (hA : Bl w A xs) (hl : xs.length ≤ 1048576) :
    Calls Try.prog 101 #[.agg #[.int .i64 v, .slice A xs.length c]] w fun e w' => e = .returned (.int .i64 (cmpR v xs most).2) ∧ Below w.heap.size w w' := by
  cases hs : isSysB v xs
  · have HN : Hid (cmpR v xs most = ([], 1)) := cmpR_bad hs
    generalize cmpR v xs most = R at *
    have HA := Lib.hid hA; clear hA; have HR := Lib.hid (Row.box w 30 (.int .i64 v) (.slice A xs.length c)); have HW := Lib.hid (Since.refl w); go_enter Try.func101, Try.ntmps101; go_wp2_with fail; replace HA := Lib.hid (HA.out.below (below_alloc _ (.cells #[.int .i64 v, .slice A xs.length c] 30))); replace HW := Lib.hid (HW.out.below (below_alloc _ (.cells #[.int .i64 v, .slice A xs.length c] 30)))
    refine (l01Is_any v A c xs _ HA.out hl).mono ?_; rw [hs]; rintro e w_ ⟨rfl, hb⟩; replace HW := Lib.hid (HW.out.below hb); clear hb
    go_wp2
    go_ret
    exact ⟨by rw [HN.out]; rfl, HW.out⟩
  · have HS := Lib.hid (isSysB_iff.1 hs)
    have hv := HS.out.1
    obtain ⟨n, rfl⟩ := Int.eq_ofNat_of_zero_le (by omega : 0 ≤ v)
    cases ht : told n
    · have HN : Hid (cmpR n xs most = ([], 5)) := cmpR_not hs ht
      have HT := Lib.hid ht; clear ht
      generalize cmpR n xs most = R at *
      have HA := Lib.hid hA; clear hA; have HR := Lib.hid (Row.box w 30 (.int .i64 n) (.slice A xs.length c)); have HW := Lib.hid (Since.refl w); go_enter Try.func101, Try.ntmps101; go_wp2_with fail; replace HA := Lib.hid (HA.out.below (below_alloc _ (.cells #[.int .i64 n, .slice A xs.length c] 30))); replace HW := Lib.hid (HW.out.below (below_alloc _ (.cells #[.int .i64 n, .slice A xs.length c] 30)))
      refine (l01Is_any n A c xs _ HA.out hl).mono ?_; rw [hs]; rintro e w_ ⟨rfl, hb⟩; replace HA := Lib.hid (HA.out.below hb); replace HW := Lib.hid (HW.out.below hb); replace HR := Lib.hid (HR.out.below hb); clear hb; (try clear c0 c1); obtain ⟨c0, c1⟩ := HR.out.c2
      go_wp2_with fail
      refine (l08Missing_any n A c xs.length _ hv.1 hv.2 hl).mono ?_; rw [HT.out]; rintro e w_ ⟨rfl, hb⟩; replace HW := Lib.hid (HW.out.below hb); clear hb
      go_wp2
      go_ret
      exact ⟨by rw [HN.out]; rfl, HW.out⟩
    · have HMI := Lib.hid (mis_int HS.out ht)
      have HT := Lib.hid ht
      by_cases hm12 : misN n xs ≤ 12
      · have HN : Hid (cmpR n xs most = (cplL n xs most, 0)) := cmpR_yes hs ht hm12
        clear ht
        generalize cmpR n xs most = R at *
        generalize hmn : misN n xs = MN at *
        have HMN := Lib.hid hmn; clear hmn
        have HA := Lib.hid hA; clear hA; have HR := Lib.hid (Row.box w 30 (.int .i64 n) (.slice A xs.length c)); have HW := Lib.hid (Since.refl w); go_enter Try.func101, Try.ntmps101; go_wp2_with fail; replace HA := Lib.hid (HA.out.below (below_alloc _ (.cells #[.int .i64 n, .slice A xs.length c] 30))); replace HW := Lib.hid (HW.out.below (below_alloc _ (.cells #[.int .i64 n, .slice A xs.length c] 30)))
        refine (l01Is_any n A c xs _ HA.out hl).mono ?_; rw [hs]; rintro e w_ ⟨rfl, hb⟩; replace HA := Lib.hid (HA.out.below hb); replace HW := Lib.hid (HW.out.below hb); replace HR := Lib.hid (HR.out.below hb); clear hb; (try clear c0 c1); obtain ⟨c0, c1⟩ := HR.out.c2
        go_wp2_with fail
        refine (l08Missing_any n A c xs.length _ hv.1 hv.2 hl).mono ?_; rw [HT.out, HMI.out]; rintro e w_ ⟨rfl, hb⟩; replace HW := Lib.hid (HW.out.below hb); clear hb
        go_wp2
        go_ret
        exact ⟨by rw [HN.out]; rfl, HW.out⟩
      · have HN : Hid (cmpR n xs most = ([], 3)) := cmpR_many hs ht hm12
        clear ht
        generalize cmpR n xs most = R at *
        generalize hmn : misN n xs = MN at *
        have HMN := Lib.hid hmn; clear hmn
        have hgt : 12 < MN := by omega
        have HA := Lib.hid hA; clear hA; have HR := Lib.hid (Row.box w 30 (.int .i64 n) (.slice A xs.length c)); have HW := Lib.hid (Since.refl w); go_enter Try.func101, Try.ntmps101; go_wp2_with fail; replace HA := Lib.hid (HA.out.below (below_alloc _ (.cells #[.int .i64 n, .slice A xs.length c] 30))); replace HW := Lib.hid (HW.out.below (below_alloc _ (.cells #[.int .i64 n, .slice A xs.length c] 30)))
        refine (l01Is_any n A c xs _ HA.out hl).mono ?_; rw [hs]; rintro e w_ ⟨rfl, hb⟩; replace HA := Lib.hid (HA.out.below hb); replace HW := Lib.hid (HW.out.below hb); replace HR := Lib.hid (HR.out.below hb); clear hb; (try clear c0 c1); obtain ⟨c0, c1⟩ := HR.out.c2
        go_wp2_with fail
        refine (l08Missing_any n A c xs.length _ hv.1 hv.2 hl).mono ?_; rw [HT.out, HMI.out]; rintro e w_ ⟨rfl, hb⟩; replace HW := Lib.hid (HW.out.below hb); clear hb
        go_wp2
        go_ret
        exact ⟨by rw [HN.out]; rfl, HW.out⟩

end Go.Proofs.Ytbknpflbafjblaa

/- The contract of the reference's search for completions; conditions: stated in it. -/
namespace Go.Proofs.Ytbknpflbafjblaa
open Go.RowKit
set_option maxHeartbeats 40000000
set_option maxRecDepth 100000
set_option linter.unusedSimpArgs false
set_option linter.unusedVariables false

/-- what is kept -/
def kpL (keep : Bool) (C : List (List Blk)) : List (List Blk) := if keep then C else []
theorem pair_qu {a b r : Nat} (h : prN a b = r) (w : World) (ha : a < 15) (hb : b < 15) :
    Calls Try.prog 171 #[.int .i64 (a : Int), .int .i64 (b : Int)] w fun e w' => e = .returned (.int .i64 (r : Int)) ∧ w = w' := h ▸ l04Pair_any a b w ha hb
theorem go8_zero (n s g base most : Nat) (keep : Bool) (hn : n ≤ 15) (hmost : most ≤ 1000000000) (hbs : base ≤ s) (hbg : base ≤ g) (m : Nat) (L : List Blk) (C : List (List Blk)) (u un : Value) (b0 : Nat) (w : World) (hc : cntC n m = 0) (hL : L.length ≤ 1000) (hC : C.length < most)
    (hS : Sk w s n g C.length most keep u) (hG : Vb w g 256 (fun i => m.testBit i)) (hu : LBq w base u (kpL keep C)) (hO : OB w b0 un L) (hb : base ≤ w.heap.size) :
    Calls Try.prog 148 #[.pointer (some ⟨s, 0, none⟩), un] w fun e w' => ∃ u', e = .returned (.tuple #[]) ∧ Sk w' s n g (C ++ [L]).length most keep u' ∧ Vb w' g 256 (fun i => m.testBit i) ∧ LBq w' base u' (kpL keep (C ++ [L])) ∧ Gk w w' s g u u' := by
  have HS := Lib.hid hS; have HG := Lib.hid hG; have HU := Lib.hid hu; have HO := Lib.hid hO
  have HNX : Hid (∀ j, j < 256 → frK n m j = false) := fun j hj => nxt_min (by rw [cntC_zero.1 hc]; exact hj)
  have HNE : Hid (s ≠ g) := fun e => by
    have h1 : Row w s _ _ := hS
    have h2 : Row w g _ _ := hG
    rw [← e] at h2
    unfold Row at h1 h2
    rw [h1] at h2
    simp at h2
  clear hS hG hu hO hc
  obtain ⟨A, c, rfl⟩ := own_slice HO.out
  go_enter Try.func148, Try.ntmps148
  go_wp2
  go_loopw [4, 6] (fun a p wr => ∃ k : Nat, k ≤ n ∧ a = .int .i64 (-1) ∧ p = .int .i64 k ∧ Hid (Below w.heap.size w wr)) (fun _ p _ => n - (intOf p).toNat)
  case atStart => exact ⟨0, by omega, rfl, rfl, Below.refl _ _⟩
  case round =>
    obtain ⟨k, hk, rfl, rfl, HB⟩ := hrel
    obtain ⟨c0, c1, c2, c3, c4, c5⟩ := (HS.out.below HB.out).c6
    have hsl := (HS.out.below HB.out).lt
    by_cases hkn : k < n
    · go_wp2
      clear c0 c1 c2 c3 c4 c5 hsl
      obtain ⟨wo, rfl⟩ : ∃ wo : World, wo = wr := ⟨_, rfl⟩
      go_loopw [4, 7] (fun a q wr => ∃ j : Nat, k + 1 ≤ j ∧ j ≤ n ∧ a = .int .i64 (-1) ∧ q = .int .i64 j ∧ Hid (Below w.heap.size w wr)) (fun _ q _ => n - (intOf q).toNat)
      case atStart => exact ⟨k + 1, by omega, by omega, rfl, by go_num, HB.out⟩
      case round =>
        obtain ⟨j, hj1, hj2, rfl, rfl, HD⟩ := hrel
        obtain ⟨c0, c1, c2, c3, c4, c5⟩ := (HS.out.below HD.out).c6
        have hsl := (HS.out.below HD.out).lt
        by_cases hjn : j < n
        · obtain ⟨r, hr⟩ : ∃ r, r = k * 16 + j := ⟨_, rfl⟩
          have HR : Hid (prN k j = r) := by rw [hr]; exact prN_lt (by omega)
          have hr256 : r < 256 := by omega
          have i1 : (r : Int) < 256 := by omega
          have q0 := (HG.out.below HD.out).cell (i := r) hr256
          have hgl := (HG.out.below HD.out).lt
          have hbit : m.testBit r = true := by
            have := HNX.out r hr256
            rw [hr, ← Bool.not_eq_true, fr_iff (by omega)] at this
            rw [hr]
            cases hh : m.testBit (k * 16 + j)
            · exact absurd ⟨by omega, hjn, hh⟩ this
            · rfl
          rw [hbit] at q0
          clear hr hbit
          go_wp2
          go_quiet ((go_at_call 171; exact quiet_same (pair_qu HR.out _ (by omega) (by omega))))
          go_wp2
          go_roundw
          case rel => exact ⟨j + 1, by omega, by omega, rfl, by go_num, below_drewN HD.out _⟩
          case measure => simp [intOf]; omega
        · obtain rfl : j = n := by omega
          go_wp2
          go_roundw
          case rel => exact ⟨k + 1, by omega, rfl, by go_num, HD.out⟩
          case measure => simp [intOf]; omega
    · obtain rfl : k = n := by omega
      have f2 := (HS.out.below HB.out).frozen 2
      have f5 := (HS.out.below HB.out).frozen 5
      cases keep
      · go_wp2
        refine bodyPost_ret (results_none rfl _ _ _) rfl ?_
        have hlen : (C ++ [L]).length = C.length + 1 := by simp
        refine ⟨_, rfl, by rw [hlen]; exact (HS.out.below HB.out).incr, (HG.out.below HB.out).far (fun e => ?_) _, (HU.out.below HB.out).kept (grown_set (grown_refl wr (some s)) 2 _) ⟨_, HS.out.below HB.out⟩ (by decide) (by decide), ((Gk.refl w s g u).below HB.out).grown (grown_set (grown_refl wr (some s)) 2 _) (.inr (.inl rfl)) (.inl rfl)⟩
        exact HNE.out e
      · obtain ⟨li0, hli, hli0, hli1, hli2⟩ := info_parts infoBlks'
        have HUw : Hid (LBq wr base u C) := HU.out.below HB.out
        obtain ⟨Au, cu, rfl⟩ := HUw.out.slice
        have HS0 : Hid (Sk wr s k g C.length most true (.slice Au C.length cu)) := HS.out.below HB.out
        have HS1 := Lib.hid (HS0.out.incr)
        have HG1 : Hid (Vb (wr.setCell ⟨s, 2, none⟩ (.int .i64 ((C.length : Int) + 1))) g 256 (fun i => m.testBit i)) := (HG.out.below HB.out).far HNE.out _
        have HU1 := Lib.hid (HUw.out.kept (grown_set (grown_refl wr (some s)) 2 (.int .i64 ((C.length : Int) + 1))) ⟨_, HS0.out⟩ (by decide) (by decide))
        have HO1 : Hid (OB (wr.setCell ⟨s, 2, none⟩ (.int .i64 ((C.length : Int) + 1))) b0 (.slice A L.length c) L) := World.ownsRow.kept (HO.out.below HB.out) (grown_set (grown_refl wr (some s)) 2 _) (.inr (own_typed (HO.out.below HB.out) ⟨_, HS0.out⟩ (by decide)))
        have HK1 : Hid (Gk w (wr.setCell ⟨s, 2, none⟩ (.int .i64 ((C.length : Int) + 1))) s g (.slice Au C.length cu) (.slice Au C.length cu)) := ((Gk.refl w s g _).below HB.out).grown (grown_set (grown_refl wr (some s)) 2 _) (.inr (.inl rfl)) (.inl rfl)
        have HZ1 : Hid (base ≤ (wr.setCell ⟨s, 2, none⟩ (.int .i64 ((C.length : Int) + 1))).heap.size) := by have := HB.out.size; unfold Hid; simp [World.setCell]; omega
        go_wp2
        clear c0 c1 c2 c3 c4 c5 f2 f5 hsl
        generalize hw1 : wr.setCell ⟨s, 2, none⟩ (.int .i64 ((C.length : Int) + 1)) = w1 at *
        clear hw1
        obtain ⟨c0, c1, c2, c3, c4, c5⟩ := HS1.out.c6
        refine wp_region_noPanic ?_
        refine AnyBut.begin (N := 12) (S := (fun w' => w'.cell? ⟨s, 0, none⟩ = some (.int .i64 k) ∧ w'.cell? ⟨s, 5, none⟩ = some (.slice Au C.length cu))) (by kernel_rfl) ?_
        have hS0 : (fun w' => w'.cell? ⟨s, 0, none⟩ = some (.int .i64 k) ∧ w'.cell? ⟨s, 5, none⟩ = some (.slice Au C.length cu)) w1.drew := ⟨c0, c5⟩
        refine AnyBut.take (i := 0) (v := ?_) rfl rfl (by decide) (by kernel_rfl) (by kernel_rfl) (by kernel_rfl) (by kernel_rfl) (fun _ _ _ h => h) (Or.inl ⟨by rfl, ?_⟩) hS0 ?_; rotate_left; (focus (intro W hSw; (try dsimp only at hSw); obtain ⟨z0, z1⟩ := hSw; go_simp; (try with_reducible rfl))); (try simp only [Act.put, List.setIfInBounds_toArray, List.set_cons_zero, List.set_cons_succ]); refine AnyBut.take (i := 1) (v := ?_) rfl rfl (by decide) (by kernel_rfl) (by kernel_rfl) (by kernel_rfl) (by kernel_rfl) (fun _ _ _ h => h) (Or.inl ⟨by rfl, ?_⟩) hS0 ?_; rotate_left; (focus (intro W hSw; (try dsimp only at hSw); obtain ⟨z0, z1⟩ := hSw; go_simp; (try with_reducible rfl))); (try simp only [Act.put, List.setIfInBounds_toArray, List.set_cons_zero, List.set_cons_succ]); refine AnyBut.take (i := 2) (v := ?_) rfl rfl (by decide) (by kernel_rfl) (by kernel_rfl) (by kernel_rfl) (by kernel_rfl) (fun _ _ _ h => h) (Or.inl ⟨by rfl, ?_⟩) hS0 ?_; rotate_left; (focus (intro W hSw; (try dsimp only at hSw); obtain ⟨z0, z1⟩ := hSw; go_simp; (try with_reducible rfl))); (try simp only [Act.put, List.setIfInBounds_toArray, List.set_cons_zero, List.set_cons_succ]); refine AnyBut.take (i := 3) (v := ?_) rfl rfl (by decide) (by kernel_rfl) (by kernel_rfl) (by kernel_rfl) (by kernel_rfl) (fun _ _ _ h => h) (Or.inl ⟨by rfl, ?_⟩) hS0 ?_; rotate_left; (focus (intro W hSw; (try dsimp only at hSw); obtain ⟨z0, z1⟩ := hSw; go_simp; (try with_reducible rfl))); (try simp only [Act.put, List.setIfInBounds_toArray, List.set_cons_zero, List.set_cons_succ]); refine AnyBut.take (i := 4) (v := ?_) rfl rfl (by decide) (by kernel_rfl) (by kernel_rfl) (by kernel_rfl) (by kernel_rfl) (fun _ _ _ h => h) (Or.inl ⟨by rfl, ?_⟩) hS0 ?_; rotate_left; (focus (intro W hSw; (try dsimp only at hSw); obtain ⟨z0, z1⟩ := hSw; go_simp; (try with_reducible rfl))); (try simp only [Act.put, List.setIfInBounds_toArray, List.set_cons_zero, List.set_cons_succ]); refine AnyBut.take (i := 6) (v := ?_) rfl rfl (by decide) (by kernel_rfl) (by kernel_rfl) (by kernel_rfl) (by kernel_rfl) (fun _ _ _ h => h) (Or.inl ⟨by rfl, ?_⟩) hS0 ?_; rotate_left; (focus (intro W hSw; (try dsimp only at hSw); obtain ⟨z0, z1⟩ := hSw; go_simp; (try with_reducible rfl))); (try simp only [Act.put, List.setIfInBounds_toArray, List.set_cons_zero, List.set_cons_succ])
        have HSd := Lib.hid (HS1.out.below (below_drew w1)); have HUd := Lib.hid (HU1.out.below (below_drew w1)); have HGd := Lib.hid (HG1.out.below (below_drew w1)); have HOd := Lib.hid (HO1.out.below (below_drew w1))
        have HKd := Lib.hid (HK1.out.below (below_drew w1))
        have HZd : Hid (base ≤ w1.drew.heap.size) := HZ1.out
        have HSX : Hid (∀ w', Below w1.drew.heap.size w1.drew w' → w'.cell? ⟨s, 0, none⟩ = some (.int .i64 k) ∧ w'.cell? ⟨s, 5, none⟩ = some (.slice Au C.length cu)) := fun w' hb => ⟨(HSd.out.below hb).c6.1, (HSd.out.below hb).c6.2.2.2.2.2⟩
        clear hS0 c0 c1 c2 c3 c4 c5
        generalize w1.drew = w2 at *
        refine AnyBut.ready (rs := [5]) (by kernel_rfl) (by simp) ?_; refine AllBut.cons rfl (fun K hK => ?_) AllBut.nil
        go_simp
        refine hK.out _ _ (fun _ => HSX.out _ (below_alloc w2 _)) ?_
        clear hK K
        (try simp only [Act.put, List.setIfInBounds_toArray, List.set_cons_zero, List.set_cons_succ])
        refine AnyBut.ready (rs := [7]) (by kernel_rfl) (by simp) ?_; refine AllBut.cons rfl (fun K hK => ?_) AllBut.nil
        have HEa : Hid (OB (w2.alloc (.cells #[] 99)) w2.heap.size (.slice (some ⟨w2.heap.size, 0, none⟩) 0 0) []) := own_empty _ _ _
        refine step_append_blk _ (by rfl) _ _ (by rfl) w2.heap.size _ (by rfl) [] HEa.out A c L (by rfl) (OB.bl (HOd.out.below (below_alloc w2 _))) (by simp) (by omega) (by simp) ?_
        intro v3 w3 hO3 hg3 hat3
        rw [List.nil_append] at hO3
        have HB3 : Hid (Below w2.heap.size w2 w3) := (below_alloc w2 _).grown hg3 (by simp) (own_block HEa.out)
        obtain ⟨A3, c3, rfl⟩ := own_slice hO3
        have HO3 : Hid (OB w3 base (.slice A3 L.length c3) L) := OB.base hO3 HZd.out
        clear hO3 hg3 hat3
        refine hK.out _ _ (fun _ => HSX.out _ HB3.out) ?_
        clear hK K
        (try simp only [Act.put, List.setIfInBounds_toArray, List.set_cons_zero, List.set_cons_succ])
        refine AnyBut.ready (rs := [8]) (by kernel_rfl) (by simp) ?_; refine AllBut.cons rfl (fun K hK => ?_) AllBut.nil
        go_simp
        refine hK.out _ _ (fun _ => HSX.out _ (below_up HB3.out (below_alloc w3 _))) ?_
        clear hK K
        (try simp only [Act.put, List.setIfInBounds_toArray, List.set_cons_zero, List.set_cons_succ])
        refine AnyBut.ready (rs := [9]) (by kernel_rfl) (by simp) ?_; refine AllBut.cons rfl (fun K hK => ?_) AllBut.nil
        obtain ⟨vs, hvo, hpush⟩ := (HUd.out.below HB3.out).push
        have HVO := Lib.hid hvo; have HPUSH := Lib.hid hpush
        clear hvo hpush
        have hz3 := HB3.out.size
        have hz4 := HZd.out
        refine step_append_lies _ (by rfl) _ _ 109 (by rfl) base 28 li0 (.slice none 0 0) 1 24 Try.underlying109 hli hli0 hli1 hli2 rfl (by decide) _ _ _ (by rfl) (HVO.out.alloc _) ⟨w3.heap.size, 0, none⟩ 1 1 [.slice A3 L.length c3] (by rfl) rfl (cells_new _ _ _) (by simp [Value.oneCell']) (by omega) (by unfold maxLen; omega) (by omega) (by simp; omega) (w3.heap.size + 1) (by simp) ?_
        intro g7 cap7 w7 hO7 hg7 hat7 hlt7
        have HU7 := Lib.hid (HPUSH.out w3 w7 _ _ L (Below.refl _ _) HO3.out _ (below_alloc w3 _) hg7 hO7)
        have HGR7 : Hid (w2.grownBy w7 (Value.slice Au C.length cu).ownBlock) := grown_trans (grown_below (below_up HB3.out (below_alloc w3 _)) _) hg7
        have HAT7 : Hid ((Value.slice (some ⟨g7, 0, none⟩) (C.length + 1) cap7).ownBlock = (Value.slice Au C.length cu).ownBlock ∨ ∃ q, (Value.slice (some ⟨g7, 0, none⟩) (C.length + 1) cap7).ownBlock = some q ∧ w2.heap.size ≤ q) := by
          rcases hat7 with h | h
          · exact .inl h.symm
          · exact .inr ⟨g7, rfl, by omega⟩
        clear hO7 hg7 hat7
        obtain ⟨vs2, hvo2, _⟩ := HUd.out
        have HNS : Hid ((Value.slice Au C.length cu).ownBlock ≠ some s ∧ (Value.slice Au C.length cu).ownBlock ≠ some g) := ⟨own_typed hvo2 ⟨_, HSd.out⟩ (by decide), own_typed hvo2 ⟨_, HGd.out⟩ (by decide)⟩
        clear hvo2
        have HS7 := Lib.hid (HSd.out.grown HGR7.out HNS.out.1)
        refine hK.out _ _ (fun _ => ⟨HS7.out.c6.1, HS7.out.c6.2.2.2.2.2⟩) ?_
        clear hK K
        obtain ⟨c0, c1, c2, c3, c4, c5⟩ := HS7.out.c6
        have f5 := HS7.out.frozen 5
        have hsl := HS7.out.lt
        (try simp only [Act.put, List.setIfInBounds_toArray, List.set_cons_zero, List.set_cons_succ])
        refine AnyBut.ready (rs := [10]) (by kernel_rfl) (by simp) ?_; refine AllBut.cons rfl (fun K hK => ?_) AllBut.nil
        go_simp
        refine hK.out _ _ (fun _ => ⟨HS7.out.c6.1, HS7.out.c6.2.2.2.2.2⟩) ?_
        clear hK K
        (try simp only [Act.put, List.setIfInBounds_toArray, List.set_cons_zero, List.set_cons_succ])
        refine AnyBut.ready (rs := [11]) (by kernel_rfl) (by simp) ?_; refine AllBut.cons rfl (fun K hK => ?_) AllBut.nil
        go_simp
        refine hK.out _ _ (fun _ => ⟨HS7.out.c6.1, HS7.out.c6.2.2.2.2.2⟩) ?_
        clear hK K
        (try simp only [Act.put, List.setIfInBounds_toArray, List.set_cons_zero, List.set_cons_succ])
        refine AnyBut.ready (rs := [12]) (by kernel_rfl) (by simp) ?_; refine AllBut.cons rfl (fun K hK => ?_) AllBut.nil
        go_simp
        refine hK.out _ _ (fun h => absurd rfl h) ?_
        clear hK K
        (try simp only [Act.put, List.setIfInBounds_toArray, List.set_cons_zero, List.set_cons_succ])
        refine AnyBut.done (by kernel_rfl) ?_ _
        refine NoPanic.normal ?_
        have HU8 : Hid (LBq (w7.setCell ⟨s, 5, none⟩ (.slice (some ⟨g7, 0, none⟩) (C.length + 1) cap7)) base (.slice (some ⟨g7, 0, none⟩) (C.length + 1) cap7) (C ++ [L])) := HU7.out.kept (grown_set (grown_refl w7 (some s)) 5 _) ⟨_, HS7.out⟩ (by decide) (by decide)
        have HS8 : Hid (Sk (w7.setCell ⟨s, 5, none⟩ (.slice (some ⟨g7, 0, none⟩) (C.length + 1) cap7)) s k g (C.length + 1) most true (.slice (some ⟨g7, 0, none⟩) (C.length + 1) cap7)) := HS7.out.found _
        have HG8 : Hid (Vb (w7.setCell ⟨s, 5, none⟩ (.slice (some ⟨g7, 0, none⟩) (C.length + 1) cap7)) g 256 (fun i => m.testBit i)) := (HGd.out.grown HGR7.out HNS.out.2).far HNE.out _
        have HK8 : Hid (Gk w (w7.setCell ⟨s, 5, none⟩ (.slice (some ⟨g7, 0, none⟩) (C.length + 1) cap7)) s g (.slice Au C.length cu) (.slice (some ⟨g7, 0, none⟩) (C.length + 1) cap7)) := (HKd.out.grown HGR7.out (.inr (.inr (.inr rfl))) HAT7.out).grown (grown_set (grown_refl w7 (some s)) 5 _) (.inr (.inl rfl)) (.inl rfl)
        have hlen : (C ++ [L]).length = C.length + 1 := by simp
        go_wp2
        refine bodyPost_ret (results_none rfl _ _ _) rfl ?_
        exact ⟨_, rfl, by rw [hlen]; exact HS8.out, HG8.out, HU8.out, HK8.out⟩

theorem blkN_is (a b k : Nat) (w : World) (hab : a < b) (hbk : b < k) (hk : k < 15) :
    Calls Try.prog 172 #[.int .i64 (a : Int), .int .i64 (b : Int), .int .i64 (k : Int)] w fun e w' => e = .returned (.agg #[.int .i64 (a : Int), .int .i64 (b : Int), .int .i64 (k : Int)]) ∧ Below w.heap.size w w' := by
  have HE : Hid (∀ x y z : Int, x = a → y = b → z = k → Ending.returned (.agg #[.int .i64 x, .int .i64 y, .int .i64 z]) = Ending.returned (.agg #[.int .i64 (a : Int), .int .i64 (b : Int), .int .i64 (k : Int)])) := fun x y z h1 h2 h3 => by rw [h1, h2, h3]
  go_enter Try.func172, Try.ntmps172
  go_wp2
  all_goals go_returns
  all_goals (refine ⟨HE.out _ _ _ ?_ ?_ ?_, below_alloc _ _⟩ <;> omega)

/-- what holds on the way through the rounds -/
structure P8 (w W : World) (s n g base most b0 : Nat) (keep : Bool) (u : Value) (A : Option Addr) (c : Nat) (L : List Blk) (F : Nat → Bool) (C : List (List Blk)) (u' : Value) : Prop where
  sk : Sk W s n g C.length most keep u'
  vb : Vb W g 256 F
  lb : LBq W base u' (kpL keep C)
  ob : OB W b0 (.slice A L.length c) L
  gk : Gk w W s g u u'
theorem P8.below {w W W' : World} {s n g base most b0 c : Nat} {keep : Bool} {u u' : Value} {A : Option Addr} {L : List Blk} {F : Nat → Bool} {C : List (List Blk)} (h : P8 w W s n g base most b0 keep u A c L F C u') (hb : Below W.heap.size W W') : P8 w W' s n g base most b0 keep u A c L F C u' :=
  ⟨h.sk.below hb, h.vb.below hb, h.lb.below hb, h.ob.below hb, h.gk.below hb⟩
theorem P8.set {w W : World} {s n g base most b0 c : Nat} {keep : Bool} {u u' : Value} {A : Option Addr} {L : List Blk} {F : Nat → Bool} {C : List (List Blk)} (h : P8 w W s n g base most b0 keep u A c L F C u') (hne : s ≠ g) (r : Nat) (v : Bool) : P8 w (W.setCell ⟨g, r, none⟩ (.bool v)) s n g base most b0 keep u A c L (updA F r v) C u' := by
  have hg := grown_set (grown_refl W (some g)) r (.bool v)
  exact ⟨h.sk.far (Ne.symm hne) _, h.vb.set r v, h.lb.kept hg ⟨_, h.vb⟩ (by decide) (by decide), World.ownsRow.kept h.ob hg (.inr (own_typed h.ob ⟨_, h.vb⟩ (by decide))), h.gk.grown hg (.inr (.inr (.inl rfl))) (.inl rfl)⟩
theorem P8.ext {w W : World} {s n g base most b0 c : Nat} {keep : Bool} {u u' : Value} {A : Option Addr} {L : List Blk} {F G : Nat → Bool} {C : List (List Blk)} (h : P8 w W s n g base most b0 keep u A c L F C u') (e : ∀ i, i < 256 → F i = G i) : P8 w W s n g base most b0 keep u A c L G C u' := ⟨h.sk, h.vb.ext e, h.lb, h.ob, h.gk⟩
theorem used_before {n m a b k : Nat} (hn : n ≤ 15) (hlow : ∀ j, j < a * 16 + b → frK n m j = false) (hab : a < b) (hb : b < n) (hk : k < n) (hka : k ≠ a) (hkb : k < b) : m.testBit (prN a k) = true := by
  rcases Nat.lt_or_ge k a with h | h
  · have := hlow (k * 16 + a) (by omega)
    rw [← Bool.not_eq_true, fr_iff (by omega)] at this
    rw [prN_gt h]
    cases hh : m.testBit (k * 16 + a)
    · exact absurd ⟨h, by omega, hh⟩ this
    · rfl
  · have := hlow (a * 16 + k) (by omega)
    rw [← Bool.not_eq_true, fr_iff (by omega)] at this
    rw [prN_lt (by omega)]
    cases hh : m.testBit (a * 16 + k)
    · exact absurd ⟨by omega, by omega, hh⟩ this
    · rfl

theorem l08Go_any (n s g base most : Nat) (keep : Bool) (hn : n ≤ 15) (hmost : most ≤ 1000000000) (hbs : base ≤ s) (hbg : base ≤ g) : ∀ (d m : Nat) (L : List Blk) (C : List (List Blk)) (u un : Value) (b0 : Nat) (w : World), cntC n m = 3 * d → L.length + d ≤ 1000 → C.length < most →
    Sk w s n g C.length most keep u → Vb w g 256 (fun i => m.testBit i) → LBq w base u (kpL keep C) → OB w b0 un L → base ≤ w.heap.size →
    Calls Try.prog 148 #[.pointer (some ⟨s, 0, none⟩), un] w fun e w' => ∃ u', e = .returned (.tuple #[]) ∧ Sk w' s n g (takeG C most (enumC n d m L)).length most keep u' ∧ Vb w' g 256 (fun i => m.testBit i) ∧ LBq w' base u' (kpL keep (takeG C most (enumC n d m L))) ∧ Gk w w' s g u u' := by
  intro d
  induction d with
  | zero =>
    intro m L C u un b0 w hc hL hC hS hG hu hO hb
    have := go8_zero n s g base most keep hn hmost hbs hbg m L C u un b0 w (by omega) (by omega) hC hS hG hu hO hb
    rw [enumC, takeG_one hC]
    exact this
  | succ d ih =>
    intro m L C u un b0 w hc hL hC hS hG hu hO hb
    have HIH := Lib.hid ih; clear ih
    have hlt : nxt n m < 256 := by
      have := nxt_le n m
      by_cases e : nxt n m = 256
      · have := cntC_zero.2 e; omega
      · omega
    obtain ⟨a, b, hnx, hab, hbn, hbit⟩ := nxt_ab hn hlt
    have HLOW : Hid (∀ j, j < a * 16 + b → frK n m j = false) := fun j hj => nxt_min (by omega)
    have HEN : Hid (enumC n (d + 1) m L = loopG (fun p => enumC n d (m ||| prM a b p) (L ++ [blkN a b p])) (fun p => fitQ3 m a b p) (b + 1) n) := enumC_succ d L (by omega) hnx
    have HST : Hid (∀ i, loopG (fun p => enumC n d (m ||| prM a b p) (L ++ [blkN a b p])) (fun p => fitQ3 m a b p) (b + 1) (i + 1) = loopG (fun p => enumC n d (m ||| prM a b p) (L ++ [blkN a b p])) (fun p => fitQ3 m a b p) (b + 1) i ++ (if b + 1 ≤ i ∧ fitQ3 m a b i = true then enumC n d (m ||| prM a b i) (L ++ [blkN a b i]) else [])) := fun i => rfl
    have HSTOP : Hid (∀ k, most ≤ (takeG C most (loopG (fun p => enumC n d (m ||| prM a b p) (L ++ [blkN a b p])) (fun p => fitQ3 m a b p) (b + 1) k)).length → k ≤ n → takeG C most (loopG (fun p => enumC n d (m ||| prM a b p) (L ++ [blkN a b p])) (fun p => fitQ3 m a b p) (b + 1) n) = takeG C most (loopG (fun p => enumC n d (m ||| prM a b p) (L ++ [blkN a b p])) (fun p => fitQ3 m a b p) (b + 1) k)) := fun k h hk => takeG_stop rfl h n hk
    have HZ : Hid (loopG (fun p => enumC n d (m ||| prM a b p) (L ++ [blkN a b p])) (fun p => fitQ3 m a b p) (b + 1) 0 = []) := rfl
    have HCNT : Hid (∀ p, b + 1 ≤ p → p < n → fitQ3 m a b p = true → cntC n (m ||| prM a b p) = 3 * d) := fun p h1 h2 h3 => by have := cntC_put hn hab h1 h2 h3; omega
    have HNE : Hid (s ≠ g) := fun e => by
      have h1 : Row w s _ _ := hS
      have h2 : Row w g _ _ := hG
      rw [← e] at h2
      unfold Row at h1 h2
      rw [h1] at h2
      simp at h2
    obtain ⟨A, c, rfl⟩ := own_slice hO
    have HP0 : Hid (P8 w w s n g base most b0 keep u A c L (fun i => m.testBit i) C u) := ⟨hS, hG, hu, hO, Gk.refl _ _ _ _⟩
    have HLT := Lib.hid hlt; have HNX := Lib.hid hnx; have HBIT := Lib.hid hbit
    clear hS hG hu hO hc hlt hnx hbit
    generalize loopG (fun p => enumC n d (m ||| prM a b p) (L ++ [blkN a b p])) (fun p => fitQ3 m a b p) (b + 1) = SQ at *
    go_enter Try.func148, Try.ntmps148
    go_wp2
    go_loopw [4, 5, 6] (fun x y p wr => ∃ k : Nat, k ≤ n ∧ p = .int .i64 k ∧ (x = .int .i64 (-1) ∧ Hid (∀ j, j < k * 16 → frK n m j = false) ∨ x = .int .i64 a ∧ y = .int .i64 b ∧ k = a + 1) ∧ Hid (Below w.heap.size w wr)) (fun _ _ p _ => n - (intOf p).toNat)
    case atStart => exact ⟨0, by omega, rfl, .inl ⟨rfl, fun j hj => by omega⟩, Below.refl _ _⟩
    case round =>
      obtain ⟨k, hk, rfl, hxy, HB⟩ := hrel
      obtain ⟨c0, c1, c2, c3, c4, c5⟩ := (HP0.out.below HB.out).sk.c6
      have hsl := (HP0.out.below HB.out).sk.lt
      rcases hxy with ⟨rfl, HK⟩ | ⟨rfl, rfl, hka1⟩
      · have hkn : k < n := by
          by_cases e : k = n
          · subst e; have := fr_end hn HK.out; have := HLT.out; omega
          · omega
        go_wp2
        clear c0 c1 c2 c3 c4 c5 hsl
        obtain ⟨wo, rfl⟩ : ∃ wo : World, wo = wr := ⟨_, rfl⟩
        go_loopw [4, 5, 7] (fun x y q wr => ∃ j : Nat, k + 1 ≤ j ∧ j ≤ n ∧ x = .int .i64 (-1) ∧ q = .int .i64 j ∧ Hid (Below w.heap.size w wr ∧ ∀ i, i < k * 16 + j → frK n m i = false)) (fun _ _ q _ => n - (intOf q).toNat)
        case atStart => exact ⟨k + 1, by omega, by omega, rfl, by go_num, HB.out, fr_row HK.out⟩
        case round =>
          obtain ⟨j, hj1, hj2, rfl, rfl, HD⟩ := hrel
          have hPw := HP0.out.below HD.out.1
          obtain ⟨c0, c1, c2, c3, c4, c5⟩ := hPw.sk.c6
          have hsl := hPw.sk.lt
          by_cases hjn : j < n
          · obtain ⟨r, hr⟩ : ∃ r, r = k * 16 + j := ⟨_, rfl⟩
            have HR : Hid (prN k j = r) := by rw [hr]; exact prN_lt (by omega)
            have hr256 : r < 256 := by omega
            have i1 : (r : Int) < 256 := by omega
            have q0 := hPw.vb.cell (i := r) hr256
            have hgl := hPw.vb.lt
            have HRE := Lib.hid hr
            clear hr hPw
            cases hbt : m.testBit r
            · rw [hbt] at q0
              go_wp2
              go_quiet ((go_at_call 171; exact quiet_same (pair_qu HR.out _ (by omega) (by omega))))
              go_wp2
              go_roundw
              case rel =>
                have hf : frK n m (k * 16 + j) = true := (fr_iff (by omega)).2 ⟨by omega, by omega, by rw [← HRE.out]; exact hbt⟩
                have hnx2 : nxt n m = k * 16 + j := nxt_is (by omega) hf HD.out.2
                have hnx1 := HNX.out
                have ea : k = a := by omega
                have eb : j = b := by omega
                exact ⟨k + 1, by omega, by go_num, .inr ⟨by rw [ea], by rw [eb], by omega⟩, below_drewN HD.out.1 _⟩
              case measure => simp [intOf]; omega
            · rw [hbt] at q0
              go_wp2
              go_quiet ((go_at_call 171; exact quiet_same (pair_qu HR.out _ (by omega) (by omega))))
              go_wp2
              go_roundw
              case rel =>
                refine ⟨j + 1, by omega, by omega, rfl, by go_num, below_drewN HD.out.1 _, fun i hi => ?_⟩
                by_cases e : i < k * 16 + j
                · exact HD.out.2 i e
                · obtain rfl : i = k * 16 + j := by omega
                  rw [← Bool.not_eq_true, fr_iff (by omega)]
                  intro h
                  have := h.2.2
                  rw [← HRE.out, hbt] at this; cases this
              case measure => simp [intOf]; omega
          · obtain rfl : j = n := by omega
            clear hPw
            go_wp2
            go_roundw
            case rel => exact ⟨k + 1, by omega, by go_num, .inl ⟨rfl, fr_next hn HD.out.2⟩, HD.out.1⟩
            case measure => simp [intOf]; omega
      · have hneg : decide ((a : Int) < 0) = false := by simp
        have hkn : k < n := by omega
        have HP1 := Lib.hid (HP0.out.below HB.out)
        go_wp2
        clear c0 c1 c2 c3 c4 c5 hsl hneg
        clear hkn hka1 hk
        obtain ⟨wo, rfl⟩ : ∃ wo : World, wo = wr := ⟨_, rfl⟩
        go_loopw [8] (fun q wr => ∃ (k : Nat) (u2 : Value), k ≤ n ∧ q = .int .i64 k ∧ Hid (P8 w wr s n g base most b0 keep u A c L (fun i => m.testBit i) (takeG C most (SQ k)) u2)) (fun q _ => n - (intOf q).toNat)
        case atStart => exact ⟨0, u, by omega, rfl, by rw [HZ.out, takeG_nil]; exact HP1.out⟩
        case round =>
          obtain ⟨k, u2, hk, rfl, HQ⟩ := hrel
          have hlen := takeG_len (Nat.le_of_lt hC) (SQ k)
          obtain ⟨c0, c1, c2, c3, c4, c5⟩ := HQ.out.sk.c6
          have hsl := HQ.out.sk.lt
          by_cases hkn : k < n
          · by_cases hfm : (takeG C most (SQ k)).length < most
            · obtain ⟨NT, hNT⟩ : ∃ NT, (takeG C most (SQ k)).length = NT := ⟨_, rfl⟩
              rw [hNT] at c2 hlen hfm
              have HNT := Lib.hid hNT; clear hNT
              go_wp2
              go_quiet (fail)
              replace HQ := Lib.hid (HQ.out.below (below_drewN (Below.refl _ wr) nq))
              clear c0 c1 c2 c3 c4 c5 hsl
              generalize wr.drewN nq = wq at *
              obtain ⟨c0, c1, c2, c3, c4, c5⟩ := HQ.out.sk.c6
              have hsl := HQ.out.sk.lt
              rw [HNT.out] at c2
              obtain ⟨r1, hr1⟩ : ∃ r, r = prN a k := ⟨_, rfl⟩
              obtain ⟨r2, hr2⟩ : ∃ r, r = prN b k := ⟨_, rfl⟩
              have Hr1 : Hid (prN a k = r1) := hr1.symm
              have Hr2 : Hid (prN b k = r2) := hr2.symm
              have hr1lt : r1 < 256 := by rw [hr1]; unfold prN; omega
              have hr2lt : r2 < 256 := by rw [hr2]; unfold prN; omega
              have i1 : (r1 : Int) < 256 := by omega
              have i2 : (r2 : Int) < 256 := by omega
              have q1 := HQ.out.vb.cell (i := r1) hr1lt
              have q2 := HQ.out.vb.cell (i := r2) hr2lt
              have hgl := HQ.out.vb.lt
              clear hr1 hr2
              have HSTk := Lib.hid (HST.out k)
              by_cases hka : k = a
              · have HSK : Hid (SQ (k + 1) = SQ k) := by unfold Hid; rw [HSTk.out, if_neg (by omega), List.append_nil]
                have hka' : ((k : Int) == (a : Int)) = true := by simp [hka]
                have HKA := Lib.hid hka; clear hka
                go_wp2
                go_quiet (fail)
                go_wp2
                go_roundw
                case rel => exact ⟨k + 1, u2, by omega, by go_num, by rw [HSK.out]; exact HQ.out.below (below_drewN (Below.refl _ _) _)⟩
                case measure => simp [intOf]; omega
              · have hka' : ((k : Int) == (a : Int)) = false := by rw [beq_eq_false_iff_ne]; omega
                by_cases hkb : k = b
                · have HSK : Hid (SQ (k + 1) = SQ k) := by unfold Hid; rw [HSTk.out, if_neg (by omega), List.append_nil]
                  have hkb' : ((k : Int) == (b : Int)) = true := by simp [hkb]
                  have HKA := Lib.hid (And.intro hka hkb); clear hka hkb
                  go_wp2
                  go_quiet (fail)
                  go_wp2
                  go_roundw
                  case rel => exact ⟨k + 1, u2, by omega, by go_num, by rw [HSK.out]; exact HQ.out.below (below_drewN (Below.refl _ _) _)⟩
                  case measure => simp [intOf]; omega
                · have hkb' : ((k : Int) == (b : Int)) = false := by rw [beq_eq_false_iff_ne]; omega
                  cases hb1 : m.testBit r1
                  · cases hb2 : m.testBit r2
                    · rw [hb1] at q1
                      rw [hb2] at q2
                      have hkb2 : b < k := by
                        rcases Nat.lt_or_ge k b with h | h
                        · have := used_before hn HLOW.out hab hbn hkn hka h
                          rw [Hr1.out, hb1] at this; cases this
                        · omega
                      have hra : r1 = a * 16 + k := by rw [← Hr1.out]; exact prN_lt (by omega)
                      have hrb : r2 = b * 16 + k := by rw [← Hr2.out]; exact prN_lt (by omega)
                      have HFIT : Hid (fitQ3 m a b k = true) := fitQ3_iff.2 ⟨HBIT.out, by rw [← hra]; exact hb1, by rw [← hrb]; exact hb2⟩
                      obtain ⟨r0, hr0⟩ : ∃ r, r = a * 16 + b := ⟨_, rfl⟩
                      have Hr0 : Hid (prN a b = r0) := by rw [hr0]; exact prN_lt hab
                      have hr0lt : r0 < 256 := by omega
                      have i0 : (r0 : Int) < 256 := by omega
                      have HRS := Lib.hid (And.intro hr0 (And.intro hra hrb))
                      have HBB := Lib.hid (And.intro hb1 hb2)
                      have HKA := Lib.hid (And.intro hka hkb)
                      clear hr0 hra hrb hb1 hb2 hka hkb
                      go_wp2
                      go_quiet ((go_at_call 171; first | (with_reducible exact quiet_same (pair_qu Hr1.out _ (by omega) (by omega))) | (with_reducible exact quiet_same (pair_qu Hr2.out _ (by omega) (by omega)))))
                      replace HQ := Lib.hid (HQ.out.below (below_drewN (Below.refl _ wq) nq))
                      clear c0 c1 c2 c3 c4 c5 hsl hgl q1 q2 hka' hkb'
                      generalize wq.drewN nq = w0 at *
                      obtain ⟨c0, c1, c2, c3, c4, c5⟩ := HQ.out.sk.c6
                      have hsl := HQ.out.sk.lt
                      have hgl := HQ.out.vb.lt
                      obtain ⟨tq, q0⟩ : ∃ t, w0.cell? ⟨g, r0, none⟩ = some t := ⟨_, HQ.out.vb.cell (i := r0) (by omega)⟩
                      have f0 := HQ.out.vb.frozen r0
                      go_wp2
                      go_still_tail 7, (by kernel_rfl)
                      still_call (pair_is Hr0.out _ (by omega) (by omega))
                      (repeat still_step)
                      refine wpStill_nil ?_
                      change wpList _ _ _ _ _ w0.drew
                      have HQ1 := Lib.hid ((HQ.out.below (below_drew w0)).set HNE.out r0 true)
                      have q1 : w0.drew.cell? ⟨g, r0, none⟩ = some tq := q0
                      have f1 : w0.drew.frozen? ⟨g, r0, none⟩ = false := f0
                      have hgl1 : g < w0.drew.heap.size := hgl
                      clear c0 c1 c2 c3 c4 c5 hsl hgl q0 f0
                      generalize hwd : w0.drew = wd at *
                      clear hwd
                      go_wp2
                      clear q1 f1 hgl1
                      generalize wd.setCell ⟨g, r0, none⟩ (.bool true) = w1 at *
                      obtain ⟨c0, c1, c2, c3, c4, c5⟩ := HQ1.out.sk.c6
                      have hsl := HQ1.out.sk.lt
                      have hgl := HQ1.out.vb.lt
                      obtain ⟨tq, q0⟩ : ∃ t, w1.cell? ⟨g, r1, none⟩ = some t := ⟨_, HQ1.out.vb.cell (i := r1) (by omega)⟩
                      have f0 := HQ1.out.vb.frozen r1
                      go_wp2
                      go_still_tail 7, (by kernel_rfl)
                      still_call (pair_is Hr1.out _ (by omega) (by omega))
                      (repeat still_step)
                      refine wpStill_nil ?_
                      change wpList _ _ _ _ _ w1.drew
                      have HQ2 := Lib.hid ((HQ1.out.below (below_drew w1)).set HNE.out r1 true)
                      have q1 : w1.drew.cell? ⟨g, r1, none⟩ = some tq := q0
                      have f1 : w1.drew.frozen? ⟨g, r1, none⟩ = false := f0
                      have hgl1 : g < w1.drew.heap.size := hgl
                      clear c0 c1 c2 c3 c4 c5 hsl hgl q0 f0
                      generalize hwd : w1.drew = wd at *
                      clear hwd
                      go_wp2
                      clear q1 f1 hgl1
                      generalize wd.setCell ⟨g, r1, none⟩ (.bool true) = w2 at *
                      obtain ⟨c0, c1, c2, c3, c4, c5⟩ := HQ2.out.sk.c6
                      have hsl := HQ2.out.sk.lt
                      have hgl := HQ2.out.vb.lt
                      obtain ⟨tq, q0⟩ : ∃ t, w2.cell? ⟨g, r2, none⟩ = some t := ⟨_, HQ2.out.vb.cell (i := r2) (by omega)⟩
                      have f0 := HQ2.out.vb.frozen r2
                      go_wp2
                      go_still_tail 7, (by kernel_rfl)
                      still_call (pair_is Hr2.out _ (by omega) (by omega))
                      (repeat still_step)
                      refine wpStill_nil ?_
                      change wpList _ _ _ _ _ w2.drew
                      have HQ3 := Lib.hid ((HQ2.out.below (below_drew w2)).set HNE.out r2 true)
                      have q1 : w2.drew.cell? ⟨g, r2, none⟩ = some tq := q0
                      have f1 : w2.drew.frozen? ⟨g, r2, none⟩ = false := f0
                      have hgl1 : g < w2.drew.heap.size := hgl
                      clear c0 c1 c2 c3 c4 c5 hsl hgl q0 f0
                      generalize hwd : w2.drew = wd at *
                      clear hwd
                      generalize hw3 : wd.setCell ⟨g, r2, none⟩ (.bool true) = w3 at *
                      have HQ4 : Hid (P8 w w3 s n g base most b0 keep u A c L (fun i => (m ||| prM a b k).testBit i) (takeG C most (SQ k)) u2) := HQ3.out.ext fun i hi => by
                        obtain ⟨e0, e1, e2⟩ := HRS.out
                        rw [Nat.testBit_or, prM_bit, ← e0, ← e1, ← e2]
                        unfold updA
                        by_cases g2 : i = r2
                        · simp [g2]
                        · by_cases g1 : i = r1
                          · simp [g1]
                          · by_cases g0 : i = r0
                            · simp [g0]
                            · simp [g0, g1, g2]
                      have HBASE : Hid (base ≤ w3.heap.size) := by have := HQ4.out.gk.size; unfold Hid; omega
                      clear HQ HQ1 HQ2 HQ3
                      have HEa : Hid (OB (w3.alloc (.cells #[] 99)) w3.heap.size (.slice (some ⟨w3.heap.size, 0, none⟩) 0 0) []) := own_empty _ _ _
                      obtain ⟨bi0, hbi, hbi0, hbi1, hbi2⟩ := info_parts infoBlk'
                      have hL1 : L.length ≤ 1000 := by omega
                      go_wp2_with (at_builtin; refine wpList_append_blk _ rfl _ _ rfl w3.heap.size _ rfl [] HEa.out A c L rfl (OB.bl (HQ4.out.ob.below (below_alloc w3 _))) (by simp) (by omega) (by simp) ?_; intro v5 w5 hO5 hg5 hat5; obtain ⟨A5, c5, rfl⟩ := own_slice hO5)
                      rw [List.nil_append] at hO5
                      have HO5 := Lib.hid hO5
                      have HB5 : Hid (Below w3.heap.size w3 w5) := (below_alloc w3 _).grown hg5 (by simp) (own_block HEa.out)
                      clear hO5 hg5 hat5 q1 f1 hgl1 hw3
                      refine (blkN_is a b k w5 hab hkb2 (by omega)).mono ?_
                      rintro e w6 ⟨rfl, hb6⟩
                      have HB6 := Lib.hid (below_up HB5.out hb6)
                      have HO6 : Hid (w6.ownsRow w3.heap.size 99 3 (.slice A5 L.length c5) L.length (cells3' L)) := own_below HO5.out hb6
                      clear hb6 HO5 HB5
                      have hz6 := HB6.out.size
                      go_wp2_with (at_builtin; refine wpList_append_lies _ rfl _ _ 28 rfl w3.heap.size 99 bi0 (.agg #[.int .i64 0, .int .i64 0, .int .i64 0]) 3 24 Try.underlying28 hbi hbi0 hbi1 hbi2 rfl (by decide) _ _ _ rfl (HO6.out.alloc _) ⟨w6.heap.size, 0, none⟩ 1 1 [.int .i64 (a : Int), .int .i64 (b : Int), .int .i64 (k : Int)] rfl rfl (cells_new _ _ _) (by simp [Value.oneCell']) (by omega) (by unfold maxLen; omega) (by omega) (by simp; omega) (w6.heap.size + 1) (by simp) ?_; intro g8 cap8 w8 hO8 hg8 hat8 hlt8)
                      have HO8 : Hid (OB w8 w3.heap.size (.slice (some ⟨g8, 0, none⟩) (L.length + 1) cap8) (L ++ [blkN a b k])) := OB.snoc (b := blkN a b k) hO8
                      have HB8 : Hid (Below w3.heap.size w3 w8) := (HB6.out.alloc HB6.out.size _).grown hg8 (by simp; omega) (own_block HO6.out)
                      have HQ8 := Lib.hid (HQ4.out.below HB8.out)
                      clear hO8 hg8 hat8 hlt8 HO6 HB6 hz6 hbi hbi0 hbi1 hbi2 HEa HQ4
                      have HCALL := Lib.hid (HIH.out (m ||| prM a b k) (L ++ [blkN a b k]) (takeG C most (SQ k)) u2 (.slice (some ⟨g8, 0, none⟩) (L.length + 1) cap8) w3.heap.size w8 (HCNT.out k (by omega) hkn HFIT.out) (by simp; omega) (by rw [HNT.out]; exact hfm) HQ8.out.sk HQ8.out.vb HQ8.out.lb HO8.out (Nat.le_trans HBASE.out HB8.out.size))
                      refine HCALL.out.mono ?_
                      rintro e w9 ⟨u3, rfl, hsk, hvb, hlb, hgk⟩
                      have HT : Hid (takeG C most (SQ (k + 1)) = takeG (takeG C most (SQ k)) most (enumC n d (m ||| prM a b k) (L ++ [blkN a b k]))) := by
                        unfold Hid; rw [HSTk.out, if_pos ⟨hkb2, HFIT.out⟩, takeG_app]
                      have HQ9 : Hid (P8 w w9 s n g base most b0 keep u A c L (fun i => (m ||| prM a b k).testBit i) (takeG C most (SQ (k + 1))) u3) := by
                        unfold Hid
                        rw [HT.out]
                        exact ⟨hsk, hvb, hlb, hgk.ob HQ8.out.ob HQ8.out.sk HQ8.out.vb HQ8.out.lb, HQ8.out.gk.join hgk⟩
                      clear hsk hvb hlb hgk HQ8 HCALL HO8 HB8 hlen hfm HNT
                      obtain ⟨c0, c1, c2, c3, c4, c5⟩ := HQ9.out.sk.c6
                      have hsl := HQ9.out.sk.lt
                      have hgl := HQ9.out.vb.lt
                      obtain ⟨tq, q0⟩ : ∃ t, w9.cell? ⟨g, r0, none⟩ = some t := ⟨_, HQ9.out.vb.cell (i := r0) (by omega)⟩
                      have f0 := HQ9.out.vb.frozen r0
                      go_wp2
                      go_still_tail 7, (by kernel_rfl)
                      still_call (pair_is Hr0.out _ (by omega) (by omega))
                      (repeat still_step)
                      refine wpStill_nil ?_
                      change wpList _ _ _ _ _ w9.drew
                      have HQa := Lib.hid ((HQ9.out.below (below_drew w9)).set HNE.out r0 false)
                      have q1 : w9.drew.cell? ⟨g, r0, none⟩ = some tq := q0
                      have f1 : w9.drew.frozen? ⟨g, r0, none⟩ = false := f0
                      have hgl1 : g < w9.drew.heap.size := hgl
                      clear c0 c1 c2 c3 c4 c5 hsl hgl q0 f0
                      generalize hwd : w9.drew = wd at *
                      clear hwd
                      go_wp2
                      clear q1 f1 hgl1
                      generalize wd.setCell ⟨g, r0, none⟩ (.bool false) = wa at *
                      obtain ⟨c0, c1, c2, c3, c4, c5⟩ := HQa.out.sk.c6
                      have hsl := HQa.out.sk.lt
                      have hgl := HQa.out.vb.lt
                      obtain ⟨tq, q0⟩ : ∃ t, wa.cell? ⟨g, r1, none⟩ = some t := ⟨_, HQa.out.vb.cell (i := r1) (by omega)⟩
                      have f0 := HQa.out.vb.frozen r1
                      go_wp2
                      go_still_tail 7, (by kernel_rfl)
                      still_call (pair_is Hr1.out _ (by omega) (by omega))
                      (repeat still_step)
                      refine wpStill_nil ?_
                      change wpList _ _ _ _ _ wa.drew
                      have HQb := Lib.hid ((HQa.out.below (below_drew wa)).set HNE.out r1 false)
                      have q1 : wa.drew.cell? ⟨g, r1, none⟩ = some tq := q0
                      have f1 : wa.drew.frozen? ⟨g, r1, none⟩ = false := f0
                      have hgl1 : g < wa.drew.heap.size := hgl
                      clear c0 c1 c2 c3 c4 c5 hsl hgl q0 f0
                      generalize hwd : wa.drew = wd at *
                      clear hwd
                      go_wp2
                      clear q1 f1 hgl1
                      generalize wd.setCell ⟨g, r1, none⟩ (.bool false) = wb at *
                      obtain ⟨c0, c1, c2, c3, c4, c5⟩ := HQb.out.sk.c6
                      have hsl := HQb.out.sk.lt
                      have hgl := HQb.out.vb.lt
                      obtain ⟨tq, q0⟩ : ∃ t, wb.cell? ⟨g, r2, none⟩ = some t := ⟨_, HQb.out.vb.cell (i := r2) (by omega)⟩
                      have f0 := HQb.out.vb.frozen r2
                      go_wp2
                      go_still_tail 7, (by kernel_rfl)
                      still_call (pair_is Hr2.out _ (by omega) (by omega))
                      (repeat still_step)
                      refine wpStill_nil ?_
                      change wpList _ _ _ _ _ wb.drew
                      have HQc := Lib.hid ((HQb.out.below (below_drew wb)).set HNE.out r2 false)
                      have q1 : wb.drew.cell? ⟨g, r2, none⟩ = some tq := q0
                      have f1 : wb.drew.frozen? ⟨g, r2, none⟩ = false := f0
                      have hgl1 : g < wb.drew.heap.size := hgl
                      clear c0 c1 c2 c3 c4 c5 hsl hgl q0 f0
                      generalize hwd : wb.drew = wd at *
                      clear hwd
                      go_wp2
                      clear q1 f1 hgl1
                      generalize wd.setCell ⟨g, r2, none⟩ (.bool false) = wc at *
                      have HQd : Hid (P8 w wc s n g base most b0 keep u A c L (fun i => m.testBit i) (takeG C most (SQ (k + 1))) u3) := HQc.out.ext fun i hi => by
                        obtain ⟨e0, e1, e2⟩ := HRS.out
                        unfold updA
                        by_cases g2 : i = r2
                        · rw [if_pos g2, g2, HBB.out.2]
                        · by_cases g1 : i = r1
                          · rw [if_neg g2, if_pos g1, g1, HBB.out.1]
                          · by_cases g0 : i = r0
                            · rw [if_neg g2, if_neg g1, if_pos g0, g0, e0, HBIT.out]
                            · rw [if_neg g2, if_neg g1, if_neg g0]
                              show (m ||| prM a b k).testBit i = m.testBit i
                              rw [Nat.testBit_or, prM_bit, ← e0, ← e1, ← e2]
                              simp [g0, g1, g2]
                      go_roundw
                      case rel => exact ⟨k + 1, u3, by omega, by go_num, HQd.out⟩
                      case measure => simp [intOf]; omega
                    · rw [hb1] at q1
                      rw [hb2] at q2
                      have HSK : Hid (SQ (k + 1) = SQ k) := by
                        unfold Hid; rw [HSTk.out, if_neg, List.append_nil]
                        rintro ⟨h1, h2⟩
                        have := (fitQ3_iff.1 h2).2.2
                        rw [← prN_lt (by omega : b < k), Hr2.out, hb2] at this; cases this
                      have HKA := Lib.hid (And.intro hka hkb); clear hka hkb
                      go_wp2
                      go_quiet ((go_at_call 171; first | (with_reducible exact quiet_same (pair_qu Hr1.out _ (by omega) (by omega))) | (with_reducible exact quiet_same (pair_qu Hr2.out _ (by omega) (by omega)))))
                      go_wp2
                      go_roundw
                      case rel => exact ⟨k + 1, u2, by omega, by go_num, by rw [HSK.out]; exact HQ.out.below (below_drewN (Below.refl _ _) _)⟩
                      case measure => simp [intOf]; omega
                  · rw [hb1] at q1
                    have HSK : Hid (SQ (k + 1) = SQ k) := by
                      unfold Hid; rw [HSTk.out, if_neg, List.append_nil]
                      rintro ⟨h1, h2⟩
                      have := (fitQ3_iff.1 h2).2.1
                      rw [← prN_lt (by omega : a < k), Hr1.out, hb1] at this; cases this
                    have HKA := Lib.hid (And.intro hka hkb); clear hka hkb
                    go_wp2
                    go_quiet ((go_at_call 171; first | (with_reducible exact quiet_same (pair_qu Hr1.out _ (by omega) (by omega))) | (with_reducible exact quiet_same (pair_qu Hr2.out _ (by omega) (by omega)))))
                    go_wp2
                    go_roundw
                    case rel => exact ⟨k + 1, u2, by omega, by go_num, by rw [HSK.out]; exact HQ.out.below (below_drewN (Below.refl _ _) _)⟩
                    case measure => simp [intOf]; omega
            · have hge : most ≤ (takeG C most (SQ k)).length := by omega
              have HEND := Lib.hid (HSTOP.out k hge hk)
              obtain ⟨NT, hNT⟩ : ∃ NT, (takeG C most (SQ k)).length = NT := ⟨_, rfl⟩
              rw [hNT] at c2 hlen hfm hge
              have HNT := Lib.hid hNT; clear hNT
              have hd1 : decide ((NT : Int) < (most : Int)) = false := by simp; omega
              go_wp2
              go_quiet (fail)
              go_wp2
              go_end0
              have hP := HQ.out.below (below_drewN (Below.refl _ wr) nq)
              exact ⟨u2, rfl, by rw [HEN.out, HEND.out]; exact hP.sk, hP.vb, by rw [HEN.out, HEND.out]; exact hP.lb, hP.gk⟩
          · obtain rfl : k = n := by omega
            go_wp2
            go_quiet (fail)
            go_wp2
            go_end0
            have hP := HQ.out.below (below_drewN (Below.refl _ wr) nq)
            exact ⟨u2, rfl, by rw [HEN.out]; exact hP.sk, hP.vb, by rw [HEN.out]; exact hP.lb, hP.gk⟩

end Go.Proofs.Ytbknpflbafjblaa

/- Contracts of the reference's runs of its search for completions; conditions: stated in each. -/
namespace Go.Proofs.Ytbknpflbafjblaa
open Go.RowKit
set_option maxHeartbeats 2000000
set_option maxRecDepth 100000
set_option linter.unusedSimpArgs false
set_option linter.unusedVariables false

theorem l08Run_any (n : Nat) (A : Option Addr) (c : Nat) (xs : List Blk) (most : Nat) (keep : Bool) (w : World) (hA : Bl w A xs) (hs : isSys n xs) (ht : n = 3 ∨ n = 7 ∨ n = 9 ∨ n = 13 ∨ n = 15) (hm0 : 0 < most) (hm1 : most ≤ 1000000000) :
    Calls Try.prog 102 #[.agg #[.int .i64 n, .slice A xs.length c], .int .i64 most, .bool keep] w fun e w' => ∃ s u g, e = .returned (.pointer (some ⟨s, 0, none⟩)) ∧ Sk w' s n g (takeG [] most (addC n xs)).length most keep u ∧ LBq w' w.heap.size u (kpL keep (takeG [] most (addC n xs))) ∧ Below w.heap.size w w' := by
  have hv := hs.1
  have hmc := mis_cnt hs ht
  have hm35 : misN n xs ≤ 40 := by
    have := hmc.2
    have h2 : n * (n - 1) ≤ 15 * 15 := Nat.mul_le_mul (by omega) (by omega)
    omega
  have HMC := Lib.hid hmc.1
  have HS := Lib.hid hs
  have HW := Lib.hid (below_alloc w (.cells #[.int .i64 n, .slice A xs.length c] 30))
  have HA := Lib.hid (hA.below HW.out)
  have HR := Lib.hid (Row.box w 30 (.int .i64 n) (.slice A xs.length c))
  have HADD : Hid (addC n xs = enumC n (misN n xs) (mskN xs xs.length) []) := rfl
  rw [HADD.out]
  clear hA hmc hs
  go_enter Try.func102, Try.ntmps102
  obtain ⟨c0, c1⟩ := HR.out.c2
  go_wp2
  generalize hWo : w.alloc _ = w5 at *
  clear hWo
  refine wp_region_noPanic ?_
  refine AnyBut.begin (N := 10) (S := (fun w' => w'.cell? ⟨w.heap.size, 0, none⟩ = some (.int .i64 n) ∧ w'.cell? ⟨w.heap.size, 1, none⟩ = some (.slice A xs.length c))) (by kernel_rfl) ?_
  have hS0 : (fun w' : World => w'.cell? ⟨w.heap.size, 0, none⟩ = some (.int .i64 n) ∧ w'.cell? ⟨w.heap.size, 1, none⟩ = some (.slice A xs.length c)) w5.drew := ⟨c0, c1⟩
  refine AnyBut.take (i := 0) (v := ?_) rfl rfl (by decide) (by kernel_rfl) (by kernel_rfl) (by kernel_rfl) (by kernel_rfl) (fun _ _ _ h => h) (Or.inl ⟨by rfl, ?_⟩) hS0 ?_; rotate_left; (focus (intro W hSw; (try dsimp only at hSw); obtain ⟨z0, z1⟩ := hSw; go_simp; (try with_reducible rfl))); (try simp only [Act.put, List.setIfInBounds_toArray, List.set_cons_zero, List.set_cons_succ]); refine AnyBut.take (i := 1) (v := ?_) rfl rfl (by decide) (by kernel_rfl) (by kernel_rfl) (by kernel_rfl) (by kernel_rfl) (fun _ _ _ h => h) (Or.inl ⟨by rfl, ?_⟩) hS0 ?_; rotate_left; (focus (intro W hSw; (try dsimp only at hSw); obtain ⟨z0, z1⟩ := hSw; go_simp; (try with_reducible rfl))); (try simp only [Act.put, List.setIfInBounds_toArray, List.set_cons_zero, List.set_cons_succ]); refine AnyBut.take (i := 2) (v := ?_) rfl rfl (by decide) (by kernel_rfl) (by kernel_rfl) (by kernel_rfl) (by kernel_rfl) (fun _ _ _ h => h) (Or.inl ⟨by rfl, ?_⟩) hS0 ?_; rotate_left; (focus (intro W hSw; (try dsimp only at hSw); obtain ⟨z0, z1⟩ := hSw; go_simp; (try with_reducible rfl))); (try simp only [Act.put, List.setIfInBounds_toArray, List.set_cons_zero, List.set_cons_succ]); refine AnyBut.take (i := 3) (v := ?_) rfl rfl (by decide) (by kernel_rfl) (by kernel_rfl) (by kernel_rfl) (by kernel_rfl) (fun _ _ _ h => h) (Or.inl ⟨by rfl, ?_⟩) hS0 ?_; rotate_left; (focus (intro W hSw; (try dsimp only at hSw); obtain ⟨z0, z1⟩ := hSw; go_simp; (try with_reducible rfl))); (try simp only [Act.put, List.setIfInBounds_toArray, List.set_cons_zero, List.set_cons_succ]); refine AnyBut.take (i := 5) (v := ?_) rfl rfl (by decide) (by kernel_rfl) (by kernel_rfl) (by kernel_rfl) (by kernel_rfl) (fun _ _ _ h => h) (Or.inl ⟨by rfl, ?_⟩) hS0 ?_; rotate_left; (focus (intro W hSw; (try dsimp only at hSw); obtain ⟨z0, z1⟩ := hSw; go_simp; (try with_reducible rfl))); (try simp only [Act.put, List.setIfInBounds_toArray, List.set_cons_zero, List.set_cons_succ]); refine AnyBut.take (i := 6) (v := ?_) rfl rfl (by decide) (by kernel_rfl) (by kernel_rfl) (by kernel_rfl) (by kernel_rfl) (fun _ _ _ h => h) (Or.inl ⟨by rfl, ?_⟩) hS0 ?_; rotate_left; (focus (intro W hSw; (try dsimp only at hSw); obtain ⟨z0, z1⟩ := hSw; go_simp; (try with_reducible rfl))); (try simp only [Act.put, List.setIfInBounds_toArray, List.set_cons_zero, List.set_cons_succ])
  have HRd := Lib.hid (HR.out.below (below_drew w5)); have HAd := Lib.hid (HA.out.below (below_drew w5)); have HWd := Lib.hid (below_up HW.out (below_drew w5))
  have HSX : Hid (∀ w', Below w5.drew.heap.size w5.drew w' → w'.cell? ⟨w.heap.size, 0, none⟩ = some (.int .i64 n) ∧ w'.cell? ⟨w.heap.size, 1, none⟩ = some (.slice A xs.length c)) := fun w' hb => (HRd.out.below hb).c2
  clear hS0 c0 c1
  generalize w5.drew = w6 at *
  refine AnyBut.ready (rs := [4, 7]) (by kernel_rfl) (by simp) ?_
  refine AllBut.cons rfl (fun K hK => ?_) (AllBut.cons rfl (fun K hK => ?_) AllBut.nil)
  · rw [if_pos (by rfl)]
    go_simp
    refine (l04Pairs_any n A c xs _ HAd.out HS.out).mono ?_
    rintro e w7 ⟨g, rfl, hle, hvb, hb⟩
    have HB7 := Lib.hid hb; have HV7 := Lib.hid hvb
    have HGL : Hid (w.heap.size ≤ g) := Nat.le_trans HWd.out.size hle
    clear hle hvb hb
    refine hK.out _ _ (fun _ => HSX.out _ HB7.out) ?_
    clear hK K
    (try simp only [Act.put, List.setIfInBounds_toArray, List.set_cons_zero, List.set_cons_succ])
    refine AnyBut.ready (rs := [7]) (by kernel_rfl) (by simp) ?_; refine AllBut.cons rfl (fun K hK => ?_) AllBut.nil
    go_simp
    refine hK.out _ _ (fun _ => HSX.out _ (below_up HB7.out (below_alloc w7 _))) ?_
    clear hK K
    (try simp only [Act.put, List.setIfInBounds_toArray, List.set_cons_zero, List.set_cons_succ])
    have HUU : Hid (LBq (w7.alloc (.cells #[] 28)) w.heap.size (.slice (some ⟨w7.heap.size, 0, none⟩) 0 0) []) := ⟨[], own_base (own_empty w7 28 1) (Nat.le_trans HWd.out.size HB7.out.size), fun k hk => by simp at hk⟩
    have HGG := Lib.hid (HV7.out.below (below_alloc w7 (.cells #[] 28)))
    have HWW := Lib.hid (below_up HWd.out (below_up HB7.out (below_alloc w7 (.cells #[] 28))))
    have HSS := Lib.hid (below_up HB7.out (below_alloc w7 (.cells #[] 28)))
    obtain ⟨hh, hhe⟩ : ∃ hh, hh = w7.heap.size := ⟨_, rfl⟩
    rw [← hhe] at HUU
    rw [← hhe]
    clear hhe
    generalize w7.alloc _ = w8 at *
    refine AnyBut.ready (rs := [8]) (by kernel_rfl) (by simp) ?_; refine AllBut.cons rfl (fun K hK => ?_) AllBut.nil
    go_simp
    refine hK.out _ _ (fun _ => HSX.out _ HSS.out) ?_
    clear hK K
    (try simp only [Act.put, List.setIfInBounds_toArray, List.set_cons_zero, List.set_cons_succ])
    refine AnyBut.ready (rs := [9]) (by kernel_rfl) (by simp) ?_; refine AllBut.cons rfl (fun K hK => ?_) AllBut.nil
    go_simp
    refine hK.out _ _ (fun _ => HSX.out _ (below_up HSS.out (below_alloc w8 _))) ?_
    clear hK K
    (try simp only [Act.put, List.setIfInBounds_toArray, List.set_cons_zero, List.set_cons_succ])
    refine AnyBut.ready (rs := [10]) (by kernel_rfl) (by simp) ?_; refine AllBut.cons rfl (fun K hK => ?_) AllBut.nil
    go_simp
    refine hK.out _ _ (fun h => absurd rfl h) ?_
    clear hK K
    (try simp only [Act.put, List.setIfInBounds_toArray, List.set_cons_zero, List.set_cons_succ])
    refine AnyBut.done (by kernel_rfl) ?_ _
    refine NoPanic.normal ?_
    have HB9 := Lib.hid (below_alloc w8 (.cells (sVals n g 0 most keep (.slice (some ⟨hh, 0, none⟩) 0 0)) 111))
    have HS9 : Hid (Sk (w8.alloc (.cells (sVals n g 0 most keep (.slice (some ⟨hh, 0, none⟩) 0 0)) 111)) w8.heap.size n g 0 most keep (.slice (some ⟨hh, 0, none⟩) 0 0)) := Row.new w8 _ _
    have HG9 := Lib.hid (HGG.out.below HB9.out)
    have HU9 := Lib.hid (HUU.out.below HB9.out)
    have HW9 := Lib.hid (below_up HWW.out HB9.out)
    have HZ9 : Hid (w.heap.size ≤ w8.heap.size) := HWW.out.size
    change Exit.then _ _ _ _ (w8.alloc (.cells (sVals n g 0 most keep (.slice (some ⟨hh, 0, none⟩) 0 0)) 111))
    generalize hsb : w8.heap.size = sb at *
    generalize w8.alloc _ = w9 at *
    have HE9 : Hid (OB (w9.alloc (.cells #[] 99)) w9.heap.size (.slice (some ⟨w9.heap.size, 0, none⟩) 0 0) []) := own_empty _ _ _
    have hba := below_alloc w9 (.cells #[] 99)
    have HSa := Lib.hid (HS9.out.below hba); have HGa := Lib.hid (HG9.out.below hba); have HUa := Lib.hid (HU9.out.below hba)
    have HWa := Lib.hid (below_up HW9.out hba)
    clear hba
    go_wp2_with fail
    refine (l08Go_any n sb g w.heap.size most keep (by omega) hm1 HZ9.out HGL.out (misN n xs) (mskN xs xs.length) [] [] _ _ w9.heap.size _ HMC.out (by simp; omega) (by simpa using hm0) HSa.out HGa.out (by have e : kpL keep [] = [] := (by cases keep <;> rfl); rw [e]; exact HUa.out) HE9.out HWa.out.size).mono ?_
    rintro e wz ⟨u', rfl, hsk, _, hlb, hgk⟩
    have HBZ : Hid (Below w.heap.size w wz) := HWa.out.trans (hgk.out HWa.out.size HZ9.out HGL.out (fun b e => (HUa.out.lt b e).1))
    have HSK := Lib.hid hsk; have HLB := Lib.hid hlb
    clear hsk hlb hgk
    go_wp2
    go_ret
    exact ⟨sb, u', g, rfl, HSK.out, HLB.out, HBZ.out⟩
  · go_simp
    refine hK.out _ _ (fun _ => HSX.out _ (below_alloc w6 _)) ?_
    clear hK K
    (try simp only [Act.put, List.setIfInBounds_toArray, List.set_cons_zero, List.set_cons_succ])
    have HUU0 : Hid (LBq (w6.alloc (.cells #[] 28)) w.heap.size (.slice (some ⟨w6.heap.size, 0, none⟩) 0 0) []) := ⟨[], own_base (own_empty w6 28 1) HWd.out.size, fun k hk => by simp at hk⟩
    have HA7 := Lib.hid (HAd.out.below (below_alloc w6 (.cells #[] 28)))
    have HW7 := Lib.hid (below_up HWd.out (below_alloc w6 (.cells #[] 28)))
    have HSS0 := Lib.hid (below_alloc w6 (.cells #[] 28))
    obtain ⟨hh, hhe⟩ : ∃ hh, hh = w6.heap.size := ⟨_, rfl⟩
    rw [← hhe] at HUU0
    rw [← hhe]
    clear hhe
    generalize w6.alloc _ = w7 at *
    refine AnyBut.ready (rs := [4]) (by kernel_rfl) (by simp) ?_; refine AllBut.cons rfl (fun K hK => ?_) AllBut.nil
    rw [if_pos (by rfl)]
    go_simp
    refine (l04Pairs_any n A c xs _ HA7.out HS.out).mono ?_
    rintro e w8 ⟨g, rfl, hle, hvb, hb⟩
    have HSS := Lib.hid (below_up HSS0.out hb); have HGG := Lib.hid hvb
    have HUU := Lib.hid (HUU0.out.below hb)
    have HWW := Lib.hid (below_up HW7.out hb)
    have HGL : Hid (w.heap.size ≤ g) := Nat.le_trans HW7.out.size hle
    clear hle hvb hb
    refine hK.out _ _ (fun _ => HSX.out _ HSS.out) ?_
    clear hK K
    (try simp only [Act.put, List.setIfInBounds_toArray, List.set_cons_zero, List.set_cons_succ])
    refine AnyBut.ready (rs := [8]) (by kernel_rfl) (by simp) ?_; refine AllBut.cons rfl (fun K hK => ?_) AllBut.nil
    go_simp
    refine hK.out _ _ (fun _ => HSX.out _ HSS.out) ?_
    clear hK K
    (try simp only [Act.put, List.setIfInBounds_toArray, List.set_cons_zero, List.set_cons_succ])
    refine AnyBut.ready (rs := [9]) (by kernel_rfl) (by simp) ?_; refine AllBut.cons rfl (fun K hK => ?_) AllBut.nil
    go_simp
    refine hK.out _ _ (fun _ => HSX.out _ (below_up HSS.out (below_alloc w8 _))) ?_
    clear hK K
    (try simp only [Act.put, List.setIfInBounds_toArray, List.set_cons_zero, List.set_cons_succ])
    refine AnyBut.ready (rs := [10]) (by kernel_rfl) (by simp) ?_; refine AllBut.cons rfl (fun K hK => ?_) AllBut.nil
    go_simp
    refine hK.out _ _ (fun h => absurd rfl h) ?_
    clear hK K
    (try simp only [Act.put, List.setIfInBounds_toArray, List.set_cons_zero, List.set_cons_succ])
    refine AnyBut.done (by kernel_rfl) ?_ _
    refine NoPanic.normal ?_
    have HB9 := Lib.hid (below_alloc w8 (.cells (sVals n g 0 most keep (.slice (some ⟨hh, 0, none⟩) 0 0)) 111))
    have HS9 : Hid (Sk (w8.alloc (.cells (sVals n g 0 most keep (.slice (some ⟨hh, 0, none⟩) 0 0)) 111)) w8.heap.size n g 0 most keep (.slice (some ⟨hh, 0, none⟩) 0 0)) := Row.new w8 _ _
    have HG9 := Lib.hid (HGG.out.below HB9.out)
    have HU9 := Lib.hid (HUU.out.below HB9.out)
    have HW9 := Lib.hid (below_up HWW.out HB9.out)
    have HZ9 : Hid (w.heap.size ≤ w8.heap.size) := HWW.out.size
    change Exit.then _ _ _ _ (w8.alloc (.cells (sVals n g 0 most keep (.slice (some ⟨hh, 0, none⟩) 0 0)) 111))
    generalize hsb : w8.heap.size = sb at *
    generalize w8.alloc _ = w9 at *
    have HE9 : Hid (OB (w9.alloc (.cells #[] 99)) w9.heap.size (.slice (some ⟨w9.heap.size, 0, none⟩) 0 0) []) := own_empty _ _ _
    have hba := below_alloc w9 (.cells #[] 99)
    have HSa := Lib.hid (HS9.out.below hba); have HGa := Lib.hid (HG9.out.below hba); have HUa := Lib.hid (HU9.out.below hba)
    have HWa := Lib.hid (below_up HW9.out hba)
    clear hba
    go_wp2_with fail
    refine (l08Go_any n sb g w.heap.size most keep (by omega) hm1 HZ9.out HGL.out (misN n xs) (mskN xs xs.length) [] [] _ _ w9.heap.size _ HMC.out (by simp; omega) (by simpa using hm0) HSa.out HGa.out (by have e : kpL keep [] = [] := (by cases keep <;> rfl); rw [e]; exact HUa.out) HE9.out HWa.out.size).mono ?_
    rintro e wz ⟨u', rfl, hsk, _, hlb, hgk⟩
    have HBZ : Hid (Below w.heap.size w wz) := HWa.out.trans (hgk.out HWa.out.size HZ9.out HGL.out (fun b e => (HUa.out.lt b e).1))
    have HSK := Lib.hid hsk; have HLB := Lib.hid hlb
    clear hsk hlb hgk
    go_wp2
    go_ret
    exact ⟨sb, u', g, rfl, HSK.out, HLB.out, HBZ.out⟩

end Go.Proofs.Ytbknpflbafjblaa

/- Plain laws: there are less than 10 to the ninth completions. Conditions: stated in each. -/
namespace Go.Proofs.Ytbknpflbafjblaa
set_option linter.unusedSimpArgs false
set_option linter.unusedVariables false

/-- the partners that are left for a point -/
def frS (v u a x : Nat) : Bool := decide (x ≠ a) && !u.testBit (min a x * 16 + max a x)
def degC (v u a : Nat) : Nat := cntF (frS v u a) v
theorem frS_iff {v u a x : Nat} : frS v u a x = true ↔ x ≠ a ∧ u.testBit (min a x * 16 + max a x) = false := by unfold frS; simp
theorem mm_lt {a x : Nat} (h : a < x) : min a x * 16 + max a x = a * 16 + x := by rw [Nat.min_eq_left (by omega), Nat.max_eq_right (by omega)]
theorem mm_gt {a x : Nat} (h : x < a) : min a x * 16 + max a x = x * 16 + a := by rw [Nat.min_eq_right (by omega), Nat.max_eq_left (by omega)]
theorem frS_put {v u a b p x y : Nat} (hab : a < b) (hbp : b < p) (hp : p < 15) (hx : x < 15) (hy : y < 15) : frS v (u ||| prM a b p) x y = (frS v u x y && !((decide (x = a ∨ x = b ∨ x = p)) && (decide (y = a ∨ y = b ∨ y = p)))) := by
  rw [Bool.eq_iff_iff, frS_iff, Nat.testBit_or, Bool.or_eq_false_iff, Bool.and_eq_true, frS_iff, prM_bit]
  simp only [Bool.or_eq_false_iff, decide_eq_false_iff_not, Bool.not_eq_true', Bool.and_eq_false_iff]
  rcases Nat.lt_trichotomy x y with h | h | h
  · rw [mm_lt h]
    constructor
    · rintro ⟨h1, h2, h3⟩; exact ⟨⟨h1, h2⟩, by omega⟩
    · rintro ⟨⟨h1, h2⟩, h3⟩; exact ⟨h1, h2, by omega⟩
  · subst h
    constructor
    · rintro ⟨h1, _⟩; exact absurd rfl h1
    · rintro ⟨⟨h1, _⟩, _⟩; exact absurd rfl h1
  · rw [mm_gt h]
    constructor
    · rintro ⟨h1, h2, h3⟩; exact ⟨⟨h1, h2⟩, by omega⟩
    · rintro ⟨⟨h1, h2⟩, h3⟩; exact ⟨h1, h2, by omega⟩
theorem cntF_two {f g : Nat → Bool} {a b n : Nat} (ha : a < n) (hb : b < n) (hne : a ≠ b) (hfa : f a = true) (hfb : f b = true) (hg : ∀ j, j < n → g j = (f j && !(decide (j = a) || decide (j = b)))) : cntF f n = cntF g n + 2 := by
  have h1 := cntF_eq a n ha
  have h2 := cntF_eq b n hb
  have h3 := cntF_or (f := fun q => decide (q = a)) (g := fun q => decide (q = b)) (h := fun q => decide (q = a) || decide (q = b)) n (fun j _ => ⟨rfl, by
    rw [← Bool.not_eq_true, Bool.and_eq_true, decide_eq_true_eq, decide_eq_true_eq]; omega⟩)
  have h4 := cntF_or (f := g) (g := fun q => decide (q = a) || decide (q = b)) (h := f) n (fun j hj => by
    rw [hg j hj]
    by_cases e1 : j = a
    · subst e1; simp [hfa]
    · by_cases e2 : j = b
      · subst e2; simp [hfb]
      · simp [e1, e2])
  omega
/-- one block: two partners less for its points, none for others -/
theorem deg_put {v u a b p : Nat} (hv : v ≤ 15) (hab : a < b) (hbp : b < p) (hp : p < v) (hf : fitQ3 u a b p = true) : degC v u a = degC v (u ||| prM a b p) a + 2 := by
  obtain ⟨f1, f2, f3⟩ := fitQ3_iff.1 hf
  unfold degC
  refine cntF_two (a := b) (b := p) (by omega) (by omega) (by omega) (frS_iff.2 ⟨by omega, by rw [mm_lt hab]; exact f1⟩) (frS_iff.2 ⟨by omega, by rw [mm_lt (by omega)]; exact f2⟩) fun j hj => ?_
  rw [frS_put hab hbp (by omega) (by omega) (by omega)]
  by_cases hja : j = a
  · subst hja
    have : frS v u j j = false := by rw [← Bool.not_eq_true, frS_iff]; simp
    rw [this]; simp
  · by_cases h1 : j = b
    · simp [h1]
    · by_cases h2 : j = p
      · simp [h2]
      · simp [hja, h1, h2]
theorem deg_put_le {v u a b p x : Nat} (hv : v ≤ 15) (hab : a < b) (hbp : b < p) (hp : p < v) (hx : x < v) : degC v u x ≤ degC v (u ||| prM a b p) x + 2 := by
  unfold degC
  by_cases hin : x = a ∨ x = b ∨ x = p
  · -- the two others
    obtain ⟨y, z, hy, hz, hyz, hset⟩ : ∃ y z, y < v ∧ z < v ∧ y ≠ z ∧ ∀ j, j ≠ x → ((j = a ∨ j = b ∨ j = p) ↔ (j = y ∨ j = z)) := by
      rcases hin with rfl | rfl | rfl
      · exact ⟨b, p, by omega, by omega, by omega, fun j hj => by omega⟩
      · exact ⟨a, p, by omega, by omega, by omega, fun j hj => by omega⟩
      · exact ⟨a, b, by omega, by omega, by omega, fun j hj => by omega⟩
    have h1 := cntF_eq y v hy
    have h2 := cntF_eq z v hz
    have h3 := cntF_or (f := fun q => decide (q = y)) (g := fun q => decide (q = z)) (h := fun q => decide (q = y) || decide (q = z)) v (fun j _ => ⟨rfl, by
      rw [← Bool.not_eq_true, Bool.and_eq_true, decide_eq_true_eq, decide_eq_true_eq]; omega⟩)
    have h4 := cntF_or (f := fun q => frS v (u ||| prM a b p) x q) (g := fun q => frS v u x q && (decide (q = y) || decide (q = z))) (h := fun q => frS v u x q) v (fun j hj => by
      rw [frS_put hab hbp (by omega) (by omega) (by omega)]
      by_cases hjx : j = x
      · subst hjx
        have : frS v u j j = false := by rw [← Bool.not_eq_true, frS_iff]; simp
        rw [this]; simp
      · have hs := hset j hjx
        by_cases hj2 : j = y ∨ j = z
        · have hj3 := hs.2 hj2
          have e1 : decide (x = a ∨ x = b ∨ x = p) = true := by simpa using hin
          have e2 : decide (j = a ∨ j = b ∨ j = p) = true := by simpa using hj3
          have e3 : (decide (j = y) || decide (j = z)) = true := by simpa using hj2
          rw [e1, e2, e3]; simp
        · have hj3 : ¬ (j = a ∨ j = b ∨ j = p) := fun h => hj2 (hs.1 h)
          have e2 : decide (j = a ∨ j = b ∨ j = p) = false := by simpa using hj3
          have e3 : (decide (j = y) || decide (j = z)) = false := by simpa using hj2
          rw [e2, e3]; simp)
    have h5 := cntF_mono (f := fun q => frS v u x q && (decide (q = y) || decide (q = z))) (g := fun q => decide (q = y) || decide (q = z)) v (fun j _ h => by simp only [Bool.and_eq_true] at h; exact h.2)
    have e : (frS v u x) = (fun q => frS v u x q) := rfl
    rw [e]
    have e2 : (frS v (u ||| prM a b p) x) = (fun q => frS v (u ||| prM a b p) x q) := rfl
    rw [e2]
    omega
  · have : cntF (frS v u x) v = cntF (frS v (u ||| prM a b p) x) v := cntF_congr v fun j hj => by
      rw [frS_put hab hbp (by omega) (by omega) (by omega)]
      have e1 : decide (x = a ∨ x = b ∨ x = p) = false := by simpa using hin
      rw [e1]; simp
    omega
theorem deg_none {v u x : Nat} (hv : v ≤ 15) (h : cntC v u = 0) (hx : x < v) : degC v u x = 0 := by
  have hn := cntC_zero.1 h
  unfold degC
  have key : ∀ n, n ≤ v → cntF (frS v u x) n = 0 := by
    intro n
    induction n with
    | zero => intro _; rfl
    | succ n ih =>
      intro hnv
      have : frS v u x n = false := by
        rw [← Bool.not_eq_true, frS_iff]
        rintro ⟨h1, h2⟩
        rcases Nat.lt_or_ge x n with hlt | hge
        · rw [mm_lt hlt] at h2
          have := nxt_min (v := v) (u := u) (j := x * 16 + n) (by omega)
          rw [← Bool.not_eq_true, fr_iff (by omega)] at this
          exact this ⟨hlt, by omega, h2⟩
        · rw [mm_gt (by omega)] at h2
          have := nxt_min (v := v) (u := u) (j := n * 16 + x) (by omega)
          rw [← Bool.not_eq_true, fr_iff (by omega)] at this
          exact this ⟨by omega, by omega, h2⟩
      rw [cntF, ih (by omega), this]; rfl
  exact key v (Nat.le_refl _)
theorem loopG_len {α : Type} {f : Nat → List α} {p : Nat → Bool} {a B : Nat} : ∀ m, (∀ i, a ≤ i → i < m → p i = true → (f i).length ≤ B) → (loopG f p a m).length ≤ cntF (fun i => decide (a ≤ i) && p i) m * B := by
  intro m
  induction m with
  | zero => intro _; simp [loopG]
  | succ m ih =>
    intro h
    have h1 := ih (fun i a1 a2 => h i a1 (by omega))
    rw [loopG, List.length_append, cntF]
    by_cases e : a ≤ m ∧ p m = true
    · rw [if_pos e]
      have h2 := h m e.1 (by omega) e.2
      have e2 : (decide (a ≤ m) && p m) = true := by simpa using e
      rw [e2, if_pos rfl, Nat.add_mul, Nat.one_mul]; omega
    · rw [if_neg e]
      have e2 : (decide (a ≤ m) && p m) = false := by
        rw [← Bool.not_eq_true, Bool.and_eq_true, decide_eq_true_eq]; exact e
      rw [e2]; simp; exact h1
/-- no way on if a point has too many partners left -/
theorem enum_dead {v : Nat} (hv : v ≤ 15) : ∀ d u L x, cntC v u = 3 * d → x < v → 2 * d < degC v u x → enumC v d u L = [] := by
  intro d
  induction d with
  | zero => intro u L x hc hx hd; rw [deg_none hv (by omega) hx] at hd; omega
  | succ d ih =>
    intro u L x hc hx hd
    have hlt : nxt v u < 256 := by
      have := nxt_le v u
      by_cases e : nxt v u = 256
      · have := cntC_zero.2 e; omega
      · omega
    obtain ⟨a, b, hn, hab, hb, hbit⟩ := nxt_ab hv hlt
    rw [enumC_succ d L (by omega) hn]
    have key : ∀ k, k ≤ v → loopG (fun p => enumC v d (u ||| prM a b p) (L ++ [blkN a b p])) (fun p => fitQ3 u a b p) (b + 1) k = [] := by
      intro k
      induction k with
      | zero => intro _; rfl
      | succ k ihk =>
        intro hk
        rw [loopG, ihk (by omega)]
        by_cases e : b + 1 ≤ k ∧ fitQ3 u a b k = true
        · rw [if_pos e]
          have h1 := cntC_put hv hab e.1 (by omega) e.2
          have h2 := deg_put_le (u := u) hv hab e.1 (by omega : k < v) hx
          rw [ih _ _ x (by omega) hx (by omega)]; rfl
        · rw [if_neg e]; rfl
    exact key v (Nat.le_refl _)
/-- bounds on the number of ways: row d, column D: d blocks to come, D partners left for the first point -/
def tbH : List (List Nat) := [[1, 1, 1, 1, 1, 1, 1, 1, 1, 1, 1, 1, 1, 1, 1], [0, 0, 1, 0, 0, 0, 0, 0, 0, 0, 0, 0, 0, 0, 0], [0, 0, 1, 0, 3, 0, 0, 0, 0, 0, 0, 0, 0, 0, 0], [0, 0, 3, 0, 3, 0, 15, 0, 0, 0, 0, 0, 0, 0, 0], [0, 0, 15, 0, 9, 0, 15, 0, 105, 0, 0, 0, 0, 0, 0], [0, 0, 105, 0, 45, 0, 45, 0, 105, 0, 945, 0, 0, 0, 0], [0, 0, 945, 0, 315, 0, 225, 0, 315, 0, 945, 0, 10395, 0, 0], [0, 0, 10395, 0, 2835, 0, 1575, 0, 1575, 0, 2835, 0, 10395, 0, 135135], [0, 0, 135135, 0, 31185, 0, 14175, 0, 11025, 0, 14175, 0, 31185, 0, 135135], [0, 0, 135135, 0, 405405, 0, 155925, 0, 99225, 0, 99225, 0, 155925, 0, 405405], [0, 0, 405405, 0, 405405, 0, 2027025, 0, 1091475, 0, 893025, 0, 1091475, 0, 2027025], [0, 0, 2027025, 0, 1216215, 0, 2027025, 0, 14189175, 0, 9823275, 0, 9823275, 0, 14189175], [0, 0, 14189175, 0, 6081075, 0, 6081075, 0, 14189175, 0, 127702575, 0, 108056025, 0, 127702575]]
def mxH : List Nat := [1, 1, 3, 15, 105, 945, 10395, 135135, 135135, 405405, 2027025, 14189175, 127702575]
def tb (d D : Nat) : Nat := (tbH.getD d []).getD D 0
def mx (d : Nat) : Nat := mxH.getD d 0
theorem tb_step : ∀ d, d < 12 → ∀ D, D < 15 → ¬ 2 * (d + 1) < D → (D - 1) * (if 2 < D then tb d (D - 2) else if d = 0 then 1 else mx d) ≤ tb (d + 1) D := by decide +kernel
theorem tb_mx : ∀ d, d < 13 → ∀ D, D < 15 → tb d D ≤ mx d := by decide +kernel
theorem tb_zero : ∀ D, D < 15 → tb 0 D = 1 := by decide +kernel
theorem mx_lt : ∀ d, d < 13 → mx d < 1000000000 := by decide +kernel
theorem deg_le {v u x : Nat} (hv : v ≤ 15) (hx : x < v) : degC v u x ≤ 14 := by
  unfold degC
  have h1 := cntF_eq x v hx
  have h2 := cntF_or (f := frS v u x) (g := fun q => decide (q = x)) (h := fun q => frS v u x q || decide (q = x)) v (fun j _ => ⟨rfl, by
    rw [← Bool.not_eq_true, Bool.and_eq_true, frS_iff, decide_eq_true_eq]; omega⟩)
  have h3 := cntF_le (fun q => frS v u x q || decide (q = x)) v
  omega
theorem fits_le {v u a b : Nat} (hv : v ≤ 15) (hab : a < b) (hb : b < v) (hbit : u.testBit (a * 16 + b) = false) : cntF (fun p => decide (b + 1 ≤ p) && fitQ3 u a b p) v ≤ degC v u a - 1 := by
  have h1 := cntF_eq b v hb
  have h2 := cntF_or (f := fun p => decide (b + 1 ≤ p) && fitQ3 u a b p) (g := fun q => decide (q = b)) (h := fun q => (decide (b + 1 ≤ q) && fitQ3 u a b q) || decide (q = b)) v (fun j _ => ⟨rfl, by
    rw [← Bool.not_eq_true, Bool.and_eq_true, Bool.and_eq_true, decide_eq_true_eq, decide_eq_true_eq]; omega⟩)
  have h3 := cntF_mono (f := fun q => (decide (b + 1 ≤ q) && fitQ3 u a b q) || decide (q = b)) (g := frS v u a) v (fun j hj h => by
    rw [frS_iff]
    rw [Bool.or_eq_true, Bool.and_eq_true, decide_eq_true_eq, decide_eq_true_eq] at h
    rcases h with ⟨h, h2⟩ | h
    · exact ⟨by omega, by rw [mm_lt (by omega)]; exact (fitQ3_iff.1 h2).2.1⟩
    · subst h; exact ⟨by omega, by rw [mm_lt hab]; exact hbit⟩)
  unfold degC
  omega
theorem nxt_stay {v u a b p : Nat} (hv : v ≤ 15) (hn : nxt v u = a * 16 + b) (hab : a < b) (hb : b < v) (hbp : b < p) (hp : p < v) (hd : 0 < degC v (u ||| prM a b p) a) : ∃ b', nxt v (u ||| prM a b p) = a * 16 + b' ∧ a < b' ∧ b' < v := by
  have hex : ∃ x, x < v ∧ frS v (u ||| prM a b p) a x = true := by
    have key : ∀ n, n ≤ v → 0 < cntF (frS v (u ||| prM a b p) a) n → ∃ x, x < n ∧ frS v (u ||| prM a b p) a x = true := by
      intro n
      induction n with
      | zero => intro _ h; simp [cntF] at h
      | succ n ih =>
        intro hnv h
        rw [cntF] at h
        cases hf : frS v (u ||| prM a b p) a n
        · rw [hf] at h
          obtain ⟨x, h1, h2⟩ := ih (by omega) (by simpa using h)
          exact ⟨x, by omega, h2⟩
        · exact ⟨n, by omega, hf⟩
    exact key v (Nat.le_refl _) hd
  obtain ⟨x, hx, hfx⟩ := hex
  obtain ⟨h1, h2⟩ := frS_iff.1 hfx
  have hsub : ∀ k, frK v (u ||| prM a b p) k = true → frK v u k = true := fun k h => by
    unfold frK at h ⊢
    rw [Nat.testBit_or] at h
    simp only [Bool.and_eq_true, Bool.not_eq_true', Bool.or_eq_false_iff] at h ⊢
    exact ⟨h.1, h.2.1⟩
  have hax : a < x := by
    rcases Nat.lt_or_ge a x with h | h
    · exact h
    · exfalso
      rw [mm_gt (by omega)] at h2
      have h3 := hsub (x * 16 + a) ((fr_iff (by omega)).2 ⟨by omega, by omega, h2⟩)
      rw [nxt_min (by omega)] at h3; cases h3
  rw [mm_lt hax] at h2
  have h3 : frK v (u ||| prM a b p) (a * 16 + x) = true := (fr_iff (by omega)).2 ⟨hax, hx, h2⟩
  have h4 : nxt v (u ||| prM a b p) ≤ a * 16 + x := by
    rcases Nat.lt_or_ge (a * 16 + x) (nxt v (u ||| prM a b p)) with h | h
    · rw [nxt_min h] at h3; cases h3
    · exact h
  obtain ⟨a', b', e1, e2, e3, e4⟩ := nxt_ab hv (by omega : nxt v (u ||| prM a b p) < 256)
  have h5 := hsub _ (nxt_fr (v := v) (u := u ||| prM a b p) (by omega))
  have h6 : a * 16 + b ≤ nxt v (u ||| prM a b p) := by
    rcases Nat.lt_or_ge (nxt v (u ||| prM a b p)) (a * 16 + b) with h | h
    · rw [nxt_min (by omega)] at h5; cases h5
    · exact h
  have : a' = a := by omega
  subst this
  exact ⟨b', e1, e2, e3⟩
theorem enum_len {v : Nat} (hv : v ≤ 15) : ∀ d u L, d ≤ 12 → cntC v u = 3 * d → (enumC v d u L).length ≤ mx d ∧ (d = 0 → (enumC v d u L).length = 1) ∧ ∀ a b, nxt v u = a * 16 + b → a < b → b < v → (enumC v d u L).length ≤ tb d (degC v u a) := by
  intro d
  induction d with
  | zero =>
    intro u L _ hc
    refine ⟨by rw [enumC]; show 1 ≤ mx 0; decide, fun _ => by rw [enumC]; rfl, fun a b _ hab hb => ?_⟩
    rw [enumC, tb_zero _ (by have := deg_le (u := u) hv (by omega : a < v); omega)]; simp
  | succ d ih =>
    intro u L hd hc
    have hlt : nxt v u < 256 := by
      have := nxt_le v u
      by_cases e : nxt v u = 256
      · have := cntC_zero.2 e; omega
      · omega
    obtain ⟨a, b, hn, hab, hb, hbit⟩ := nxt_ab hv hlt
    have hD := deg_le (u := u) hv (by omega : a < v)
    have main : (enumC v (d + 1) u L).length ≤ tb (d + 1) (degC v u a) := by
      by_cases hdead : 2 * (d + 1) < degC v u a
      · rw [enum_dead hv (d + 1) u L a hc (by omega) hdead]; simp
      · refine Nat.le_trans ?_ (tb_step d (by omega) (degC v u a) (by omega) hdead)
        rw [enumC_succ d L (by omega) hn]
        refine Nat.le_trans (loopG_len (B := if 2 < degC v u a then tb d (degC v u a - 2) else if d = 0 then 1 else mx d) v fun p hp1 hp2 hp3 => ?_) (Nat.mul_le_mul_right _ (fits_le hv hab hb hbit))
        have hput := cntC_put hv hab hp1 hp2 hp3
        have hdp := deg_put hv hab hp1 hp2 hp3
        obtain ⟨i1, i2, i3⟩ := ih (u ||| prM a b p) (L ++ [blkN a b p]) (by omega) (by omega)
        by_cases h2 : 2 < degC v u a
        · rw [if_pos h2]
          obtain ⟨b', e1, e2, e3⟩ := nxt_stay hv hn hab hb hp1 hp2 (by omega)
          have := i3 a b' e1 e2 e3
          have e : degC v u a - 2 = degC v (u ||| prM a b p) a := by omega
          rw [e]; exact this
        · rw [if_neg h2]
          by_cases h0 : d = 0
          · rw [if_pos h0, i2 h0]; exact Nat.le_refl _
          · rw [if_neg h0]; exact i1
    refine ⟨Nat.le_trans main (tb_mx (d + 1) (by omega) _ (by omega)), fun h => by omega, fun a' b' h1 h2 h3 => ?_⟩
    have : a' = a := by omega
    rw [this]; exact main
theorem add_bound {n : Nat} {xs : List Blk} (hs : isSys n xs) (ht : n = 3 ∨ n = 7 ∨ n = 9 ∨ n = 13 ∨ n = 15) (hm : misN n xs ≤ 12) : (addC n xs).length < 1000000000 := by
  have hv := hs.1.2
  have h := (enum_len (v := n) (by omega) (misN n xs) (mskN xs xs.length) [] hm (mis_cnt hs ht).1).1
  have := mx_lt (misN n xs) (by omega)
  unfold addC
  omega

end Go.Proofs.Ytbknpflbafjblaa

/- Contracts of the number of completions, of the reference and of the program; conditions: stated in each. -/
namespace Go.Proofs.Ytbknpflbafjblaa
open Go.RowKit
set_option maxHeartbeats 2000000
set_option maxRecDepth 100000
set_option linter.unusedSimpArgs false
set_option linter.unusedVariables false

/-- the number of completions and a code -/
noncomputable def cnuR (v : Int) (xs : List Blk) : Int × Int := (((cmpR v xs 1073741824).1.length : Nat), (cmpR v xs 1073741824).2)
theorem cnu_full {n : Nat} {xs : List Blk} (hs : isSysB n xs = true) (ht : told n = true) (hm : misN n xs ≤ 12) : ((takeG [] 1000000000 (addC n xs)).length : Int) = (cnuR n xs).1 := by
  have hb := add_bound (isSysB_iff.1 hs) (told_nat ht) hm
  unfold cnuR
  rw [cmpR_yes hs ht hm]
  show _ = ((cplL n xs 1073741824).length : Int)
  unfold takeG cplL
  rw [List.length_map, List.nil_append, List.length_take, List.length_take, List.length_nil]
  omega
theorem specCnu_any (v : Int) (A : Option Addr) (c : Nat) (xs : List Blk) (w : World) (hA : Bl w A xs) (hl : xs.length ≤ 1048576) :
    Calls Try.prog 49 #[.agg #[.int .i64 v, .slice A xs.length c]] w fun e w' => e = .returned (.tuple #[.int .i64 (cnuR v xs).1, .int .i64 (cnuR v xs).2]) ∧ Below w.heap.size w w' := by
  by_cases hz : isSysB v xs = true ∧ told v = true ∧ misN v.toNat xs ≤ 12
  · obtain ⟨hs, ht, hm⟩ := hz
    have HS := Lib.hid (isSysB_iff.1 hs)
    have hv := HS.out.1
    obtain ⟨n, rfl⟩ := Int.eq_ofNat_of_zero_le (by omega : 0 ≤ v)
    have hm : misN n xs ≤ 12 := hm
    have HC : Hid ((cmpR n xs 1073741824).2 = 0) := by unfold Hid; rw [cmpR_yes hs ht hm]
    have HN1 := Lib.hid (cnu_full hs ht hm)
    have HN2 : Hid ((cnuR n xs).2 = 0) := by unfold Hid cnuR; rw [HC.out]
    have HT := Lib.hid (told_nat ht)
    have hk := takeG_len (found := ([] : List (List Blk))) (most := 1000000000) (by simp) (addC n xs)
    generalize cnuR n xs = R at *
    clear hs ht
    have HA := Lib.hid hA; clear hA; have HR := Lib.hid (Row.box w 30 (.int .i64 n) (.slice A xs.length c)); have HW := Lib.hid (Since.refl w); go_enter Try.func49, Try.ntmps49; go_wp2_with fail; replace HA := Lib.hid (HA.out.below (below_alloc _ (.cells #[.int .i64 n, .slice A xs.length c] 30))); replace HW := Lib.hid (HW.out.below (below_alloc _ (.cells #[.int .i64 n, .slice A xs.length c] 30)))
    refine (l08Code_any n A c xs 1073741824 _ HA.out hl).mono ?_; rw [HC.out]; rintro e w_ ⟨rfl, hb⟩; replace HA := Lib.hid (HA.out.below hb); replace HW := Lib.hid (HW.out.below hb); replace HR := Lib.hid (HR.out.below hb); clear hb; (try clear c0 c1); obtain ⟨c0, c1⟩ := HR.out.c2
    go_wp2_with fail
    refine (l08Run_any n A c xs 1000000000 false _ HA.out HS.out HT.out (by omega) (by omega)).mono ?_
    rintro e w2 ⟨s, u, g, rfl, hsk, _, hb⟩
    obtain ⟨c0, c1, c2, c3, c4, c5⟩ := hsk.c6
    have hsl := hsk.lt
    have HW2 := Lib.hid (HW.out.below hb)
    clear hb hsk
    go_wp2
    go_ret2
    exact ⟨ret_ii HN1.out HN2.out.symm, HW2.out⟩
  · have HE : Hid (cnuR v xs = (0, (cmpR v xs 1073741824).2) ∧ (cmpR v xs 1073741824).2 ≠ 0) := by
      unfold Hid cnuR
      cases hs : isSysB v xs
      · rw [cmpR_bad hs]; exact ⟨rfl, by decide⟩
      · cases ht : told v
        · rw [cmpR_not hs ht]; exact ⟨rfl, by decide⟩
        · rw [cmpR_many hs ht (fun h => hz ⟨hs, ht, h⟩)]; exact ⟨rfl, by decide⟩
    have HCD := Lib.hid (l08Code_any v A c xs 1073741824)
    generalize cnuR v xs = R at *
    generalize (cmpR v xs 1073741824).2 = k at *
    have hk : (k != 0) = true := by simpa using HE.out.2
    have HA := Lib.hid hA; clear hA; have HR := Lib.hid (Row.box w 30 (.int .i64 v) (.slice A xs.length c)); have HW := Lib.hid (Since.refl w); go_enter Try.func49, Try.ntmps49; go_wp2_with fail; replace HA := Lib.hid (HA.out.below (below_alloc _ (.cells #[.int .i64 v, .slice A xs.length c] 30))); replace HW := Lib.hid (HW.out.below (below_alloc _ (.cells #[.int .i64 v, .slice A xs.length c] 30)))
    refine (HCD.out _ HA.out hl).mono ?_; rintro e w_ ⟨rfl, hb⟩; replace HW := Lib.hid (HW.out.below hb); clear hb
    go_wp2
    go_ret2
    exact ⟨by rw [HE.out.1]; rfl, HW.out⟩
theorem implCnu_any (v : Int) (A : Option Addr) (c : Nat) (xs : List Blk) (w : World) (hA : Bl w A xs) (hl : xs.length ≤ 1048576) :
    Calls Try.prog 50 #[.agg #[.int .i64 v, .slice A xs.length c]] w fun e w' => e = .returned (.tuple #[.int .i64 (cnuR v xs).1, .int .i64 (cnuR v xs).2]) ∧ Below w.heap.size w w' := by
  have HN : Hid (cnuR v xs = ((((cmpR v xs 1073741824).1.length : Nat) : Int), (cmpR v xs 1073741824).2)) := rfl
  have hlen : (cmpR v xs 1073741824).1.length ≤ 1073741824 := by
    unfold cmpR
    split
    · split
      · split
        · exact cplL_len _ _ _
        · simp
      · simp
    · simp
  generalize cnuR v xs = R at *
  have HA := Lib.hid hA; clear hA; have HR := Lib.hid (Row.box w 30 (.int .i64 v) (.slice A xs.length c)); have HW := Lib.hid (Since.refl w); go_enter Try.func50, Try.ntmps50; go_wp2_with fail; replace HA := Lib.hid (HA.out.below (below_alloc _ (.cells #[.int .i64 v, .slice A xs.length c] 30))); replace HW := Lib.hid (HW.out.below (below_alloc _ (.cells #[.int .i64 v, .slice A xs.length c] 30)))
  refine (completions_any v A c xs 1073741824 _ HA.out hl (by omega) (by omega)).mono ?_
  rintro e w2 ⟨A', c', S, rfl, _, hb⟩
  have HW2 := Lib.hid (HW.out.below hb)
  clear hb
  go_wp2
  go_ret2
  exact ⟨by rw [HN.out]; rfl, HW2.out⟩

end Go.Proofs.Ytbknpflbafjblaa
