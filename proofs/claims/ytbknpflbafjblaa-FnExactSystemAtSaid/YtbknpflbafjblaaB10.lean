/- Plain laws and contracts, part 10; conditions: stated in each. -/
import Derived.Test.YtbknpflbafjblaaB1
import Derived.Test.YtbknpflbafjblaaB6
import Derived.Test.YtbknpflbafjblaaB7
import Derived.Test.YtbknpflbafjblaaB8
import Derived.Test.YtbknpflbafjblaaB9
set_option linter.unusedSimpArgs false
set_option linter.unusedVariables false
/- The contract of what the program's walk through all systems calls; conditions: stated in it. -/
namespace Go.Proofs.Ytbknpflbafjblaa
open Go.RowKit
set_option maxHeartbeats 2000000
set_option maxRecDepth 100000
set_option linter.unusedSimpArgs false
set_option linter.unusedVariables false

/-- what is known while all systems are listed -/
structure InvY (W0 : World) (B r8 r2 n : Nat) (C : List (List Blk)) (S : Nat → Prop) (w : World) : Prop where
  below : Below W0.heap.size W0 w
  size : B ≤ w.heap.size
  x : Row w r2 2 #[.int .i64 n]
  out : ∃ u, Row w r8 38 #[u] ∧ LSS S w B n u C
  away : ∀ k, S k → B ≤ k
theorem sysCl_any (W0 : World) (B r8 r2 n : Nat) (hB : W0.heap.size ≤ B) (h8 : W0.heap.size ≤ r8 ∧ r8 < B) (h2 : r2 < B) (hne2 : r2 ≠ r8) (cb g : Nat) :
    EachC B cb g n 140 #[] #[.pointer (some ⟨r8, 0, none⟩), .pointer (some ⟨r2, 0, none⟩)] (fun _ => true) (InvY W0 B r8 r2 n) (fun L => L.length ≤ 1048576) 1000000000 := by
  refine ⟨fun args w => by kernel_rfl, fun C S w w' row hI hg hr => ?_, fun C S w k hI hS => ?_, ?_⟩
  · obtain ⟨hb, hz, hx, ⟨u, hu, hl⟩, haw⟩ := hI
    have hne : ∀ j, j < B → row ≠ some j := fun j hj e => by have := (hr j e).2; omega
    refine ⟨hb.grown hg hb.size (fun k e => by have := (hr k e).2; omega), Nat.le_trans hz hg.size, Row.grown hx hg (hne _ h2), ⟨u, Row.grown hu hg (hne _ h8.2), hl.kept hg fun k e => (hr k e).1⟩, haw⟩
  · obtain ⟨_, _, _, ⟨u, _, hl⟩, _⟩ := hI
    exact hl.1 k hS
  · intro C S L W A1 c1 hV hCN hgo hI hBW hL
    obtain ⟨si0, hsi, hsi0, hsi1, hsi2⟩ := info_parts infoSys'
    obtain ⟨hb, hz, hx, ⟨u, hu, hls⟩, haw⟩ := hI
    have HB0 : Hid (¬ S r8) := fun h => by have := haw _ h; omega
    have HAW := Lib.hid haw
    have HSU : Hid (∀ b, u.ownBlock = some b → S b) := hls.2.elim fun _ h => h.2.2.2.1
    clear haw
    have HB := Lib.hid hb; have HX := Lib.hid hx; have HU := Lib.hid hu; have HLS := Lib.hid hls; have HL := Lib.hid hL; have HV : Hid (L.length ≤ 1048576) := hV
    have hCl : C.length < 1073741825 := by omega
    clear hb hx hu hls hL hV hgo hCN
    obtain ⟨Au, cu, rfl⟩ := HLS.out.slice
    obtain ⟨hs, hown, hpush⟩ := HLS.out.push
    have HOWN := Lib.hid hown; have HPUSH := Lib.hid hpush
    clear hown hpush
    have x0 : W.cell? ⟨r2, 0, none⟩ = some (.int .i64 n) := (Row.cell HX.out 0).trans rfl
    have u0 : W.cell? ⟨r8, 0, none⟩ = some (.slice Au C.length cu) := (Row.cell HU.out 0).trans rfl
    have hxl := Row.lt HX.out
    have hul := Row.lt HU.out
    go_enter Try.func140, Try.ntmps140
    go_wp2
    refine wp_region_noPanic ?_
    refine AnyBut.begin (N := 7) (S := (fun w' => w'.cell? ⟨r8, 0, none⟩ = some (.slice Au C.length cu) ∧ w'.cell? ⟨r2, 0, none⟩ = some (.int .i64 n))) (by kernel_rfl) ?_
    have hS0 : (fun w' : World => w'.cell? ⟨r8, 0, none⟩ = some (.slice Au C.length cu) ∧ w'.cell? ⟨r2, 0, none⟩ = some (.int .i64 n)) W.drew := ⟨u0, x0⟩
    refine AnyBut.take (i := 0) (v := ?_) rfl rfl (by decide) (by kernel_rfl) (by kernel_rfl) (by kernel_rfl) (by kernel_rfl) (fun _ _ _ h => h) (Or.inl ⟨by rfl, ?_⟩) hS0 ?_; rotate_left; (focus (intro W hSw; (try dsimp only at hSw); obtain ⟨z0, z1⟩ := hSw; go_simp; (try with_reducible rfl))); (try simp only [Act.put, List.setIfInBounds_toArray, List.set_cons_zero, List.set_cons_succ]); refine AnyBut.take (i := 1) (v := ?_) rfl rfl (by decide) (by kernel_rfl) (by kernel_rfl) (by kernel_rfl) (by kernel_rfl) (fun _ _ _ h => h) (Or.inl ⟨by rfl, ?_⟩) hS0 ?_; rotate_left; (focus (intro W hSw; (try dsimp only at hSw); obtain ⟨z0, z1⟩ := hSw; go_simp; (try with_reducible rfl))); (try simp only [Act.put, List.setIfInBounds_toArray, List.set_cons_zero, List.set_cons_succ]); refine AnyBut.take (i := 2) (v := ?_) rfl rfl (by decide) (by kernel_rfl) (by kernel_rfl) (by kernel_rfl) (by kernel_rfl) (fun _ _ _ h => h) (Or.inl ⟨by rfl, ?_⟩) hS0 ?_; rotate_left; (focus (intro W hSw; (try dsimp only at hSw); obtain ⟨z0, z1⟩ := hSw; go_simp; (try with_reducible rfl))); (try simp only [Act.put, List.setIfInBounds_toArray, List.set_cons_zero, List.set_cons_succ])
    have HSX : Hid (∀ w', Below W.heap.size W w' → w'.cell? ⟨r8, 0, none⟩ = some (.slice Au C.length cu) ∧ w'.cell? ⟨r2, 0, none⟩ = some (.int .i64 n)) := fun w' hb => ⟨(Row.cell (Row.below HU.out hb) 0).trans rfl, (Row.cell (Row.below HX.out hb) 0).trans rfl⟩
    clear hS0
    refine AnyBut.ready (rs := [3]) (by kernel_rfl) (by simp) ?_; refine AllBut.cons rfl (fun K hK => ?_) AllBut.nil
    rw [if_pos (by rfl)]
    go_simp
    refine (cloneB_any A1 c1 L _ (HL.out.below (below_drew W)) HV.out).mono ?_
    rintro e w1 ⟨r, rfl, hO, hb1⟩
    obtain ⟨Br, dr, rfl⟩ := own_slice hO
    have HB1 : Hid (Below W.heap.size W w1) := below_up (below_drew W) hb1
    have HO1 : Hid (OB w1 B (.slice Br L.length dr) L) := OB.base hO hBW
    have HF1 : Hid (∀ b, (Value.slice Br L.length dr).ownBlock = some b → W.heap.size ≤ b) := fun b e => own_block hO b e
    clear hO hb1
    refine hK.out _ _ (fun _ => HSX.out _ HB1.out) ?_
    clear hK K
    (try simp only [Act.put, List.setIfInBounds_toArray, List.set_cons_zero, List.set_cons_succ])
    refine AnyBut.ready (rs := [4]) (by kernel_rfl) (by simp) ?_; refine AllBut.cons rfl (fun K hK => ?_) AllBut.nil
    go_simp
    refine hK.out _ _ (fun _ => HSX.out _ HB1.out) ?_
    clear hK K
    (try simp only [Act.put, List.setIfInBounds_toArray, List.set_cons_zero, List.set_cons_succ])
    refine AnyBut.ready (rs := [5]) (by kernel_rfl) (by simp) ?_; refine AllBut.cons rfl (fun K hK => ?_) AllBut.nil
    go_simp
    refine hK.out _ _ (fun _ => HSX.out _ ?_) ?_
    · exact below_up HB1.out (below_alloc w1 _)
    clear hK K
    (try simp only [Act.put, List.setIfInBounds_toArray, List.set_cons_zero, List.set_cons_succ])
    refine AnyBut.ready (rs := [6]) (by kernel_rfl) (by simp) ?_; refine AllBut.cons rfl (fun K hK => ?_) AllBut.nil
    have HOW1 : Hid (w1.ownsRow B 30 2 (.slice Au C.length cu) C.length (hdS n hs C.length)) := own_below HOWN.out HB1.out
    have hz1 := HB1.out.size
    refine step_append_lies _ (by rfl) _ _ 38 (by rfl) B 30 si0 (.agg #[.int .i64 0, .slice none 0 0]) 2 32 Try.underlying38 hsi hsi0 hsi1 hsi2 rfl (by decide) _ _ _ (by rfl) (HOW1.out.alloc _) ⟨w1.heap.size, 0, none⟩ 1 1 [.int .i64 (n : Int), .slice Br L.length dr] (by rfl) rfl (cells_new _ _ _) (by simp [Value.oneCell']) (by omega) (by unfold maxLen; omega) (by omega) (by simp; omega) (w1.heap.size + 1) (by simp) ?_
    intro g7 cap7 w7 hO7 hg7 hat7 hlt7
    have HAT7 : Hid ((Value.slice (some ⟨g7, 0, none⟩) (C.length + 1) cap7).ownBlock = (Value.slice Au C.length cu).ownBlock ∨ ∃ q, (Value.slice (some ⟨g7, 0, none⟩) (C.length + 1) cap7).ownBlock = some q ∧ W.heap.size ≤ q) := by
      rcases hat7 with h | h
      · exact .inl h.symm
      · exact .inr ⟨g7, rfl, by omega⟩
    have HLS7 := Lib.hid (HPUSH.out w1 _ w7 _ _ L HB1.out HO1.out HF1.out (below_alloc w1 _) hg7 hO7 HAT7.out)
    have HGR7 : Hid (W.grownBy w7 (Value.slice Au C.length cu).ownBlock) := grown_trans (grown_below (below_up HB1.out (below_alloc w1 _)) _) hg7
    have HOB : Hid (∀ b, (Value.slice Au C.length cu).ownBlock = some b → B ≤ b) := own_block HOWN.out
    have HNE : Hid ((Value.slice Au C.length cu).ownBlock ≠ some r8 ∧ (Value.slice Au C.length cu).ownBlock ≠ some r2) := ⟨fun e => by have := HOB.out _ e; omega, fun e => by have := HOB.out _ e; omega⟩
    clear hO7 hg7 hat7
    have HSX7 : Hid (w7.cell? ⟨r8, 0, none⟩ = some (.slice Au C.length cu) ∧ w7.cell? ⟨r2, 0, none⟩ = some (.int .i64 n)) := ⟨(Row.cell (Row.grown HU.out HGR7.out HNE.out.1) 0).trans rfl, (Row.cell (Row.grown HX.out HGR7.out HNE.out.2) 0).trans rfl⟩
    refine hK.out _ _ (fun _ => HSX7.out) ?_
    clear hK K x0 u0 hxl hul
    have HU7 := Lib.hid (Row.grown HU.out HGR7.out HNE.out.1)
    have u0 : w7.cell? ⟨r8, 0, none⟩ = some (.slice Au C.length cu) := (Row.cell HU7.out 0).trans rfl
    have hul := Row.lt HU7.out
    have uf := Row.frozen HU7.out 0
    (try simp only [Act.put, List.setIfInBounds_toArray, List.set_cons_zero, List.set_cons_succ])
    refine AnyBut.ready (rs := [7]) (by kernel_rfl) (by simp) ?_; refine AllBut.cons rfl (fun K hK => ?_) AllBut.nil
    go_simp
    refine hK.out _ _ (fun h => absurd rfl h) ?_
    clear hK K
    (try simp only [Act.put, List.setIfInBounds_toArray, List.set_cons_zero, List.set_cons_succ])
    refine AnyBut.done (by kernel_rfl) ?_ _
    refine NoPanic.normal ?_
    have HU8 : Hid (Row (w7.setCell ⟨r8, 0, none⟩ (.slice (some ⟨g7, 0, none⟩) (C.length + 1) cap7)) r8 38 #[.slice (some ⟨g7, 0, none⟩) (C.length + 1) cap7]) := Row.set HU7.out 0 _
    have HX8 := Lib.hid (Row.far (Row.grown HX.out HGR7.out HNE.out.2) (p := ⟨r8, 0, none⟩) (Ne.symm hne2) (.slice (some ⟨g7, 0, none⟩) (C.length + 1) cap7))
    have HNS : Hid (¬ (S r8 ∨ (W.heap.size ≤ r8 ∧ r8 < w7.heap.size))) := by
      rintro (h | h)
      · have h1 := HB0.out; exact h1 h
      · omega
    have HLS8 := Lib.hid (HLS7.out.kept (row := some r8) (grown_set (grown_refl w7 (some r8)) 0 (.slice (some ⟨g7, 0, none⟩) (C.length + 1) cap7)) (fun k e => by simp only [Option.some.injEq] at e; subst e; exact HNS.out))
    have HB8 : Hid (Below W0.heap.size W0 (w7.setCell ⟨r8, 0, none⟩ (.slice (some ⟨g7, 0, none⟩) (C.length + 1) cap7))) := (HB.out.grown HGR7.out HB.out.size (fun k e => Nat.le_trans hB (HOB.out k e))).setCell h8.1 _
    have HK8 : Hid (W.heap.size ≤ (w7.setCell ⟨r8, 0, none⟩ (.slice (some ⟨g7, 0, none⟩) (C.length + 1) cap7)).heap.size ∧ ∀ k, k < W.heap.size → B ≤ k → ¬ S k → (w7.setCell ⟨r8, 0, none⟩ (.slice (some ⟨g7, 0, none⟩) (C.length + 1) cap7)).heap[k]? = W.heap[k]?) := by
      refine ⟨by have := HGR7.out.size; simpa [World.setCell] using this, fun k hk hBk hSk => ?_⟩
      exact (Below.heap_setCell w7 ⟨r8, 0, none⟩ _ k (by simp; omega)).trans (HGR7.out.block k hk fun e => hSk (HSU.out k e.symm))
    generalize hw8 : w7.setCell ⟨r8, 0, none⟩ (.slice (some ⟨g7, 0, none⟩) (C.length + 1) cap7) = w8 at *
    have hul8 := Row.lt HU8.out
    have v0 : w8.cell? ⟨r8, 0, none⟩ = some (.slice (some ⟨g7, 0, none⟩) (C.length + 1) cap7) := (Row.cell HU8.out 0).trans rfl
    clear u0 hul uf
    go_wp2
    go_ret
    refine ⟨rfl, fun b => S b ∨ (W.heap.size ≤ b ∧ b < w7.heap.size), ⟨HB8.out, Nat.le_trans hBW HK8.out.1, HX8.out, ⟨_, HU8.out, ?_⟩, fun k h => ?_⟩, HK8.out.1, fun k hk h => ?_, HK8.out.2⟩
    · exact HLS8.out
    · rcases h with h | h
      · exact HAW.out k h
      · omega
    · rcases h with h | h
      · exact h
      · omega

end Go.Proofs.Ytbknpflbafjblaa

/- The contract of the program's list of all systems; conditions: stated in it. -/
namespace Go.Proofs.Ytbknpflbafjblaa
open Go.RowKit
set_option maxHeartbeats 2000000
set_option maxRecDepth 100000
set_option linter.unusedSimpArgs false
set_option linter.unusedVariables false

theorem systemsOf_any (n : Nat) (w : World) (ht : n = 3 ∨ n = 7 ∨ n = 9) (hs : isSys n []) (hm : misN n [] ≤ 12) :
    Calls Try.prog 89 #[.int .i64 (n : Int)] w fun e w' => ∃ A' c' S, e = .returned (.slice A' (addC n []).length c') ∧ LSS S w' w.heap.size n (.slice A' (addC n []).length c') (addC n []) ∧ Below w.heap.size w w' := by
  have ht5 : n = 3 ∨ n = 7 ∨ n = 9 ∨ n = 13 ∨ n = 15 := by omega
  have HS := Lib.hid hs
  have HN := Lib.hid (Nat.le_of_lt (add_bound hs ht5 hm))
  have HT := Lib.hid ht5
  have H12 := Lib.hid hm
  have HQ := Lib.hid (Row.new w 2 #[.int .i64 (n : Int)])
  have hb2 := below_alloc (w.alloc (.cells #[.int .i64 (n : Int)] 2)) (.cells #[.slice none 0 0] 38)
  have HQ2 := Lib.hid (Row.below HQ.out hb2)
  have HB2 := Lib.hid (below_up (below_alloc w (.cells #[.int .i64 (n : Int)] 2)) hb2)
  have HU2 := Lib.hid (Row.new (w.alloc (.cells #[.int .i64 (n : Int)] 2)) 38 #[.slice none 0 0])
  rw [World.size_alloc] at HU2
  have HZ : Hid (((w.alloc (.cells #[.int .i64 (n : Int)] 2)).alloc (.cells #[.slice none 0 0] 38)).heap.size = w.heap.size + 2) := by unfold Hid; rw [World.size_alloc, World.size_alloc]
  clear hb2 hs hm ht5
  go_enter Try.func89, Try.ntmps89
  have q0 := (Row.cell HQ.out 0).trans rfl
  go_wp2_with fail
  generalize hw3 : (w.alloc (.cells #[.int .i64 (n : Int)] 2)).alloc (.cells #[.slice none 0 0] 38) = w3 at *
  (try rw [hw3])
  have hz := HZ.out
  have HINV : Hid (InvY w w3.heap.size (w.heap.size + 1) w.heap.size n [] (fun _ => False) w3) := ⟨HB2.out, Nat.le_refl _, HQ2.out, ⟨_, HU2.out, LSS.nil _ _ _⟩, fun _ h => h.elim⟩
  have HCALL := (complete_any n none 0 [] 140 #[] #[.pointer (some ⟨w.heap.size + 1, 0, none⟩), .pointer (some ⟨w.heap.size, 0, none⟩)] (fun _ => true) (InvY w w3.heap.size (w.heap.size + 1) w.heap.size n) (fun L => L.length ≤ 1048576) 1000000000 w3 (OB.bl (OB.nilv _ 0)) HS.out HT.out (fun M hM => by rw [List.nil_append, add_len HS.out HT.out hM]; have := H12.out; omega) HN.out HINV.out (fun cb g _ _ => sysCl_any w w3.heap.size (w.heap.size + 1) w.heap.size n (by omega) (by omega) (by omega) (by omega) cb g))
  rw [List.length_nil] at HCALL
  refine HCALL.mono ?_
  rintro e w4 ⟨rfl, S', hI⟩
  obtain ⟨hb4, hz4, _, ⟨u, hu, hls⟩, _⟩ := hI
  rw [runG_all (fun _ => rfl)] at hls
  have hX : ([] : List (List Blk)) ++ ((addC n []).map fun M => [] ++ M) = addC n [] := by simp
  rw [hX] at hls
  obtain ⟨A', c', rfl⟩ := hls.slice
  have HB4 := Lib.hid hb4; have HLS := Lib.hid (hls.base (by omega : w.heap.size ≤ w3.heap.size))
  have u0 : w4.cell? ⟨w.heap.size + 1, 0, none⟩ = some (.slice A' (addC n []).length c') := (Row.cell hu 0).trans rfl
  have hul := Row.lt hu
  clear hb4 hls hu q0
  go_wp2
  go_ret
  exact ⟨A', c', S', rfl, HLS.out, HB4.out⟩

end Go.Proofs.Ytbknpflbafjblaa

/- The number of all systems of 3, 7 and 9 points; conditions: none. -/
namespace Go.Proofs.Ytbknpflbafjblaa
set_option maxRecDepth 1000000

theorem num3 : (enumC 3 1 0 []).length = 1 := by decide +kernel
theorem num7 : (enumC 7 7 0 []).length = 30 := by decide +kernel
theorem num9 : (enumC 9 12 0 []).length = 840 := by decide +kernel

end Go.Proofs.Ytbknpflbafjblaa

/- Small contracts and plain facts for all systems of 3, 7 and 9 points; conditions: none. -/
namespace Go.Proofs.Ytbknpflbafjblaa
open Go.RowKit
set_option maxHeartbeats 2000000
set_option maxRecDepth 100000
set_option linter.unusedSimpArgs false
set_option linter.unusedVariables false

/-- the number of systems -/
def numS (v : Int) : Nat := if v = 3 then 1 else if v = 7 then 30 else if v = 9 then 840 else 0
theorem l10Number_any (v : Int) (w : World) :
    Calls Try.prog 85 #[.int .i64 v] w fun e w' => e = .returned (.int .i64 (numS v)) ∧ w = w' := by
  unfold numS
  go_enter Try.func85, Try.ntmps85
  go_wp2
  all_goals go_ret
  all_goals refine ⟨?_, rfl⟩
  all_goals simp_all
theorem isFew_any (v : Int) (w : World) :
    Calls Try.prog 88 #[.int .i64 v] w fun e w' => e = .returned (.bool (decide (v = 3 ∨ v = 7 ∨ v = 9))) ∧ w = w' := by
  go_enter Try.func88, Try.ntmps88
  go_wp2
  all_goals go_ret
  all_goals exact ⟨ret_bool (by rw [Bool.eq_iff_iff]; simp; try omega), rfl⟩
theorem isSys_nil {n : Nat} (h : n = 3 ∨ n = 7 ∨ n = 9) : isSys n [] := ⟨⟨by omega, by omega⟩, by simp, fun k hk => by simp at hk, fun k hk => by simp at hk⟩
theorem misN_nil {n : Nat} (h : n = 3 ∨ n = 7 ∨ n = 9) : misN n [] ≤ 12 := by rcases h with rfl | rfl | rfl <;> decide
theorem addC_nil (n : Nat) (h : n = 3 ∨ n = 7 ∨ n = 9) : (addC n []).length = numS n := by
  rcases h with rfl | rfl | rfl
  · exact num3
  · exact num7
  · exact num9
theorem numS_le (v : Int) : numS v ≤ 840 := by unfold numS; split <;> (try split) <;> (try split) <;> omega
theorem numS_zero {v : Int} : numS v = 0 ↔ ¬ (v = 3 ∨ v = 7 ∨ v = 9) := by
  unfold numS; split <;> (try split) <;> (try split) <;> simp <;> omega
theorem cplL_nil {n : Nat} (h : n = 3 ∨ n = 7 ∨ n = 9) : cplL n [] 1000 = addC n [] := by
  have h1 := addC_nil n h
  have h2 := numS_le n
  unfold cplL
  rw [List.take_of_length_le (by omega)]
  refine (List.map_congr_left (g := id) fun M hM => ?_).trans (List.map_id _)
  have hs := isSys_nil h
  have hv := hs.1.2
  obtain ⟨T, rfl, hT⟩ := enumC_asc (by omega) _ _ _ _ (mis_cnt hs (by omega)).1 hM
  rw [List.nil_append, id]
  refine srt_self ?_
  exact hT.imp fun {a b} h => by
    unfold befB at h; unfold leB befB
    simp only [decide_eq_true_eq] at h
    simp only [Bool.not_eq_true', decide_eq_false_iff_not]
    omega

end Go.Proofs.Ytbknpflbafjblaa

/- Contracts of the reference's lists of completions; conditions: stated in each. -/
namespace Go.Proofs.Ytbknpflbafjblaa
open Go.RowKit
set_option maxHeartbeats 4000000
set_option maxRecDepth 100000
set_option linter.unusedSimpArgs false
set_option linter.unusedVariables false

/-- ahead, from a place on -/
theorem befL_drop (xs ys : List Blk) : ∀ d k, xs.length - k = d → k ≤ xs.length → xs.length = ys.length → befL (xs.drop k) (ys.drop k) = if k < xs.length then (if nth xs k = nth ys k then befL (xs.drop (k + 1)) (ys.drop (k + 1)) else befB (nth xs k) (nth ys k)) else false := by
  intro d k hd hk hl
  by_cases h : k < xs.length
  · rw [if_pos h, List.drop_eq_getElem_cons h, List.drop_eq_getElem_cons (by omega : k < ys.length), befL, nth_get h, nth_get (by omega : k < ys.length)]
  · rw [if_neg h, List.drop_of_length_le (by omega), befL]
    intro a xs' b ys' h1 _; cases h1
theorem l08Before_any (A : Option Addr) (c : Nat) (xs : List Blk) (B : Option Addr) (d : Nat) (ys : List Blk) (w : World) (hA : Bl w A xs) (hB : Bl w B ys) (hl : xs.length ≤ 1048576) (hle : xs.length = ys.length) :
    Calls Try.prog 167 #[.slice A xs.length c, .slice B ys.length d] w fun e w' => e = .returned (.bool (befL xs ys)) ∧ Below w.heap.size w w' := by
  have HA := Lib.hid hA; have HB := Lib.hid hB
  have HD : Hid (∀ k, k ≤ xs.length → befL (xs.drop k) (ys.drop k) = if k < xs.length then (if nth xs k = nth ys k then befL (xs.drop (k + 1)) (ys.drop (k + 1)) else befB (nth xs k) (nth ys k)) else false) := fun k hk => befL_drop xs ys _ k rfl hk hle
  have HLE := Lib.hid hle
  have hly : ys.length ≤ 1048576 := by omega
  have HZ : Hid (befL xs ys = befL (xs.drop 0) (ys.drop 0)) := rfl
  generalize befL xs ys = R at *
  clear hA hB hle
  go_enter Try.func167, Try.ntmps167
  go_wp2
  go_loopw [5] (fun i wr => ∃ k : Nat, k ≤ xs.length ∧ i = .int .i64 k ∧ Hid (Below w.heap.size w wr ∧ R = befL (xs.drop k) (ys.drop k))) (fun i _ => xs.length - (intOf i).toNat)
  case atStart => exact ⟨0, by omega, rfl, Below.refl _ _, HZ.out⟩
  case round =>
    obtain ⟨k, hk, rfl, HC⟩ := hrel
    by_cases hlt : k < xs.length
    · have hlt2 : k < ys.length := by have := HLE.out; omega
      obtain ⟨b1, o1, hA1, hb1, p0, p1, p2⟩ := (HA.out.below HC.out.1).at_ hlt
      subst hA1
      obtain ⟨b2, o2, hB1, hb2, q0, q1, q2⟩ := (HB.out.below HC.out.1).at_ hlt2
      subst hB1
      have HDk := Lib.hid (HD.out k (by omega))
      have HXY := Lib.hid (And.intro (rfl : nth xs k = nth xs k) (rfl : nth ys k = nth ys k))
      obtain ⟨x, hx⟩ : ∃ x, x = nth xs k := ⟨_, rfl⟩
      obtain ⟨y, hy⟩ : ∃ y, y = nth ys k := ⟨_, rfl⟩
      rw [← hx] at p0 p1 p2
      rw [← hy] at q0 q1 q2
      have HX := Lib.hid (And.intro hx hy)
      clear hx hy
      obtain ⟨x0, x1, x2⟩ := x
      obtain ⟨y0, y1, y2⟩ := y
      simp only at p0 p1 p2 q0 q1 q2
      cases he : eqB (x0, x1, x2) (y0, y1, y2)
      · have hne : ¬ ((x0, x1, x2) : Blk) = (y0, y1, y2) := fun h => by unfold eqB at he; rw [h] at he; simp at he
        have HRR : Hid (R = befB (x0, x1, x2) (y0, y1, y2)) := by
          unfold Hid; rw [HC.out.2, HDk.out, if_pos hlt, if_neg (by rw [← HX.out.1, ← HX.out.2]; exact hne), ← HX.out.1, ← HX.out.2]
        clear hne
        have HE := Lib.hid he
        go_wp2
        go_quiet (fail)
        have HBQ : Hid (Below wr.heap.size wr (wr.drewN nq)) := below_drewN (Below.refl _ _) nq
        have P0 := (HBQ.out.cell (p := ⟨b1, o1 + k * 3, none⟩) hb1).trans p0
        have P1 := (HBQ.out.cell (p := ⟨b1, o1 + k * 3 + 1, none⟩) hb1).trans p1
        have P2 := (HBQ.out.cell (p := ⟨b1, o1 + k * 3 + 2, none⟩) hb1).trans p2
        have Q0 := (HBQ.out.cell (p := ⟨b2, o2 + k * 3, none⟩) hb2).trans q0
        have Q1 := (HBQ.out.cell (p := ⟨b2, o2 + k * 3 + 1, none⟩) hb2).trans q1
        have Q2 := (HBQ.out.cell (p := ⟨b2, o2 + k * 3 + 2, none⟩) hb2).trans q2
        have hb1' := Nat.lt_of_lt_of_le hb1 HBQ.out.size
        have hb2' := Nat.lt_of_lt_of_le hb2 HBQ.out.size
        clear p0 p1 p2 q0 q1 q2 hb1 hb2
        generalize wr.drewN nq = wq at *
        go_wp2
        refine wp_region_ge_lit (by kernel_rfl) (by kernel_rfl) ?_; (repeat (go_big_quiet_step ((go_at_call 105; exact ge_call (l01Before_any (x0, x1, x2) (y0, y1, y2) _))))); refine wpQuiet_nil ?_
        rintro w3 ⟨x, rfl⟩
        go_wp2
        go_ret
        exact ⟨ret_bool HRR.out.symm, below_up HC.out.1 (below_up HBQ.out (ge_below _ _))⟩
      · have heq : ((x0, x1, x2) : Blk) = (y0, y1, y2) := by unfold eqB at he; simpa using he
        have HRR : Hid (R = befL (xs.drop (k + 1)) (ys.drop (k + 1))) := by
          unfold Hid; rw [HC.out.2, HDk.out, if_pos hlt, if_pos (by rw [← HX.out.1, ← HX.out.2]; exact heq)]
        clear heq
        go_wp2
        go_quiet (fail)
        go_wp2
        go_roundw
        case rel => exact ⟨k + 1, by omega, by go_num, below_drewN HC.out.1 _, HRR.out⟩
        case measure => simp [intOf]; omega
    · obtain rfl : k = xs.length := by omega
      go_wp2
      go_ret
      exact ⟨ret_bool (by rw [HC.out.2, HD.out _ (Nat.le_refl _), if_neg (by omega)]), HC.out.1⟩

end Go.Proofs.Ytbknpflbafjblaa

/- The contract of the reference's list of completions; conditions: stated in it. -/
namespace Go.Proofs.Ytbknpflbafjblaa
open Go.RowKit
set_option maxHeartbeats 20000000
set_option maxRecDepth 100000
set_option linter.unusedSimpArgs false
set_option linter.unusedVariables false

/-- sorted systems of the first ways -/
def sysL (xs : List Blk) (E : List (List Blk)) : List (List Blk) := E.map fun M => srtL (xs ++ M)
theorem wpList_append_sys {ops : Array Oper} {rest : List Oper} {o : Oper} {a : Act} {Q : Exit → Act → World → Prop} (W : World) (hgd : o.guard = none) (s x : Operand)
    (ho : o.op = .call { callee := .builtin .append, args := #[s, x], argTypes := #[38, 38] }) (base : Nat) (v : Value) (hs : a.eval s = v) (n0 : Nat) (cs : List Value) (hown : W.ownsRow base 30 2 v n0 cs) (gu k cu : Nat) (news : List Value) (hx : a.eval x = .slice (some ⟨gu, 0, none⟩) k cu) (hl : news.length = k * 2) (hc : ∀ j u, news[j]? = some u → W.cell? ⟨gu, j, none⟩ = some u) (h1 : ∀ u ∈ news, u.oneCell' = true) (hn0 : n0 ≤ 100000000) (hk : k ≤ 100000000) (hbase : base ≤ W.heap.size)
    (h : ∀ v9 w9, w9.ownsRow base 30 2 v9 (n0 + k) (cs ++ news) → W.grownBy w9 v.ownBlock → (v9.ownBlock = v.ownBlock ∨ v9.ownBlock = some W.heap.size) → wpList Try.prog ops Q rest (a.put o.dst v9) w9) : wpList Try.prog ops Q (o :: rest) a W := by
  obtain ⟨si0, hsi, hsi0, hsi1, hsi2⟩ := info_parts infoSys'
  by_cases h0 : k = 0
  · subst h0
    have e : news = [] := List.eq_nil_of_length_eq_zero (by omega)
    subst e
    refine wpList_plain hgd fun K hK => ?_
    have h2 := step_append_zero (ops := ops) (K := K) (Q := Q) (E := True) W hgd s x 38 ho base 30 si0 2 Try.underlying38 hsi v n0 cs hs hown (some ⟨gu, 0, none⟩) cu hx (hK _ _ (h v W (by rw [List.append_nil]; exact hown) (grown_refl _ _) (.inl rfl)))
    have hw : Region.wanted o (yielded ops a.tmps) = true := by simp [Region.wanted, hgd]
    rwa [if_pos hw] at h2
  · have key : ∀ j, (⟨gu, 0, none⟩ : Addr).add j = ⟨gu, j, none⟩ := by intro j; unfold Addr.add; split <;> simp_all
    refine wpList_append_lies W hgd s x 38 ho base 30 si0 (.agg #[.int .i64 0, .slice none 0 0]) 2 32 Try.underlying38 hsi hsi0 hsi1 hsi2 rfl (by decide) v n0 cs hs hown ⟨gu, 0, none⟩ k cu news hx hl (fun j u hj => by rw [key]; exact hc j u hj) h1 (by omega) (by unfold maxLen; omega) (by omega) hbase W.heap.size rfl ?_
    intro g9 cap w9 ho9 hg9 hat _
    exact h _ w9 ho9 hg9 (hat.imp (fun e => e.symm) (fun e => by rw [e]; rfl))
theorem own_lit (W : World) (t : TypeId) (a b : Value) (base : Nat) (h : base ≤ W.heap.size) : (W.alloc (.cells #[a, b] t)).ownsRow base t 2 (.slice (some ⟨W.heap.size, 0, none⟩) 1 1) 1 [a, b] :=
  ⟨rfl, .inr ⟨W.heap.size, 1, #[a, b], rfl, h, heap_alloc_new W _, Nat.le_refl _, by unfold maxLen; omega, rfl, rfl⟩⟩
theorem own_some {w : World} {base size n : Nat} {t : TypeId} {v : Value} {xs : List Value} (h : w.ownsRow base t size v n xs) (hn : 0 < n) : ∃ g c, v = .slice (some ⟨g, 0, none⟩) n c ∧ base ≤ g ∧ n ≤ c := by
  rcases h.2 with ⟨_, h0⟩ | ⟨g, cap, cur, hv, hge, _, hnc, _⟩
  · omega
  · exact ⟨g, cap, hv, hge, hnc⟩
theorem hdS_one {n : Int} {hs : Nat → Value} {k : Nat} (h : ∀ i, i < k → (hs i).oneCell' = true) : ∀ u ∈ hdS n hs k, u.oneCell' = true := by
  intro u hu
  unfold hdS at hu
  rw [List.mem_flatMap] at hu
  obtain ⟨i, hi, hu⟩ := hu
  simp at hu
  rcases hu with rfl | rfl
  · rfl
  · exact h i (List.mem_range.1 hi)
theorem LSS.cells {S : Nat → Prop} {w : World} {base n gu k cu : Nat} {ss : List (List Blk)} {hs : Nat → Value} (h : w.ownsRow base 30 2 (.slice (some ⟨gu, 0, none⟩) k cu) k (hdS n hs k)) : ∀ j u, (hdS n hs k)[j]? = some u → w.cell? ⟨gu, j, none⟩ = some u := by
  intro j u hj
  have hl := hdS_len n hs k
  have hlt : j < k * 2 := by
    rcases Nat.lt_or_ge j (k * 2) with h | h
    · exact h
    · rw [List.getElem?_eq_none (by omega)] at hj; cases hj
  rcases h.2 with ⟨_, h0⟩ | ⟨g, cap, cur, hv, hge, hg, hnc, _, hcs, htk⟩
  · omega
  · simp only [Value.slice.injEq, Option.some.injEq, Addr.mk.injEq, and_true] at hv
    obtain ⟨rfl, _⟩ := hv
    rw [Row.cell (w := w) (t := 30) (cur := cur) hg, ← Array.getElem?_toList, ← hj, ← htk, List.getElem?_take_of_lt hlt]
theorem own_same {w : World} {b1 b2 size n : Nat} {t : TypeId} {v : Value} {xs ys : List Value} (h : w.ownsRow b1 t size v n xs) (k : w.ownsRow b2 t size v n ys) : xs = ys := by
  have hx := h.1; have hy := k.1
  rcases h.2 with ⟨_, h0⟩ | ⟨g, cap, cur, hv, _, hg, _, _, _, htk⟩
  · subst h0
    have e1 : xs = [] := List.eq_nil_of_length_eq_zero (by simpa using hx)
    have e2 : ys = [] := List.eq_nil_of_length_eq_zero (by simpa using hy)
    rw [e1, e2]
  · rcases k.2 with ⟨_, h0⟩ | ⟨g', cap', cur', hv', _, hg', _, _, _, htk'⟩
    · subst h0
      have e1 : xs = [] := List.eq_nil_of_length_eq_zero (by simpa using hx)
      have e2 : ys = [] := List.eq_nil_of_length_eq_zero (by simpa using hy)
      rw [e1, e2]
    · rw [hv] at hv'
      simp only [Value.slice.injEq, Option.some.injEq, Addr.mk.injEq, and_true, true_and] at hv'
      obtain ⟨rfl, _⟩ := hv'
      rw [hg] at hg'
      simp only [Option.some.injEq, Obj.cells.injEq, and_true] at hg'
      rw [← htk, ← htk', hg']
theorem LSS.ones {S : Nat → Prop} {w : World} {base n : Nat} {u : Value} {ss : List (List Blk)} {hs' : Nat → Value} {k : Nat} (h : LSS S w base n u ss) (hk : ss.length = k) (hown : w.ownsRow base 30 2 u k (hdS n hs' k)) : ∀ v ∈ hdS n hs' k, v.oneCell' = true := by
  subst hk
  obtain ⟨_, hs, ho, hi, _⟩ := h
  rw [own_same hown ho]
  exact hdS_one fun i hi2 => by obtain ⟨A, c, e⟩ := own_slice (hi i hi2); rw [e]; rfl
theorem cells2 {w : World} {g : Nat} {t : TypeId} {a b : Value} (h : Row w g t #[a, b]) : ∀ j u, [a, b][j]? = some u → w.cell? ⟨g, j, none⟩ = some u := by
  intro j u hj
  rw [Row.cell h, ← Array.getElem?_toList]; exact hj
theorem bef_no {xs ys : List Blk} (h : befL xs ys = false) (A : Option Addr) (c : Nat) (B : Option Addr) (d : Nat) (w : World) (hA : Bl w A xs) (hB : Bl w B ys) (hl : xs.length ≤ 1048576) (he : xs.length = ys.length) :
    Calls Try.prog 167 #[.slice A xs.length c, .slice B ys.length d] w fun e w' => e = .returned (.bool false) ∧ Below w.heap.size w w' := h ▸ l08Before_any A c xs B d ys w hA hB hl he
theorem sysL_succ (xs : List Blk) {E : List (List Blk)} {k : Nat} (h : k < E.length) : sysL xs (E.take (k + 1)) = sysL xs (E.take k) ++ [srtL (xs ++ nthB E k)] := by
  unfold sysL
  rw [List.take_succ_eq_append_getElem h, List.map_append]
  simp [nthB, h]
theorem sysL_len (xs : List Blk) {E : List (List Blk)} {k : Nat} (h : k ≤ E.length) : (sysL xs (E.take k)).length = k := by unfold sysL; rw [List.length_map, List.length_take]; omega
theorem sysL_at (xs : List Blk) {E : List (List Blk)} {j k : Nat} (h : j < k) (hk : k ≤ E.length) : nthB (sysL xs (E.take k)) j = srtL (xs ++ nthB E j) := by
  unfold sysL nthB
  have h1 : j < E.length := by omega
  simp [h, h1]
theorem l08All_any (n : Nat) (A : Option Addr) (c : Nat) (xs : List Blk) (most : Nat) (w : World) (hA : Bl w A xs) (hs : isSys n xs) (ht : n = 3 ∨ n = 7 ∨ n = 9 ∨ n = 13 ∨ n = 15) (hm0 : 0 < most) (hm1 : most ≤ 1000000) :
    Calls Try.prog 138 #[.agg #[.int .i64 n, .slice A xs.length c], .int .i64 most] w fun e w' => ∃ A' c' S, e = .returned (.slice A' (cplL n xs most).length c') ∧ LSS S w' w.heap.size n (.slice A' (cplL n xs most).length c') (cplL n xs most) ∧ Below w.heap.size w w' := by
  obtain ⟨si0, hsi, hsi0, hsi1, hsi2⟩ := info_parts infoSys'
  have HE : Hid (sysL xs (takeG [] most (addC n xs)) = cplL n xs most) := by unfold Hid sysL takeG cplL; simp
  have HPW : Hid ((takeG [] most (addC n xs)).Pairwise (fun M N => befL (srtL (xs ++ N)) (srtL (xs ++ M)) = false)) := by unfold Hid takeG; rw [List.nil_append]; exact (add_pair hs ht).sublist (List.take_sublist _ _)
  have HML : Hid (∀ M ∈ takeG [] most (addC n xs), M.length = misN n xs) := fun M hM => add_len hs ht (by unfold takeG at hM; rw [List.nil_append] at hM; exact List.mem_of_mem_take hM)
  have hlen := takeG_len (found := ([] : List (List Blk))) (most := most) (by simp) (addC n xs)
  have hmis : xs.length + misN n xs ≤ 100 := by
    have hv := hs.1
    have := (mis_cnt hs ht).2
    have h2 : n * (n - 1) ≤ 15 * 15 := Nat.mul_le_mul (by omega) (by omega)
    omega
  have HRUN := Lib.hid (fun W hA => l08Run_any n A c xs most true W hA hs ht hm0 (by omega))
  have hv := hs.1
  rw [← HE.out]
  generalize takeG [] most (addC n xs) = E at *
  have HLEN : Hid ((sysL xs E).length = E.length) := List.length_map ..
  have HW := Lib.hid (below_alloc w (.cells #[.int .i64 n, .slice A xs.length c] 30))
  have HA := Lib.hid (hA.below HW.out)
  have HR := Lib.hid (Row.box w 30 (.int .i64 n) (.slice A xs.length c))
  clear hA hs
  go_enter Try.func138, Try.ntmps138
  obtain ⟨c0, c1⟩ := HR.out.c2
  go_wp2_with fail
  refine (HRUN.out _ HA.out).mono ?_
  rintro e w2 ⟨s, u, g, rfl, hsk, hlb, hb⟩
  have hKP : kpL true E = E := rfl
  rw [hKP] at hlb
  obtain ⟨Af, cf, rfl⟩ := hlb.slice
  have HF := Lib.hid hlb
  have HW2 := Lib.hid (HW.out.trans (hb.mono HW.out.size))
  have HR2 := Lib.hid (HR.out.below hb); have HA2 := Lib.hid (HA.out.below hb)
  obtain ⟨d0, d1, d2, d3, d4, d5⟩ := hsk.c6
  have hsl := hsk.lt
  clear hb hlb hsk hKP
  have HU2 : Hid (LSS (fun b => b = w2.heap.size) (w2.alloc (.cells #[] 30)) w.heap.size n (.slice (some ⟨w2.heap.size, 0, none⟩) 0 0) []) := by
    refine ⟨fun b h => ?_, fun _ => .slice none 0 0, own_base (own_empty w2 30 2) HW2.out.size, fun k hk => by simp at hk, fun j k hj => by simp at hj, fun b e => ?_, fun k hk => by simp at hk⟩
    · have e : b = w2.heap.size := h
      rw [e]; simp
    · simp [Value.ownBlock] at e; exact e.symm
  have hba := below_alloc w2 (.cells #[] 30)
  have HW3 := Lib.hid (below_up HW2.out hba); have HR3 := Lib.hid (HR2.out.below hba); have HA3 := Lib.hid (HA2.out.below hba); have HF3 := Lib.hid (HF.out.below hba)
  clear hba c0 c1
  go_wp2
  clear d0 d1 d2 d3 d4 d5 hsl
  generalize w2.alloc _ = w3 at *
  go_loopw [6, 7] (fun u i wr => ∃ (k : Nat) (gu cu : Nat) (S : Nat → Prop), k ≤ E.length ∧ i = .int .i64 k ∧ u = .slice (some ⟨gu, 0, none⟩) k cu ∧ k ≤ cu ∧ Hid (Below w3.heap.size w3 wr ∧ LSS S wr w.heap.size n (.slice (some ⟨gu, 0, none⟩) k cu) (sysL xs (E.take k)))) (fun _ i _ => E.length - (intOf i).toNat)
  case atStart => exact ⟨0, w2.heap.size, 0, _, by omega, rfl, rfl, by omega, Below.refl _ _, HU2.out⟩
  case round =>
    obtain ⟨k, gu, cu, S, hk, rfl, rfl, hkc, HC⟩ := hrel
    by_cases hlt : k < E.length
    · obtain ⟨gf, Bk, dk, hAf, hgl, p0, hM⟩ := (HF3.out.below HC.out.1).rd hlt
      subst hAf
      obtain ⟨M, hMe⟩ : ∃ M, M = nthB E k := ⟨_, rfl⟩
      rw [← hMe] at p0 hM
      have hMl : M.length = misN n xs := by rw [hMe]; exact HML.out _ (by simp [nthB, hlt])
      have hM100 : M.length ≤ 100 := by omega
      have HMl := Lib.hid hMl
      have HME := Lib.hid hMe
      clear hMl
      have HMM := Lib.hid hM
      clear hMe hM
      obtain ⟨c0, c1⟩ := (HR3.out.below HC.out.1).c2
      have hrl := (HR3.out.below HC.out.1).lt
      go_wp2
      refine wp_region_noPanic ?_
      refine AnyBut.begin (N := 13) (S := (fun w' => w'.cell? ⟨w.heap.size, 0, none⟩ = some (.int .i64 n) ∧ w'.cell? ⟨w.heap.size, 1, none⟩ = some (.slice A xs.length c) ∧ w'.cell? ⟨gf, k, none⟩ = some (.slice Bk M.length dk))) (by kernel_rfl) ?_
      have hS0 : (fun w' : World => w'.cell? ⟨w.heap.size, 0, none⟩ = some (.int .i64 n) ∧ w'.cell? ⟨w.heap.size, 1, none⟩ = some (.slice A xs.length c) ∧ w'.cell? ⟨gf, k, none⟩ = some (.slice Bk M.length dk)) wr.drew := ⟨c0, c1, p0⟩
      refine AnyBut.take (i := 0) (v := ?_) rfl rfl (by decide) (by kernel_rfl) (by kernel_rfl) (by kernel_rfl) (by kernel_rfl) (fun _ _ _ h => h) (Or.inl ⟨by rfl, ?_⟩) hS0 ?_; rotate_left; (focus (intro W hSw; (try dsimp only at hSw); obtain ⟨z0, z1, z2⟩ := hSw; go_simp; (try with_reducible rfl))); (try simp only [Act.put, List.setIfInBounds_toArray, List.set_cons_zero, List.set_cons_succ]); refine AnyBut.take (i := 1) (v := ?_) rfl rfl (by decide) (by kernel_rfl) (by kernel_rfl) (by kernel_rfl) (by kernel_rfl) (fun _ _ _ h => h) (Or.inl ⟨by rfl, ?_⟩) hS0 ?_; rotate_left; (focus (intro W hSw; (try dsimp only at hSw); obtain ⟨z0, z1, z2⟩ := hSw; go_simp; (try with_reducible rfl))); (try simp only [Act.put, List.setIfInBounds_toArray, List.set_cons_zero, List.set_cons_succ]); refine AnyBut.take (i := 3) (v := ?_) rfl rfl (by decide) (by kernel_rfl) (by kernel_rfl) (by kernel_rfl) (by kernel_rfl) (fun _ _ _ h => h) (Or.inl ⟨by rfl, ?_⟩) hS0 ?_; rotate_left; (focus (intro W hSw; (try dsimp only at hSw); obtain ⟨z0, z1, z2⟩ := hSw; go_simp; (try with_reducible rfl))); (try simp only [Act.put, List.setIfInBounds_toArray, List.set_cons_zero, List.set_cons_succ]); refine AnyBut.take (i := 4) (v := ?_) rfl rfl (by decide) (by kernel_rfl) (by kernel_rfl) (by kernel_rfl) (by kernel_rfl) (fun _ _ _ h => h) (Or.inl ⟨by rfl, ?_⟩) hS0 ?_; rotate_left; (focus (intro W hSw; (try dsimp only at hSw); obtain ⟨z0, z1, z2⟩ := hSw; go_simp; (try with_reducible rfl))); (try simp only [Act.put, List.setIfInBounds_toArray, List.set_cons_zero, List.set_cons_succ]); refine AnyBut.take (i := 6) (v := ?_) rfl rfl (by decide) (by kernel_rfl) (by kernel_rfl) (by kernel_rfl) (by kernel_rfl) (fun _ _ _ h => h) (Or.inl ⟨by rfl, ?_⟩) hS0 ?_; rotate_left; (focus (intro W hSw; (try dsimp only at hSw); obtain ⟨z0, z1, z2⟩ := hSw; go_simp; (try with_reducible rfl))); (try simp only [Act.put, List.setIfInBounds_toArray, List.set_cons_zero, List.set_cons_succ]); refine AnyBut.take (i := 7) (v := ?_) rfl rfl (by decide) (by kernel_rfl) (by kernel_rfl) (by kernel_rfl) (by kernel_rfl) (fun _ _ _ h => h) (Or.inl ⟨by rfl, ?_⟩) hS0 ?_; rotate_left; (focus (intro W hSw; (try dsimp only at hSw); obtain ⟨z0, z1, z2⟩ := hSw; go_simp; (try with_reducible rfl))); (try simp only [Act.put, List.setIfInBounds_toArray, List.set_cons_zero, List.set_cons_succ]); refine AnyBut.take (i := 8) (v := ?_) rfl rfl (by decide) (by kernel_rfl) (by kernel_rfl) (by kernel_rfl) (by kernel_rfl) (fun _ _ _ h => h) (Or.inl ⟨by rfl, ?_⟩) hS0 ?_; rotate_left; (focus (intro W hSw; (try dsimp only at hSw); obtain ⟨z0, z1, z2⟩ := hSw; go_simp; (try with_reducible rfl))); (try simp only [Act.put, List.setIfInBounds_toArray, List.set_cons_zero, List.set_cons_succ]); refine AnyBut.take (i := 9) (v := ?_) rfl rfl (by decide) (by kernel_rfl) (by kernel_rfl) (by kernel_rfl) (by kernel_rfl) (fun _ _ _ h => h) (Or.inl ⟨by rfl, ?_⟩) hS0 ?_; rotate_left; (focus (intro W hSw; (try dsimp only at hSw); obtain ⟨z0, z1, z2⟩ := hSw; go_simp; (try with_reducible rfl))); (try simp only [Act.put, List.setIfInBounds_toArray, List.set_cons_zero, List.set_cons_succ])
      have HCd := Lib.hid (And.intro (HC.out.1.drew) (HC.out.2.below (below_drew wr)))
      have HAb : Hid (∀ W, Below wr.drew.heap.size wr.drew W → Bl W A xs) := fun W hb => ((HA3.out.below HC.out.1).below (below_drew wr)).below hb
      have HMb : Hid (∀ W, Below wr.drew.heap.size wr.drew W → Bl W Bk M) := fun W hb => (HMM.out.below (below_drew wr)).below hb
      have HSX : Hid (∀ w', Below wr.drew.heap.size wr.drew w' → w'.cell? ⟨w.heap.size, 0, none⟩ = some (.int .i64 n) ∧ w'.cell? ⟨w.heap.size, 1, none⟩ = some (.slice A xs.length c) ∧ w'.cell? ⟨gf, k, none⟩ = some (.slice Bk M.length dk)) := fun w' hb => ⟨(((HR3.out.below HC.out.1).below (below_drew wr)).below hb).c2.1, (((HR3.out.below HC.out.1).below (below_drew wr)).below hb).c2.2, (hb.cell (p := ⟨gf, k, none⟩) hgl).trans p0⟩
      have HMADE : Hid (∀ W A c, Bl W A (xs ++ M) → Calls Try.prog 94 #[.int .i64 n, .slice A (xs.length + M.length) c] W fun e w' => ∃ u, e = .returned (.agg #[.int .i64 n, u]) ∧ OB w' W.heap.size u (srtL (xs ++ M)) ∧ Below W.heap.size W w') := fun W A c hW => by
        have := l01Made_any n A c (xs ++ M) W hW (by simp; omega)
        rw [List.length_append] at this
        exact this
      have HBz : Hid (Below wr.drew.heap.size wr.drew wr.drew) := Below.refl _ _
      clear hS0
      generalize wr.drew = w6 at *
      obtain ⟨bs, hbs⟩ : ∃ b, b = w6.heap.size := ⟨_, rfl⟩
      have HBS := Lib.hid hbs
      clear hbs
      refine AnyBut.ready (rs := [2, 12]) (by kernel_rfl) (by simp) ?_
      refine AllBut.cons rfl (fun K hK => ?_) (AllBut.cons rfl (fun K hK => ?_) AllBut.nil)
      · skip
        go_simp
        refine hK.out _ _ (fun _ => HSX.out _ (below_up HBz.out (below_alloc w6 _))) ?_
        clear hK K
        (try simp only [Act.put, List.setIfInBounds_toArray, List.set_cons_zero, List.set_cons_succ, List.getElem_toArray, List.getElem_cons_zero, List.getElem_cons_succ])
        have HB2 := Lib.hid (below_up HBz.out (below_alloc w6 (.cells #[] 99)))
        have HO3 : Hid (OB (w6.alloc (.cells #[] 99)) bs (.slice (some ⟨w6.heap.size, 0, none⟩) 0 0) []) := OB.base (own_empty _ _ _) (by have h1 := HBz.out.size; have h2 := HBS.out; omega)
        obtain ⟨be4, hbe4⟩ : ∃ r, r = w6.heap.size := ⟨_, rfl⟩
        rw [← hbe4] at HO3
        rw [← hbe4]
        clear hbe4
        generalize w6.alloc _ = wq1 at *
        refine AnyBut.ready (rs := [5, 12]) (by kernel_rfl) (by simp) ?_
        refine AllBut.cons rfl (fun K hK => ?_) (AllBut.cons rfl (fun K hK => ?_) AllBut.nil)
        · skip
          refine step_append_blk _ (by rfl) _ _ (by rfl) bs _ (by rfl) [] HO3.out A c xs (by rfl) (HAb.out _ HB2.out) (by first | omega | simp) (by omega) (by have h1 := HB2.out.size; have h2 := HBS.out; omega) ?_
          intro v8 wq5 hO hg hat
          obtain ⟨Av8, cv8, rfl⟩ := own_slice hO
          have HB6 := Lib.hid (HB2.out.grown hg HB2.out.size (fun b e => by have h1 := own_block HO3.out b e; have h2 := HBS.out; omega))
          rw [List.nil_append] at hO
          have HO7 := Lib.hid hO
          clear hO hg hat
          refine hK.out _ _ (fun _ => HSX.out _ (HB6.out)) ?_
          clear hK K
          (try simp only [Act.put, List.setIfInBounds_toArray, List.set_cons_zero, List.set_cons_succ, List.getElem_toArray, List.getElem_cons_zero, List.getElem_cons_succ])
          refine AnyBut.ready (rs := [10, 12]) (by kernel_rfl) (by simp) ?_
          refine AllBut.cons rfl (fun K hK => ?_) (AllBut.cons rfl (fun K hK => ?_) AllBut.nil)
          · skip
            refine step_append_blk _ (by rfl) _ _ (by rfl) bs _ (by rfl) xs HO7.out Bk dk M (by rfl) (HMb.out _ HB6.out) (by first | omega | simp) (by omega) (by have h1 := HB6.out.size; have h2 := HBS.out; omega) ?_
            intro v12 wq9 hO hg hat
            obtain ⟨Av12, cv12, rfl⟩ := own_slice hO
            have HB10 := Lib.hid (HB6.out.grown hg HB6.out.size (fun b e => by have h1 := own_block HO7.out b e; have h2 := HBS.out; omega))
            have HO11 := Lib.hid hO
            clear hO hg hat
            refine hK.out _ _ (fun _ => HSX.out _ (HB10.out)) ?_
            clear hK K
            (try simp only [Act.put, List.setIfInBounds_toArray, List.set_cons_zero, List.set_cons_succ, List.getElem_toArray, List.getElem_cons_zero, List.getElem_cons_succ])
            refine AnyBut.ready (rs := [11, 12]) (by kernel_rfl) (by simp) ?_
            refine AllBut.cons rfl (fun K hK => ?_) (AllBut.cons rfl (fun K hK => ?_) AllBut.nil)
            · skip
              rw [if_pos (by rfl)]
              go_simp
              refine (HMADE.out _ _ _ (OB.bl HO11.out)).mono ?_
              rintro e wq13 ⟨um, rfl, hO, hb⟩
              obtain ⟨Bm, dm, rfl⟩ := own_slice hO
              have HB14 := Lib.hid (below_up HB10.out hb)
              have HOM : Hid (OB wq13 bs (.slice Bm (srtL (xs ++ M)).length dm) (srtL (xs ++ M))) := OB.base hO (by have h1 := HB10.out.size; have h2 := HBS.out; omega)
              clear hO hb
              refine hK.out _ _ (fun _ => HSX.out _ (HB14.out)) ?_
              clear hK K
              (try simp only [Act.put, List.setIfInBounds_toArray, List.set_cons_zero, List.set_cons_succ, List.getElem_toArray, List.getElem_cons_zero, List.getElem_cons_succ])
              refine AnyBut.ready (rs := [12]) (by kernel_rfl) (by simp) ?_; refine AllBut.cons rfl (fun K hK => ?_) AllBut.nil
              go_simp
              refine hK.out _ _ (fun _ => HSX.out _ (below_up HB14.out (below_alloc wq13 _))) ?_
              clear hK K
              (try simp only [Act.put, List.setIfInBounds_toArray, List.set_cons_zero, List.set_cons_succ, List.getElem_toArray, List.getElem_cons_zero, List.getElem_cons_succ])
              have HB17 := Lib.hid (below_up HB14.out (below_alloc wq13 (.cells #[.int .i64 0, .slice none 0 0] 30)))
              have HX18 := Lib.hid (Row.new wq13 30 #[.int .i64 0, .slice none 0 0])
              have HR8 : Hid (bs ≤ wq13.heap.size) := by have h1 := HB14.out.size; have h2 := HBS.out; unfold Hid; omega
              have HO19 := Lib.hid (HOM.out.below (below_alloc wq13 (.cells #[.int .i64 0, .slice none 0 0] 30)))
              obtain ⟨r8, hr8⟩ : ∃ r, r = wq13.heap.size := ⟨_, rfl⟩
              rw [← hr8] at HX18 HR8
              rw [← hr8]
              clear hr8
              generalize wq13.alloc _ = wq16 at *
              have HOM2 := HO19; clear HOM; have HOM := HOM2; clear HOM2
              obtain ⟨y0, y1⟩ := HX18.out.c2
              have yf0 := HX18.out.frozen 0
              have yf1 := HX18.out.frozen 1
              have yl := HX18.out.lt
              refine AnyBut.ready (rs := [13]) (by kernel_rfl) (by simp) ?_; refine AllBut.cons rfl (fun K hK => ?_) AllBut.nil
              go_simp
              refine hK.out _ _ (fun h => absurd rfl h) ?_
              clear hK K y0 y1 yf0 yf1 yl
              (try simp only [Act.put, List.setIfInBounds_toArray, List.set_cons_zero, List.set_cons_succ, List.getElem_toArray, List.getElem_cons_zero, List.getElem_cons_succ])
              refine AnyBut.done (by kernel_rfl) ?_ _
              refine NoPanic.normal ?_
              have HROW : Hid (Row ((wq16.setCell ⟨r8, 0, none⟩ (.int .i64 n)).setCell ⟨r8, 1, none⟩ (.slice Bm (srtL (xs ++ M)).length dm)) r8 30 #[.int .i64 n, .slice Bm (srtL (xs ++ M)).length dm]) := (Row.set (Row.set HX18.out 0 _) 1 _)
              have HGS : Hid (wq16.grownBy ((wq16.setCell ⟨r8, 0, none⟩ (.int .i64 n)).setCell ⟨r8, 1, none⟩ (.slice Bm (srtL (xs ++ M)).length dm)) (some r8)) := grown_set (grown_set (grown_refl wq16 (some r8)) 0 _) 1 _
              have HOMF : Hid (OB ((wq16.setCell ⟨r8, 0, none⟩ (.int .i64 n)).setCell ⟨r8, 1, none⟩ (.slice Bm (srtL (xs ++ M)).length dm)) bs (.slice Bm (srtL (xs ++ M)).length dm) (srtL (xs ++ M))) := World.ownsRow.kept HOM.out HGS.out (.inr (own_typed HOM.out ⟨_, HX18.out⟩ (by decide)))
              have HBEL : Hid (Below w6.heap.size w6 ((wq16.setCell ⟨r8, 0, none⟩ (.int .i64 n)).setCell ⟨r8, 1, none⟩ (.slice Bm (srtL (xs ++ M)).length dm))) := (HB17.out.setCell (show w6.heap.size ≤ r8 by have h1 := HR8.out; have h2 := HBS.out; omega) _).setCell (show w6.heap.size ≤ r8 by have h1 := HR8.out; have h2 := HBS.out; omega) _
              clear HGS HOM HX18 HB17
              generalize (wq16.setCell ⟨r8, 0, none⟩ (.int .i64 n)).setCell ⟨r8, 1, none⟩ (.slice Bm (srtL (xs ++ M)).length dm) = wu at *
              have HC7 : Hid (LSS S wu w.heap.size n (.slice (some ⟨gu, 0, none⟩) k cu) (sysL xs (E.take k))) := HCd.out.2.below HBEL.out
              have HBU := HBEL
              obtain ⟨OL, hOL⟩ : ∃ OL, OL = (srtL (xs ++ M)).length := ⟨_, rfl⟩
              rw [← hOL] at HROW HOMF
              rw [← hOL]
              have HOLE : Hid (OL = xs.length + M.length) := by unfold Hid; rw [hOL, srt_len, List.length_append]
              have HOL := Lib.hid hOL
              have hOLb : OL ≤ 200 := by have := HOLE.out; omega
              clear hOL HAb HMb HSX HMADE HBEL
              go_wp2
              go_loopw [9] (fun i wz => i = .int .i64 k ∧ Hid (wz = wu)) (fun _ _ => 0)
              case atStart => exact ⟨rfl, rfl⟩
              case round =>
                obtain ⟨rfl, HWZ⟩ := hrel
                have hwz := HWZ.out
                subst hwz
                clear HWZ
                by_cases hk0 : k = 0
                · have hk1 : ¬ (0 : Int) < (k : Int) := by omega
                  have hk2 : ¬ 0 < k := by omega
                  have HK0 := Lib.hid hk0
                  clear hk0
                  go_wp2
                  go_quiet (fail)
                  have HBV : Hid (Below wr.heap.size wr (wr.drewN nq)) := below_drewN (Below.refl _ _) nq
                  generalize wr.drewN nq = wv at *
                  go_wp2
                  have HRV := Lib.hid (HROW.out.below HBV.out)
                  have HBUV : Hid (Below w6.heap.size w6 wv) := HBU.out.trans (HBV.out.mono HBU.out.size)
                  have HOV : Hid (OB wv bs (.slice Bm OL dm) (srtL (xs ++ M))) := HOMF.out.below HBV.out
                  obtain ⟨y0, y1⟩ := HRV.out.c2
                  refine wp_region_noPanic ?_
                  refine AnyBut.begin (N := 6) (S := (fun w' => w'.cell? ⟨r8, 0, none⟩ = some (.int .i64 n) ∧ w'.cell? ⟨r8, 1, none⟩ = some (.slice Bm OL dm))) (by kernel_rfl) ?_
                  have hS0 : (fun w' : World => w'.cell? ⟨r8, 0, none⟩ = some (.int .i64 n) ∧ w'.cell? ⟨r8, 1, none⟩ = some (.slice Bm OL dm)) wv.drew := ⟨y0, y1⟩
                  refine AnyBut.take (i := 0) (v := ?_) rfl rfl (by decide) (by kernel_rfl) (by kernel_rfl) (by kernel_rfl) (by kernel_rfl) (fun _ _ _ h => h) (Or.inl ⟨by rfl, ?_⟩) hS0 ?_; rotate_left; (focus (intro W hSw; (try dsimp only at hSw); obtain ⟨z0, z1⟩ := hSw; go_simp; (try with_reducible rfl))); (try simp only [Act.put, List.setIfInBounds_toArray, List.set_cons_zero, List.set_cons_succ]); refine AnyBut.take (i := 2) (v := ?_) rfl rfl (by decide) (by kernel_rfl) (by kernel_rfl) (by kernel_rfl) (by kernel_rfl) (fun _ _ _ h => h) (Or.inl ⟨by rfl, ?_⟩) hS0 ?_; rotate_left; (focus (intro W hSw; (try dsimp only at hSw); obtain ⟨z0, z1⟩ := hSw; go_simp; (try with_reducible rfl))); (try simp only [Act.put, List.setIfInBounds_toArray, List.set_cons_zero, List.set_cons_succ]); refine AnyBut.take (i := 3) (v := ?_) rfl rfl (by decide) (by kernel_rfl) (by kernel_rfl) (by kernel_rfl) (by kernel_rfl) (fun _ _ _ h => h) (Or.inl ⟨by rfl, ?_⟩) hS0 ?_; rotate_left; (focus (intro W hSw; (try dsimp only at hSw); obtain ⟨z0, z1⟩ := hSw; go_simp; (try with_reducible rfl))); (try simp only [Act.put, List.setIfInBounds_toArray, List.set_cons_zero, List.set_cons_succ]); refine AnyBut.take (i := 4) (v := ?_) rfl rfl (by decide) (by kernel_rfl) (by kernel_rfl) (by kernel_rfl) (by kernel_rfl) (fun _ _ _ h => h) (Or.inl ⟨by rfl, ?_⟩) hS0 ?_; rotate_left; (focus (intro W hSw; (try dsimp only at hSw); obtain ⟨z0, z1⟩ := hSw; go_simp; (try with_reducible rfl))); (try simp only [Act.put, List.setIfInBounds_toArray, List.set_cons_zero, List.set_cons_succ])
                  have HRVd := Lib.hid (HRV.out.below (below_drew wv))
                  have HBVd : Hid (Below w6.heap.size w6 wv.drew) := HBUV.out.trans ((below_drew wv).mono HBUV.out.size)
                  have HOVd := Lib.hid (HOV.out.below (below_drew wv))
                  have HSY : Hid (∀ w', Below wv.drew.heap.size wv.drew w' → w'.cell? ⟨r8, 0, none⟩ = some (.int .i64 n) ∧ w'.cell? ⟨r8, 1, none⟩ = some (.slice Bm OL dm)) := fun w' hb => (HRVd.out.below hb).c2
                  clear hS0 y0 y1
                  generalize wv.drew = wx at *
                  refine AnyBut.ready (rs := [1]) (by kernel_rfl) (by simp) ?_; refine AllBut.cons rfl (fun K hK => ?_) AllBut.nil
                  go_simp
                  refine hK.out _ _ (fun _ => HSY.out _ (below_alloc wx _)) ?_
                  clear hK K
                  (try simp only [Act.put, List.setIfInBounds_toArray, List.set_cons_zero, List.set_cons_succ, List.getElem_toArray, List.getElem_cons_zero, List.getElem_cons_succ])
                  have hbx : w.heap.size ≤ wx.heap.size := by have h1 := HBVd.out.size; have h2 := HW3.out.size; have h3 := HCd.out.1.size; omega
                  have HLIT := Lib.hid (own_lit wx 30 (.int .i64 n) (.slice Bm OL dm) w.heap.size hbx)
                  refine AnyBut.ready (rs := [5]) (by kernel_rfl) (by simp) ?_; refine AllBut.cons rfl (fun K hK => ?_) AllBut.nil
                  refine step_append_zero _ (by rfl) _ _ 38 (by rfl) w.heap.size 30 si0 2 Try.underlying38 hsi _ 1 _ (by rfl) HLIT.out _ _ (by rfl) ?_
                  refine hK.out _ _ (fun _ => HSY.out _ (below_alloc wx _)) ?_
                  clear hK K
                  (try simp only [Act.put, List.setIfInBounds_toArray, List.set_cons_zero, List.set_cons_succ, List.getElem_toArray, List.getElem_cons_zero, List.getElem_cons_succ])
                  refine AnyBut.ready (rs := [6]) (by kernel_rfl) (by simp) ?_; refine AllBut.cons rfl (fun K hK => ?_) AllBut.nil
                  go_simp
                  refine hK.out _ _ (fun h => absurd rfl h) ?_
                  clear hK K
                  (try simp only [Act.put, List.setIfInBounds_toArray, List.set_cons_zero, List.set_cons_succ, List.getElem_toArray, List.getElem_cons_zero, List.getElem_cons_succ])
                  refine AnyBut.done (by kernel_rfl) ?_ _
                  refine NoPanic.normal ?_
                  have HLC := Lib.hid (Row.new wx 30 #[.int .i64 n, .slice Bm OL dm])
                  have HBy : Hid (Below w6.heap.size w6 (wx.alloc (.cells #[.int .i64 n, .slice Bm OL dm] 30))) := HBVd.out.trans ((below_alloc wx _).mono HBVd.out.size)
                  have HOVy := Lib.hid (HOVd.out.below (below_alloc wx (.cells #[.int .i64 n, .slice Bm OL dm] 30)))
                  obtain ⟨hx, hhx⟩ : ∃ r, r = wx.heap.size := ⟨_, rfl⟩
                  rw [← hhx] at HLC
                  rw [← hhx]
                  clear hhx HLIT
                  generalize wx.alloc _ = wy at *
                  obtain ⟨hs', hown, hpush⟩ := HCd.out.2.push
                  rw [sysL_len xs hk] at hown hpush
                  have HOWN := Lib.hid hown; have HPUSH := Lib.hid hpush
                  have HONE : Hid (∀ v ∈ hdS n hs' k, v.oneCell' = true) := HCd.out.2.ones (sysL_len xs hk) hown
                  clear hown hpush
                  have HEm : Hid ((wy.alloc (.cells #[] 30)).ownsRow wy.heap.size 30 2 (.slice (some ⟨wy.heap.size, 0, none⟩) 0 0) 0 []) := own_empty wy _ 2
                  have HOWy : Hid ((wy.alloc (.cells #[] 30)).ownsRow w.heap.size 30 2 (.slice (some ⟨gu, 0, none⟩) k cu) k (hdS n hs' k)) := own_below (own_below HOWN.out HBy.out) (below_alloc wy _)
                  have hkE : k ≤ 1000000 := by omega
                  go_wp2_with (first
                    | (at_builtin; refine wpList_append_sys _ rfl _ _ rfl wy.heap.size _ rfl k (hdS n hs' k) HO5.out hx 1 1 [.int .i64 n, .slice Bm OL dm] rfl rfl (cells2 HLC5.out) (by simp [Value.oneCell']) (by omega) (by omega) HB5.out.size ?_
                       intro v8 w8 hO8 hg8 hat8
                       obtain ⟨g8, c8, rfl, hge8, hcap8⟩ := own_some hO8 (by omega)
                       have HO8 := Lib.hid hO8
                       have HB8 : Hid (Below wy.heap.size wy w8) := HB5.out.grown hg8 HB5.out.size (own_block HO5.out)
                       have HGE8 := Lib.hid hge8
                       clear hO8 hg8 hat8 hge8)
                    | (at_builtin; refine wpList_append_sys _ rfl _ _ rfl wy.heap.size _ rfl 0 [] HEm.out gu k cu (hdS n hs' k) rfl (hdS_len _ _ _) (LSS.cells (ss := []) (S := fun _ => False) HOWy.out) HONE.out (by omega) (by omega) (by simp) ?_
                       intro v5 w5 hO5 hg5 hat5
                       rw [Nat.zero_add, List.nil_append] at hO5
                       obtain ⟨A5, c5, rfl⟩ := own_slice hO5
                       have HO5 := Lib.hid hO5
                       have HB5 : Hid (Below wy.heap.size wy w5) := (below_alloc wy _).grown hg5 (by simp) (own_block HEm.out)
                       have HLC5 := Lib.hid (Row.below HLC.out HB5.out)
                       clear hO5 hg5 hat5))
                  have hbw6 : w.heap.size ≤ bs := by have h1 := HBS.out; have h2 := HCd.out.1.size; have h3 := HW3.out.size; omega
                  have HLS8 := Lib.hid (HPUSH.out wy w8 w8 (.slice Bm OL dm) (.slice (some ⟨g8, 0, none⟩) (k + 1) c8) (srtL (xs ++ M)) HBy.out (OB.base HOVy.out hbw6) (fun b e => by have h1 := own_block HOVy.out b e; have h2 := HBS.out; omega) HB8.out (grown_refl _ _) (own_base HO8.out (by have h1 := HBy.out.size; have h2 := HBS.out; omega)) (.inr ⟨g8, rfl, by have h1 := HBy.out.size; have h2 := HGE8.out; omega⟩))
                  have HB9 : Hid (Below w3.heap.size w3 w8) := HCd.out.1.trans ((HBy.out.trans (HB8.out.mono HBy.out.size)).mono HCd.out.1.size)
                  go_roundw
                  case rel => exact ⟨k + 1, g8, c8, _, by omega, by go_num, rfl, hcap8, HB9.out, by rw [sysL_succ xs hlt, ← HME.out]; exact HLS8.out⟩
                  case measure => simp [intOf]; omega
                · have hk1 : (0 : Int) < (k : Int) := by omega
                  have hk2 : 0 < k := by omega
                  obtain ⟨j, hj⟩ : ∃ j, k = j + 1 := ⟨k - 1, by omega⟩
                  have HJ := Lib.hid hj
                  have hjk : j < k := by omega
                  obtain ⟨gv, B2, d2, hg2, hgl2, _, t0, t1, hob2⟩ := HC7.out.rd (k := j) (by rw [sysL_len xs hk]; exact hjk)
                  simp only [Option.some.injEq, Addr.mk.injEq] at hg2
                  obtain ⟨rfl, -, -⟩ := hg2
                  rw [sysL_at xs hjk hk] at t1 hob2
                  obtain ⟨PL, hPL⟩ : ∃ PL, PL = (srtL (xs ++ nthB E j)).length := ⟨_, rfl⟩
                  have hPLe : PL = OL := by
                    have h1 := HML.out (nthB E j) (by have h : j < E.length := (by omega); simp [nthB, h])
                    have h2 := HOLE.out; have h3 := HMl.out
                    rw [hPL, srt_len, List.length_append, h1]; omega
                  have HBEF : Hid (befL (srtL (xs ++ M)) (srtL (xs ++ nthB E j)) = false) := by
                    have h1 := List.pairwise_iff_getElem.1 HPW.out j k (by omega) hlt hjk
                    have e1 : nthB E j = E[j]'(by omega) := by have h : j < E.length := (by omega); simp [nthB, h]
                    have e2 : nthB E k = E[k]'hlt := by simp [nthB, hlt]
                    unfold Hid
                    rw [HME.out, e1, e2]; exact h1
                  have HCALL : Hid (∀ W, Below wr.heap.size wr W → Calls Try.prog 167 #[.slice Bm OL dm, .slice B2 PL d2] W fun e w' => e = .returned (.bool false) ∧ Below W.heap.size W w') := fun W hb => by
                    have := bef_no HBEF.out Bm dm B2 d2 W (by have h := HOMF.out; rw [HOL.out] at h; exact (OB.bl h).below hb) ((OB.bl hob2).below hb) (by rw [← HOL.out]; omega) (by rw [← HOL.out, ← hPL]; exact hPLe.symm)
                    rw [← HOL.out, ← hPL] at this
                    exact this
                  rw [← hPL] at t1
                  have hidx : (k : Int) - 1 = (j : Int) := by omega
                  have hjI : (j : Int) < (k : Int) := by omega
                  obtain ⟨y0, y1⟩ := HROW.out.c2
                  have yl := HROW.out.lt
                  clear hj hPL hPLe hob2 t0
                  go_wp2
                  refine wp_region_ge_lit (by kernel_rfl) (by kernel_rfl) ?_; (repeat (go_big_quiet_step ((go_at_call 167; exact ge_call (HCALL.out _ (ge_below _ _)))))); refine wpQuiet_nil ?_
                  rintro wv0 ⟨x, rfl⟩
                  have HBV : Hid (Below wr.heap.size wr (ge wr x)) := ge_below _ _
                  clear y0 y1 yl t1 hgl2 hidx hjI HCALL
                  generalize ge wr x = wv at *
                  go_wp2
                  have HRV := Lib.hid (HROW.out.below HBV.out)
                  have HBUV : Hid (Below w6.heap.size w6 wv) := HBU.out.trans (HBV.out.mono HBU.out.size)
                  have HOV : Hid (OB wv bs (.slice Bm OL dm) (srtL (xs ++ M))) := HOMF.out.below HBV.out
                  obtain ⟨y0, y1⟩ := HRV.out.c2
                  refine wp_region_noPanic ?_
                  refine AnyBut.begin (N := 6) (S := (fun w' => w'.cell? ⟨r8, 0, none⟩ = some (.int .i64 n) ∧ w'.cell? ⟨r8, 1, none⟩ = some (.slice Bm OL dm))) (by kernel_rfl) ?_
                  have hS0 : (fun w' : World => w'.cell? ⟨r8, 0, none⟩ = some (.int .i64 n) ∧ w'.cell? ⟨r8, 1, none⟩ = some (.slice Bm OL dm)) wv.drew := ⟨y0, y1⟩
                  refine AnyBut.take (i := 0) (v := ?_) rfl rfl (by decide) (by kernel_rfl) (by kernel_rfl) (by kernel_rfl) (by kernel_rfl) (fun _ _ _ h => h) (Or.inl ⟨by rfl, ?_⟩) hS0 ?_; rotate_left; (focus (intro W hSw; (try dsimp only at hSw); obtain ⟨z0, z1⟩ := hSw; go_simp; (try with_reducible rfl))); (try simp only [Act.put, List.setIfInBounds_toArray, List.set_cons_zero, List.set_cons_succ]); refine AnyBut.take (i := 2) (v := ?_) rfl rfl (by decide) (by kernel_rfl) (by kernel_rfl) (by kernel_rfl) (by kernel_rfl) (fun _ _ _ h => h) (Or.inl ⟨by rfl, ?_⟩) hS0 ?_; rotate_left; (focus (intro W hSw; (try dsimp only at hSw); obtain ⟨z0, z1⟩ := hSw; go_simp; (try with_reducible rfl))); (try simp only [Act.put, List.setIfInBounds_toArray, List.set_cons_zero, List.set_cons_succ]); refine AnyBut.take (i := 3) (v := ?_) rfl rfl (by decide) (by kernel_rfl) (by kernel_rfl) (by kernel_rfl) (by kernel_rfl) (fun _ _ _ h => h) (Or.inl ⟨by rfl, ?_⟩) hS0 ?_; rotate_left; (focus (intro W hSw; (try dsimp only at hSw); obtain ⟨z0, z1⟩ := hSw; go_simp; (try with_reducible rfl))); (try simp only [Act.put, List.setIfInBounds_toArray, List.set_cons_zero, List.set_cons_succ]); refine AnyBut.take (i := 4) (v := ?_) rfl rfl (by decide) (by kernel_rfl) (by kernel_rfl) (by kernel_rfl) (by kernel_rfl) (fun _ _ _ h => h) (Or.inl ⟨by rfl, ?_⟩) hS0 ?_; rotate_left; (focus (intro W hSw; (try dsimp only at hSw); obtain ⟨z0, z1⟩ := hSw; go_simp; (try with_reducible rfl))); (try simp only [Act.put, List.setIfInBounds_toArray, List.set_cons_zero, List.set_cons_succ])
                  have HRVd := Lib.hid (HRV.out.below (below_drew wv))
                  have HBVd : Hid (Below w6.heap.size w6 wv.drew) := HBUV.out.trans ((below_drew wv).mono HBUV.out.size)
                  have HOVd := Lib.hid (HOV.out.below (below_drew wv))
                  have HSY : Hid (∀ w', Below wv.drew.heap.size wv.drew w' → w'.cell? ⟨r8, 0, none⟩ = some (.int .i64 n) ∧ w'.cell? ⟨r8, 1, none⟩ = some (.slice Bm OL dm)) := fun w' hb => (HRVd.out.below hb).c2
                  clear hS0 y0 y1
                  generalize wv.drew = wx at *
                  refine AnyBut.ready (rs := [1]) (by kernel_rfl) (by simp) ?_; refine AllBut.cons rfl (fun K hK => ?_) AllBut.nil
                  go_simp
                  refine hK.out _ _ (fun _ => HSY.out _ (below_alloc wx _)) ?_
                  clear hK K
                  (try simp only [Act.put, List.setIfInBounds_toArray, List.set_cons_zero, List.set_cons_succ, List.getElem_toArray, List.getElem_cons_zero, List.getElem_cons_succ])
                  have hbx : w.heap.size ≤ wx.heap.size := by have h1 := HBVd.out.size; have h2 := HW3.out.size; have h3 := HCd.out.1.size; omega
                  have HLIT := Lib.hid (own_lit wx 30 (.int .i64 n) (.slice Bm OL dm) w.heap.size hbx)
                  refine AnyBut.ready (rs := [5]) (by kernel_rfl) (by simp) ?_; refine AllBut.cons rfl (fun K hK => ?_) AllBut.nil
                  refine step_append_zero _ (by rfl) _ _ 38 (by rfl) w.heap.size 30 si0 2 Try.underlying38 hsi _ 1 _ (by rfl) HLIT.out _ _ (by rfl) ?_
                  refine hK.out _ _ (fun _ => HSY.out _ (below_alloc wx _)) ?_
                  clear hK K
                  (try simp only [Act.put, List.setIfInBounds_toArray, List.set_cons_zero, List.set_cons_succ, List.getElem_toArray, List.getElem_cons_zero, List.getElem_cons_succ])
                  refine AnyBut.ready (rs := [6]) (by kernel_rfl) (by simp) ?_; refine AllBut.cons rfl (fun K hK => ?_) AllBut.nil
                  go_simp
                  refine hK.out _ _ (fun h => absurd rfl h) ?_
                  clear hK K
                  (try simp only [Act.put, List.setIfInBounds_toArray, List.set_cons_zero, List.set_cons_succ, List.getElem_toArray, List.getElem_cons_zero, List.getElem_cons_succ])
                  refine AnyBut.done (by kernel_rfl) ?_ _
                  refine NoPanic.normal ?_
                  have HLC := Lib.hid (Row.new wx 30 #[.int .i64 n, .slice Bm OL dm])
                  have HBy : Hid (Below w6.heap.size w6 (wx.alloc (.cells #[.int .i64 n, .slice Bm OL dm] 30))) := HBVd.out.trans ((below_alloc wx _).mono HBVd.out.size)
                  have HOVy := Lib.hid (HOVd.out.below (below_alloc wx (.cells #[.int .i64 n, .slice Bm OL dm] 30)))
                  obtain ⟨hx, hhx⟩ : ∃ r, r = wx.heap.size := ⟨_, rfl⟩
                  rw [← hhx] at HLC
                  rw [← hhx]
                  clear hhx HLIT
                  generalize wx.alloc _ = wy at *
                  obtain ⟨hs', hown, hpush⟩ := HCd.out.2.push
                  rw [sysL_len xs hk] at hown hpush
                  have HOWN := Lib.hid hown; have HPUSH := Lib.hid hpush
                  have HONE : Hid (∀ v ∈ hdS n hs' k, v.oneCell' = true) := HCd.out.2.ones (sysL_len xs hk) hown
                  clear hown hpush
                  have HEm : Hid ((wy.alloc (.cells #[] 30)).ownsRow wy.heap.size 30 2 (.slice (some ⟨wy.heap.size, 0, none⟩) 0 0) 0 []) := own_empty wy _ 2
                  have HOWy : Hid ((wy.alloc (.cells #[] 30)).ownsRow w.heap.size 30 2 (.slice (some ⟨gu, 0, none⟩) k cu) k (hdS n hs' k)) := own_below (own_below HOWN.out HBy.out) (below_alloc wy _)
                  have hkE : k ≤ 1000000 := by omega
                  go_wp2_with (first
                    | (at_builtin; refine wpList_append_sys _ rfl _ _ rfl wy.heap.size _ rfl k (hdS n hs' k) HO5.out hx 1 1 [.int .i64 n, .slice Bm OL dm] rfl rfl (cells2 HLC5.out) (by simp [Value.oneCell']) (by omega) (by omega) HB5.out.size ?_
                       intro v8 w8 hO8 hg8 hat8
                       obtain ⟨g8, c8, rfl, hge8, hcap8⟩ := own_some hO8 (by omega)
                       have HO8 := Lib.hid hO8
                       have HB8 : Hid (Below wy.heap.size wy w8) := HB5.out.grown hg8 HB5.out.size (own_block HO5.out)
                       have HGE8 := Lib.hid hge8
                       clear hO8 hg8 hat8 hge8)
                    | (at_builtin; refine wpList_append_sys _ rfl _ _ rfl wy.heap.size _ rfl 0 [] HEm.out gu k cu (hdS n hs' k) rfl (hdS_len _ _ _) (LSS.cells (ss := []) (S := fun _ => False) HOWy.out) HONE.out (by omega) (by omega) (by simp) ?_
                       intro v5 w5 hO5 hg5 hat5
                       rw [Nat.zero_add, List.nil_append] at hO5
                       obtain ⟨A5, c5, rfl⟩ := own_slice hO5
                       have HO5 := Lib.hid hO5
                       have HB5 : Hid (Below wy.heap.size wy w5) := (below_alloc wy _).grown hg5 (by simp) (own_block HEm.out)
                       have HLC5 := Lib.hid (Row.below HLC.out HB5.out)
                       clear hO5 hg5 hat5))
                  have hbw6 : w.heap.size ≤ bs := by have h1 := HBS.out; have h2 := HCd.out.1.size; have h3 := HW3.out.size; omega
                  have HLS8 := Lib.hid (HPUSH.out wy w8 w8 (.slice Bm OL dm) (.slice (some ⟨g8, 0, none⟩) (k + 1) c8) (srtL (xs ++ M)) HBy.out (OB.base HOVy.out hbw6) (fun b e => by have h1 := own_block HOVy.out b e; have h2 := HBS.out; omega) HB8.out (grown_refl _ _) (own_base HO8.out (by have h1 := HBy.out.size; have h2 := HBS.out; omega)) (.inr ⟨g8, rfl, by have h1 := HBy.out.size; have h2 := HGE8.out; omega⟩))
                  have HB9 : Hid (Below w3.heap.size w3 w8) := HCd.out.1.trans ((HBy.out.trans (HB8.out.mono HBy.out.size)).mono HCd.out.1.size)
                  go_roundw
                  case rel => exact ⟨k + 1, g8, c8, _, by omega, by go_num, rfl, hcap8, HB9.out, by rw [sysL_succ xs hlt, ← HME.out]; exact HLS8.out⟩
                  case measure => simp [intOf]; omega
            · skip
              go_simp
              refine hK.out _ _ (fun _ => HSX.out _ (below_up HB10.out (below_alloc wq9 _))) ?_
              clear hK K
              (try simp only [Act.put, List.setIfInBounds_toArray, List.set_cons_zero, List.set_cons_succ, List.getElem_toArray, List.getElem_cons_zero, List.getElem_cons_succ])
              have HB21 := Lib.hid (below_up HB10.out (below_alloc wq9 (.cells #[.int .i64 0, .slice none 0 0] 30)))
              have HX22 := Lib.hid (Row.new wq9 30 #[.int .i64 0, .slice none 0 0])
              have HR8 : Hid (bs ≤ wq9.heap.size) := by have h1 := HB10.out.size; have h2 := HBS.out; unfold Hid; omega
              have HO23 := Lib.hid (HO11.out.below (below_alloc wq9 (.cells #[.int .i64 0, .slice none 0 0] 30)))
              obtain ⟨r8, hr8⟩ : ∃ r, r = wq9.heap.size := ⟨_, rfl⟩
              rw [← hr8] at HX22 HR8
              rw [← hr8]
              clear hr8
              generalize wq9.alloc _ = wq20 at *
              refine AnyBut.ready (rs := [11]) (by kernel_rfl) (by simp) ?_; refine AllBut.cons rfl (fun K hK => ?_) AllBut.nil
              rw [if_pos (by rfl)]
              go_simp
              refine (HMADE.out _ _ _ (OB.bl HO23.out)).mono ?_
              rintro e wq24 ⟨um, rfl, hO, hb⟩
              obtain ⟨Bm, dm, rfl⟩ := own_slice hO
              have HB25 := Lib.hid (below_up HB21.out hb)
              have HOM : Hid (OB wq24 bs (.slice Bm (srtL (xs ++ M)).length dm) (srtL (xs ++ M))) := OB.base hO (by have h1 := HB21.out.size; have h2 := HBS.out; omega)
              have HX27 := Lib.hid (HX22.out.below hb)
              clear hO hb
              refine hK.out _ _ (fun _ => HSX.out _ (HB25.out)) ?_
              clear hK K
              (try simp only [Act.put, List.setIfInBounds_toArray, List.set_cons_zero, List.set_cons_succ, List.getElem_toArray, List.getElem_cons_zero, List.getElem_cons_succ])
              obtain ⟨y0, y1⟩ := HX27.out.c2
              have yf0 := HX27.out.frozen 0
              have yf1 := HX27.out.frozen 1
              have yl := HX27.out.lt
              refine AnyBut.ready (rs := [13]) (by kernel_rfl) (by simp) ?_; refine AllBut.cons rfl (fun K hK => ?_) AllBut.nil
              go_simp
              refine hK.out _ _ (fun h => absurd rfl h) ?_
              clear hK K y0 y1 yf0 yf1 yl
              (try simp only [Act.put, List.setIfInBounds_toArray, List.set_cons_zero, List.set_cons_succ, List.getElem_toArray, List.getElem_cons_zero, List.getElem_cons_succ])
              refine AnyBut.done (by kernel_rfl) ?_ _
              refine NoPanic.normal ?_
              have HROW : Hid (Row ((wq24.setCell ⟨r8, 0, none⟩ (.int .i64 n)).setCell ⟨r8, 1, none⟩ (.slice Bm (srtL (xs ++ M)).length dm)) r8 30 #[.int .i64 n, .slice Bm (srtL (xs ++ M)).length dm]) := (Row.set (Row.set HX27.out 0 _) 1 _)
              have HGS : Hid (wq24.grownBy ((wq24.setCell ⟨r8, 0, none⟩ (.int .i64 n)).setCell ⟨r8, 1, none⟩ (.slice Bm (srtL (xs ++ M)).length dm)) (some r8)) := grown_set (grown_set (grown_refl wq24 (some r8)) 0 _) 1 _
              have HOMF : Hid (OB ((wq24.setCell ⟨r8, 0, none⟩ (.int .i64 n)).setCell ⟨r8, 1, none⟩ (.slice Bm (srtL (xs ++ M)).length dm)) bs (.slice Bm (srtL (xs ++ M)).length dm) (srtL (xs ++ M))) := World.ownsRow.kept HOM.out HGS.out (.inr (own_typed HOM.out ⟨_, HX27.out⟩ (by decide)))
              have HBEL : Hid (Below w6.heap.size w6 ((wq24.setCell ⟨r8, 0, none⟩ (.int .i64 n)).setCell ⟨r8, 1, none⟩ (.slice Bm (srtL (xs ++ M)).length dm))) := (HB25.out.setCell (show w6.heap.size ≤ r8 by have h1 := HR8.out; have h2 := HBS.out; omega) _).setCell (show w6.heap.size ≤ r8 by have h1 := HR8.out; have h2 := HBS.out; omega) _
              clear HGS HOM HX27 HB25
              generalize (wq24.setCell ⟨r8, 0, none⟩ (.int .i64 n)).setCell ⟨r8, 1, none⟩ (.slice Bm (srtL (xs ++ M)).length dm) = wu at *
              have HC7 : Hid (LSS S wu w.heap.size n (.slice (some ⟨gu, 0, none⟩) k cu) (sysL xs (E.take k))) := HCd.out.2.below HBEL.out
              have HBU := HBEL
              obtain ⟨OL, hOL⟩ : ∃ OL, OL = (srtL (xs ++ M)).length := ⟨_, rfl⟩
              rw [← hOL] at HROW HOMF
              rw [← hOL]
              have HOLE : Hid (OL = xs.length + M.length) := by unfold Hid; rw [hOL, srt_len, List.length_append]
              have HOL := Lib.hid hOL
              have hOLb : OL ≤ 200 := by have := HOLE.out; omega
              clear hOL HAb HMb HSX HMADE HBEL
              go_wp2
              go_loopw [9] (fun i wz => i = .int .i64 k ∧ Hid (wz = wu)) (fun _ _ => 0)
              case atStart => exact ⟨rfl, rfl⟩
              case round =>
                obtain ⟨rfl, HWZ⟩ := hrel
                have hwz := HWZ.out
                subst hwz
                clear HWZ
                by_cases hk0 : k = 0
                · have hk1 : ¬ (0 : Int) < (k : Int) := by omega
                  have hk2 : ¬ 0 < k := by omega
                  have HK0 := Lib.hid hk0
                  clear hk0
                  go_wp2
                  go_quiet (fail)
                  have HBV : Hid (Below wr.heap.size wr (wr.drewN nq)) := below_drewN (Below.refl _ _) nq
                  generalize wr.drewN nq = wv at *
                  go_wp2
                  have HRV := Lib.hid (HROW.out.below HBV.out)
                  have HBUV : Hid (Below w6.heap.size w6 wv) := HBU.out.trans (HBV.out.mono HBU.out.size)
                  have HOV : Hid (OB wv bs (.slice Bm OL dm) (srtL (xs ++ M))) := HOMF.out.below HBV.out
                  obtain ⟨y0, y1⟩ := HRV.out.c2
                  refine wp_region_noPanic ?_
                  refine AnyBut.begin (N := 6) (S := (fun w' => w'.cell? ⟨r8, 0, none⟩ = some (.int .i64 n) ∧ w'.cell? ⟨r8, 1, none⟩ = some (.slice Bm OL dm))) (by kernel_rfl) ?_
                  have hS0 : (fun w' : World => w'.cell? ⟨r8, 0, none⟩ = some (.int .i64 n) ∧ w'.cell? ⟨r8, 1, none⟩ = some (.slice Bm OL dm)) wv.drew := ⟨y0, y1⟩
                  refine AnyBut.take (i := 0) (v := ?_) rfl rfl (by decide) (by kernel_rfl) (by kernel_rfl) (by kernel_rfl) (by kernel_rfl) (fun _ _ _ h => h) (Or.inl ⟨by rfl, ?_⟩) hS0 ?_; rotate_left; (focus (intro W hSw; (try dsimp only at hSw); obtain ⟨z0, z1⟩ := hSw; go_simp; (try with_reducible rfl))); (try simp only [Act.put, List.setIfInBounds_toArray, List.set_cons_zero, List.set_cons_succ]); refine AnyBut.take (i := 2) (v := ?_) rfl rfl (by decide) (by kernel_rfl) (by kernel_rfl) (by kernel_rfl) (by kernel_rfl) (fun _ _ _ h => h) (Or.inl ⟨by rfl, ?_⟩) hS0 ?_; rotate_left; (focus (intro W hSw; (try dsimp only at hSw); obtain ⟨z0, z1⟩ := hSw; go_simp; (try with_reducible rfl))); (try simp only [Act.put, List.setIfInBounds_toArray, List.set_cons_zero, List.set_cons_succ]); refine AnyBut.take (i := 3) (v := ?_) rfl rfl (by decide) (by kernel_rfl) (by kernel_rfl) (by kernel_rfl) (by kernel_rfl) (fun _ _ _ h => h) (Or.inl ⟨by rfl, ?_⟩) hS0 ?_; rotate_left; (focus (intro W hSw; (try dsimp only at hSw); obtain ⟨z0, z1⟩ := hSw; go_simp; (try with_reducible rfl))); (try simp only [Act.put, List.setIfInBounds_toArray, List.set_cons_zero, List.set_cons_succ]); refine AnyBut.take (i := 4) (v := ?_) rfl rfl (by decide) (by kernel_rfl) (by kernel_rfl) (by kernel_rfl) (by kernel_rfl) (fun _ _ _ h => h) (Or.inl ⟨by rfl, ?_⟩) hS0 ?_; rotate_left; (focus (intro W hSw; (try dsimp only at hSw); obtain ⟨z0, z1⟩ := hSw; go_simp; (try with_reducible rfl))); (try simp only [Act.put, List.setIfInBounds_toArray, List.set_cons_zero, List.set_cons_succ])
                  have HRVd := Lib.hid (HRV.out.below (below_drew wv))
                  have HBVd : Hid (Below w6.heap.size w6 wv.drew) := HBUV.out.trans ((below_drew wv).mono HBUV.out.size)
                  have HOVd := Lib.hid (HOV.out.below (below_drew wv))
                  have HSY : Hid (∀ w', Below wv.drew.heap.size wv.drew w' → w'.cell? ⟨r8, 0, none⟩ = some (.int .i64 n) ∧ w'.cell? ⟨r8, 1, none⟩ = some (.slice Bm OL dm)) := fun w' hb => (HRVd.out.below hb).c2
                  clear hS0 y0 y1
                  generalize wv.drew = wx at *
                  refine AnyBut.ready (rs := [1]) (by kernel_rfl) (by simp) ?_; refine AllBut.cons rfl (fun K hK => ?_) AllBut.nil
                  go_simp
                  refine hK.out _ _ (fun _ => HSY.out _ (below_alloc wx _)) ?_
                  clear hK K
                  (try simp only [Act.put, List.setIfInBounds_toArray, List.set_cons_zero, List.set_cons_succ, List.getElem_toArray, List.getElem_cons_zero, List.getElem_cons_succ])
                  have hbx : w.heap.size ≤ wx.heap.size := by have h1 := HBVd.out.size; have h2 := HW3.out.size; have h3 := HCd.out.1.size; omega
                  have HLIT := Lib.hid (own_lit wx 30 (.int .i64 n) (.slice Bm OL dm) w.heap.size hbx)
                  refine AnyBut.ready (rs := [5]) (by kernel_rfl) (by simp) ?_; refine AllBut.cons rfl (fun K hK => ?_) AllBut.nil
                  refine step_append_zero _ (by rfl) _ _ 38 (by rfl) w.heap.size 30 si0 2 Try.underlying38 hsi _ 1 _ (by rfl) HLIT.out _ _ (by rfl) ?_
                  refine hK.out _ _ (fun _ => HSY.out _ (below_alloc wx _)) ?_
                  clear hK K
                  (try simp only [Act.put, List.setIfInBounds_toArray, List.set_cons_zero, List.set_cons_succ, List.getElem_toArray, List.getElem_cons_zero, List.getElem_cons_succ])
                  refine AnyBut.ready (rs := [6]) (by kernel_rfl) (by simp) ?_; refine AllBut.cons rfl (fun K hK => ?_) AllBut.nil
                  go_simp
                  refine hK.out _ _ (fun h => absurd rfl h) ?_
                  clear hK K
                  (try simp only [Act.put, List.setIfInBounds_toArray, List.set_cons_zero, List.set_cons_succ, List.getElem_toArray, List.getElem_cons_zero, List.getElem_cons_succ])
                  refine AnyBut.done (by kernel_rfl) ?_ _
                  refine NoPanic.normal ?_
                  have HLC := Lib.hid (Row.new wx 30 #[.int .i64 n, .slice Bm OL dm])
                  have HBy : Hid (Below w6.heap.size w6 (wx.alloc (.cells #[.int .i64 n, .slice Bm OL dm] 30))) := HBVd.out.trans ((below_alloc wx _).mono HBVd.out.size)
                  have HOVy := Lib.hid (HOVd.out.below (below_alloc wx (.cells #[.int .i64 n, .slice Bm OL dm] 30)))
                  obtain ⟨hx, hhx⟩ : ∃ r, r = wx.heap.size := ⟨_, rfl⟩
                  rw [← hhx] at HLC
                  rw [← hhx]
                  clear hhx HLIT
                  generalize wx.alloc _ = wy at *
                  obtain ⟨hs', hown, hpush⟩ := HCd.out.2.push
                  rw [sysL_len xs hk] at hown hpush
                  have HOWN := Lib.hid hown; have HPUSH := Lib.hid hpush
                  have HONE : Hid (∀ v ∈ hdS n hs' k, v.oneCell' = true) := HCd.out.2.ones (sysL_len xs hk) hown
                  clear hown hpush
                  have HEm : Hid ((wy.alloc (.cells #[] 30)).ownsRow wy.heap.size 30 2 (.slice (some ⟨wy.heap.size, 0, none⟩) 0 0) 0 []) := own_empty wy _ 2
                  have HOWy : Hid ((wy.alloc (.cells #[] 30)).ownsRow w.heap.size 30 2 (.slice (some ⟨gu, 0, none⟩) k cu) k (hdS n hs' k)) := own_below (own_below HOWN.out HBy.out) (below_alloc wy _)
                  have hkE : k ≤ 1000000 := by omega
                  go_wp2_with (first
                    | (at_builtin; refine wpList_append_sys _ rfl _ _ rfl wy.heap.size _ rfl k (hdS n hs' k) HO5.out hx 1 1 [.int .i64 n, .slice Bm OL dm] rfl rfl (cells2 HLC5.out) (by simp [Value.oneCell']) (by omega) (by omega) HB5.out.size ?_
                       intro v8 w8 hO8 hg8 hat8
                       obtain ⟨g8, c8, rfl, hge8, hcap8⟩ := own_some hO8 (by omega)
                       have HO8 := Lib.hid hO8
                       have HB8 : Hid (Below wy.heap.size wy w8) := HB5.out.grown hg8 HB5.out.size (own_block HO5.out)
                       have HGE8 := Lib.hid hge8
                       clear hO8 hg8 hat8 hge8)
                    | (at_builtin; refine wpList_append_sys _ rfl _ _ rfl wy.heap.size _ rfl 0 [] HEm.out gu k cu (hdS n hs' k) rfl (hdS_len _ _ _) (LSS.cells (ss := []) (S := fun _ => False) HOWy.out) HONE.out (by omega) (by omega) (by simp) ?_
                       intro v5 w5 hO5 hg5 hat5
                       rw [Nat.zero_add, List.nil_append] at hO5
                       obtain ⟨A5, c5, rfl⟩ := own_slice hO5
                       have HO5 := Lib.hid hO5
                       have HB5 : Hid (Below wy.heap.size wy w5) := (below_alloc wy _).grown hg5 (by simp) (own_block HEm.out)
                       have HLC5 := Lib.hid (Row.below HLC.out HB5.out)
                       clear hO5 hg5 hat5))
                  have hbw6 : w.heap.size ≤ bs := by have h1 := HBS.out; have h2 := HCd.out.1.size; have h3 := HW3.out.size; omega
                  have HLS8 := Lib.hid (HPUSH.out wy w8 w8 (.slice Bm OL dm) (.slice (some ⟨g8, 0, none⟩) (k + 1) c8) (srtL (xs ++ M)) HBy.out (OB.base HOVy.out hbw6) (fun b e => by have h1 := own_block HOVy.out b e; have h2 := HBS.out; omega) HB8.out (grown_refl _ _) (own_base HO8.out (by have h1 := HBy.out.size; have h2 := HBS.out; omega)) (.inr ⟨g8, rfl, by have h1 := HBy.out.size; have h2 := HGE8.out; omega⟩))
                  have HB9 : Hid (Below w3.heap.size w3 w8) := HCd.out.1.trans ((HBy.out.trans (HB8.out.mono HBy.out.size)).mono HCd.out.1.size)
                  go_roundw
                  case rel => exact ⟨k + 1, g8, c8, _, by omega, by go_num, rfl, hcap8, HB9.out, by rw [sysL_succ xs hlt, ← HME.out]; exact HLS8.out⟩
                  case measure => simp [intOf]; omega
                · have hk1 : (0 : Int) < (k : Int) := by omega
                  have hk2 : 0 < k := by omega
                  obtain ⟨j, hj⟩ : ∃ j, k = j + 1 := ⟨k - 1, by omega⟩
                  have HJ := Lib.hid hj
                  have hjk : j < k := by omega
                  obtain ⟨gv, B2, d2, hg2, hgl2, _, t0, t1, hob2⟩ := HC7.out.rd (k := j) (by rw [sysL_len xs hk]; exact hjk)
                  simp only [Option.some.injEq, Addr.mk.injEq] at hg2
                  obtain ⟨rfl, -, -⟩ := hg2
                  rw [sysL_at xs hjk hk] at t1 hob2
                  obtain ⟨PL, hPL⟩ : ∃ PL, PL = (srtL (xs ++ nthB E j)).length := ⟨_, rfl⟩
                  have hPLe : PL = OL := by
                    have h1 := HML.out (nthB E j) (by have h : j < E.length := (by omega); simp [nthB, h])
                    have h2 := HOLE.out; have h3 := HMl.out
                    rw [hPL, srt_len, List.length_append, h1]; omega
                  have HBEF : Hid (befL (srtL (xs ++ M)) (srtL (xs ++ nthB E j)) = false) := by
                    have h1 := List.pairwise_iff_getElem.1 HPW.out j k (by omega) hlt hjk
                    have e1 : nthB E j = E[j]'(by omega) := by have h : j < E.length := (by omega); simp [nthB, h]
                    have e2 : nthB E k = E[k]'hlt := by simp [nthB, hlt]
                    unfold Hid
                    rw [HME.out, e1, e2]; exact h1
                  have HCALL : Hid (∀ W, Below wr.heap.size wr W → Calls Try.prog 167 #[.slice Bm OL dm, .slice B2 PL d2] W fun e w' => e = .returned (.bool false) ∧ Below W.heap.size W w') := fun W hb => by
                    have := bef_no HBEF.out Bm dm B2 d2 W (by have h := HOMF.out; rw [HOL.out] at h; exact (OB.bl h).below hb) ((OB.bl hob2).below hb) (by rw [← HOL.out]; omega) (by rw [← HOL.out, ← hPL]; exact hPLe.symm)
                    rw [← HOL.out, ← hPL] at this
                    exact this
                  rw [← hPL] at t1
                  have hidx : (k : Int) - 1 = (j : Int) := by omega
                  have hjI : (j : Int) < (k : Int) := by omega
                  obtain ⟨y0, y1⟩ := HROW.out.c2
                  have yl := HROW.out.lt
                  clear hj hPL hPLe hob2 t0
                  go_wp2
                  refine wp_region_ge_lit (by kernel_rfl) (by kernel_rfl) ?_; (repeat (go_big_quiet_step ((go_at_call 167; exact ge_call (HCALL.out _ (ge_below _ _)))))); refine wpQuiet_nil ?_
                  rintro wv0 ⟨x, rfl⟩
                  have HBV : Hid (Below wr.heap.size wr (ge wr x)) := ge_below _ _
                  clear y0 y1 yl t1 hgl2 hidx hjI HCALL
                  generalize ge wr x = wv at *
                  go_wp2
                  have HRV := Lib.hid (HROW.out.below HBV.out)
                  have HBUV : Hid (Below w6.heap.size w6 wv) := HBU.out.trans (HBV.out.mono HBU.out.size)
                  have HOV : Hid (OB wv bs (.slice Bm OL dm) (srtL (xs ++ M))) := HOMF.out.below HBV.out
                  obtain ⟨y0, y1⟩ := HRV.out.c2
                  refine wp_region_noPanic ?_
                  refine AnyBut.begin (N := 6) (S := (fun w' => w'.cell? ⟨r8, 0, none⟩ = some (.int .i64 n) ∧ w'.cell? ⟨r8, 1, none⟩ = some (.slice Bm OL dm))) (by kernel_rfl) ?_
                  have hS0 : (fun w' : World => w'.cell? ⟨r8, 0, none⟩ = some (.int .i64 n) ∧ w'.cell? ⟨r8, 1, none⟩ = some (.slice Bm OL dm)) wv.drew := ⟨y0, y1⟩
                  refine AnyBut.take (i := 0) (v := ?_) rfl rfl (by decide) (by kernel_rfl) (by kernel_rfl) (by kernel_rfl) (by kernel_rfl) (fun _ _ _ h => h) (Or.inl ⟨by rfl, ?_⟩) hS0 ?_; rotate_left; (focus (intro W hSw; (try dsimp only at hSw); obtain ⟨z0, z1⟩ := hSw; go_simp; (try with_reducible rfl))); (try simp only [Act.put, List.setIfInBounds_toArray, List.set_cons_zero, List.set_cons_succ]); refine AnyBut.take (i := 2) (v := ?_) rfl rfl (by decide) (by kernel_rfl) (by kernel_rfl) (by kernel_rfl) (by kernel_rfl) (fun _ _ _ h => h) (Or.inl ⟨by rfl, ?_⟩) hS0 ?_; rotate_left; (focus (intro W hSw; (try dsimp only at hSw); obtain ⟨z0, z1⟩ := hSw; go_simp; (try with_reducible rfl))); (try simp only [Act.put, List.setIfInBounds_toArray, List.set_cons_zero, List.set_cons_succ]); refine AnyBut.take (i := 3) (v := ?_) rfl rfl (by decide) (by kernel_rfl) (by kernel_rfl) (by kernel_rfl) (by kernel_rfl) (fun _ _ _ h => h) (Or.inl ⟨by rfl, ?_⟩) hS0 ?_; rotate_left; (focus (intro W hSw; (try dsimp only at hSw); obtain ⟨z0, z1⟩ := hSw; go_simp; (try with_reducible rfl))); (try simp only [Act.put, List.setIfInBounds_toArray, List.set_cons_zero, List.set_cons_succ]); refine AnyBut.take (i := 4) (v := ?_) rfl rfl (by decide) (by kernel_rfl) (by kernel_rfl) (by kernel_rfl) (by kernel_rfl) (fun _ _ _ h => h) (Or.inl ⟨by rfl, ?_⟩) hS0 ?_; rotate_left; (focus (intro W hSw; (try dsimp only at hSw); obtain ⟨z0, z1⟩ := hSw; go_simp; (try with_reducible rfl))); (try simp only [Act.put, List.setIfInBounds_toArray, List.set_cons_zero, List.set_cons_succ])
                  have HRVd := Lib.hid (HRV.out.below (below_drew wv))
                  have HBVd : Hid (Below w6.heap.size w6 wv.drew) := HBUV.out.trans ((below_drew wv).mono HBUV.out.size)
                  have HOVd := Lib.hid (HOV.out.below (below_drew wv))
                  have HSY : Hid (∀ w', Below wv.drew.heap.size wv.drew w' → w'.cell? ⟨r8, 0, none⟩ = some (.int .i64 n) ∧ w'.cell? ⟨r8, 1, none⟩ = some (.slice Bm OL dm)) := fun w' hb => (HRVd.out.below hb).c2
                  clear hS0 y0 y1
                  generalize wv.drew = wx at *
                  refine AnyBut.ready (rs := [1]) (by kernel_rfl) (by simp) ?_; refine AllBut.cons rfl (fun K hK => ?_) AllBut.nil
                  go_simp
                  refine hK.out _ _ (fun _ => HSY.out _ (below_alloc wx _)) ?_
                  clear hK K
                  (try simp only [Act.put, List.setIfInBounds_toArray, List.set_cons_zero, List.set_cons_succ, List.getElem_toArray, List.getElem_cons_zero, List.getElem_cons_succ])
                  have hbx : w.heap.size ≤ wx.heap.size := by have h1 := HBVd.out.size; have h2 := HW3.out.size; have h3 := HCd.out.1.size; omega
                  have HLIT := Lib.hid (own_lit wx 30 (.int .i64 n) (.slice Bm OL dm) w.heap.size hbx)
                  refine AnyBut.ready (rs := [5]) (by kernel_rfl) (by simp) ?_; refine AllBut.cons rfl (fun K hK => ?_) AllBut.nil
                  refine step_append_zero _ (by rfl) _ _ 38 (by rfl) w.heap.size 30 si0 2 Try.underlying38 hsi _ 1 _ (by rfl) HLIT.out _ _ (by rfl) ?_
                  refine hK.out _ _ (fun _ => HSY.out _ (below_alloc wx _)) ?_
                  clear hK K
                  (try simp only [Act.put, List.setIfInBounds_toArray, List.set_cons_zero, List.set_cons_succ, List.getElem_toArray, List.getElem_cons_zero, List.getElem_cons_succ])
                  refine AnyBut.ready (rs := [6]) (by kernel_rfl) (by simp) ?_; refine AllBut.cons rfl (fun K hK => ?_) AllBut.nil
                  go_simp
                  refine hK.out _ _ (fun h => absurd rfl h) ?_
                  clear hK K
                  (try simp only [Act.put, List.setIfInBounds_toArray, List.set_cons_zero, List.set_cons_succ, List.getElem_toArray, List.getElem_cons_zero, List.getElem_cons_succ])
                  refine AnyBut.done (by kernel_rfl) ?_ _
                  refine NoPanic.normal ?_
                  have HLC := Lib.hid (Row.new wx 30 #[.int .i64 n, .slice Bm OL dm])
                  have HBy : Hid (Below w6.heap.size w6 (wx.alloc (.cells #[.int .i64 n, .slice Bm OL dm] 30))) := HBVd.out.trans ((below_alloc wx _).mono HBVd.out.size)
                  have HOVy := Lib.hid (HOVd.out.below (below_alloc wx (.cells #[.int .i64 n, .slice Bm OL dm] 30)))
                  obtain ⟨hx, hhx⟩ : ∃ r, r = wx.heap.size := ⟨_, rfl⟩
                  rw [← hhx] at HLC
                  rw [← hhx]
                  clear hhx HLIT
                  generalize wx.alloc _ = wy at *
                  obtain ⟨hs', hown, hpush⟩ := HCd.out.2.push
                  rw [sysL_len xs hk] at hown hpush
                  have HOWN := Lib.hid hown; have HPUSH := Lib.hid hpush
                  have HONE : Hid (∀ v ∈ hdS n hs' k, v.oneCell' = true) := HCd.out.2.ones (sysL_len xs hk) hown
                  clear hown hpush
                  have HEm : Hid ((wy.alloc (.cells #[] 30)).ownsRow wy.heap.size 30 2 (.slice (some ⟨wy.heap.size, 0, none⟩) 0 0) 0 []) := own_empty wy _ 2
                  have HOWy : Hid ((wy.alloc (.cells #[] 30)).ownsRow w.heap.size 30 2 (.slice (some ⟨gu, 0, none⟩) k cu) k (hdS n hs' k)) := own_below (own_below HOWN.out HBy.out) (below_alloc wy _)
                  have hkE : k ≤ 1000000 := by omega
                  go_wp2_with (first
                    | (at_builtin; refine wpList_append_sys _ rfl _ _ rfl wy.heap.size _ rfl k (hdS n hs' k) HO5.out hx 1 1 [.int .i64 n, .slice Bm OL dm] rfl rfl (cells2 HLC5.out) (by simp [Value.oneCell']) (by omega) (by omega) HB5.out.size ?_
                       intro v8 w8 hO8 hg8 hat8
                       obtain ⟨g8, c8, rfl, hge8, hcap8⟩ := own_some hO8 (by omega)
                       have HO8 := Lib.hid hO8
                       have HB8 : Hid (Below wy.heap.size wy w8) := HB5.out.grown hg8 HB5.out.size (own_block HO5.out)
                       have HGE8 := Lib.hid hge8
                       clear hO8 hg8 hat8 hge8)
                    | (at_builtin; refine wpList_append_sys _ rfl _ _ rfl wy.heap.size _ rfl 0 [] HEm.out gu k cu (hdS n hs' k) rfl (hdS_len _ _ _) (LSS.cells (ss := []) (S := fun _ => False) HOWy.out) HONE.out (by omega) (by omega) (by simp) ?_
                       intro v5 w5 hO5 hg5 hat5
                       rw [Nat.zero_add, List.nil_append] at hO5
                       obtain ⟨A5, c5, rfl⟩ := own_slice hO5
                       have HO5 := Lib.hid hO5
                       have HB5 : Hid (Below wy.heap.size wy w5) := (below_alloc wy _).grown hg5 (by simp) (own_block HEm.out)
                       have HLC5 := Lib.hid (Row.below HLC.out HB5.out)
                       clear hO5 hg5 hat5))
                  have hbw6 : w.heap.size ≤ bs := by have h1 := HBS.out; have h2 := HCd.out.1.size; have h3 := HW3.out.size; omega
                  have HLS8 := Lib.hid (HPUSH.out wy w8 w8 (.slice Bm OL dm) (.slice (some ⟨g8, 0, none⟩) (k + 1) c8) (srtL (xs ++ M)) HBy.out (OB.base HOVy.out hbw6) (fun b e => by have h1 := own_block HOVy.out b e; have h2 := HBS.out; omega) HB8.out (grown_refl _ _) (own_base HO8.out (by have h1 := HBy.out.size; have h2 := HBS.out; omega)) (.inr ⟨g8, rfl, by have h1 := HBy.out.size; have h2 := HGE8.out; omega⟩))
                  have HB9 : Hid (Below w3.heap.size w3 w8) := HCd.out.1.trans ((HBy.out.trans (HB8.out.mono HBy.out.size)).mono HCd.out.1.size)
                  go_roundw
                  case rel => exact ⟨k + 1, g8, c8, _, by omega, by go_num, rfl, hcap8, HB9.out, by rw [sysL_succ xs hlt, ← HME.out]; exact HLS8.out⟩
                  case measure => simp [intOf]; omega
          · skip
            go_simp
            refine hK.out _ _ (fun _ => HSX.out _ (below_up HB6.out (below_alloc wq5 _))) ?_
            clear hK K
            (try simp only [Act.put, List.setIfInBounds_toArray, List.set_cons_zero, List.set_cons_succ, List.getElem_toArray, List.getElem_cons_zero, List.getElem_cons_succ])
            have HB29 := Lib.hid (below_up HB6.out (below_alloc wq5 (.cells #[.int .i64 0, .slice none 0 0] 30)))
            have HX30 := Lib.hid (Row.new wq5 30 #[.int .i64 0, .slice none 0 0])
            have HR8 : Hid (bs ≤ wq5.heap.size) := by have h1 := HB6.out.size; have h2 := HBS.out; unfold Hid; omega
            have HO31 := Lib.hid (HO7.out.below (below_alloc wq5 (.cells #[.int .i64 0, .slice none 0 0] 30)))
            obtain ⟨r8, hr8⟩ : ∃ r, r = wq5.heap.size := ⟨_, rfl⟩
            rw [← hr8] at HX30 HR8
            rw [← hr8]
            clear hr8
            generalize wq5.alloc _ = wq28 at *
            refine AnyBut.ready (rs := [10]) (by kernel_rfl) (by simp) ?_; refine AllBut.cons rfl (fun K hK => ?_) AllBut.nil
            refine step_append_blk _ (by rfl) _ _ (by rfl) bs _ (by rfl) xs HO31.out Bk dk M (by rfl) (HMb.out _ HB29.out) (by first | omega | simp) (by omega) (by have h1 := HB29.out.size; have h2 := HBS.out; omega) ?_
            intro v36 wq32 hO hg hat
            obtain ⟨Av36, cv36, rfl⟩ := own_slice hO
            have HB33 := Lib.hid (HB29.out.grown hg HB29.out.size (fun b e => by have h1 := own_block HO31.out b e; have h2 := HBS.out; omega))
            have HO34 := Lib.hid hO
            have HX35 := Lib.hid (Row.grown HX30.out hg (own_typed HO31.out ⟨_, HX30.out⟩ (by decide)))
            clear hO hg hat
            refine hK.out _ _ (fun _ => HSX.out _ (HB33.out)) ?_
            clear hK K
            (try simp only [Act.put, List.setIfInBounds_toArray, List.set_cons_zero, List.set_cons_succ, List.getElem_toArray, List.getElem_cons_zero, List.getElem_cons_succ])
            refine AnyBut.ready (rs := [11]) (by kernel_rfl) (by simp) ?_; refine AllBut.cons rfl (fun K hK => ?_) AllBut.nil
            rw [if_pos (by rfl)]
            go_simp
            refine (HMADE.out _ _ _ (OB.bl HO34.out)).mono ?_
            rintro e wq37 ⟨um, rfl, hO, hb⟩
            obtain ⟨Bm, dm, rfl⟩ := own_slice hO
            have HB38 := Lib.hid (below_up HB33.out hb)
            have HOM : Hid (OB wq37 bs (.slice Bm (srtL (xs ++ M)).length dm) (srtL (xs ++ M))) := OB.base hO (by have h1 := HB33.out.size; have h2 := HBS.out; omega)
            have HX40 := Lib.hid (HX35.out.below hb)
            clear hO hb
            refine hK.out _ _ (fun _ => HSX.out _ (HB38.out)) ?_
            clear hK K
            (try simp only [Act.put, List.setIfInBounds_toArray, List.set_cons_zero, List.set_cons_succ, List.getElem_toArray, List.getElem_cons_zero, List.getElem_cons_succ])
            obtain ⟨y0, y1⟩ := HX40.out.c2
            have yf0 := HX40.out.frozen 0
            have yf1 := HX40.out.frozen 1
            have yl := HX40.out.lt
            refine AnyBut.ready (rs := [13]) (by kernel_rfl) (by simp) ?_; refine AllBut.cons rfl (fun K hK => ?_) AllBut.nil
            go_simp
            refine hK.out _ _ (fun h => absurd rfl h) ?_
            clear hK K y0 y1 yf0 yf1 yl
            (try simp only [Act.put, List.setIfInBounds_toArray, List.set_cons_zero, List.set_cons_succ, List.getElem_toArray, List.getElem_cons_zero, List.getElem_cons_succ])
            refine AnyBut.done (by kernel_rfl) ?_ _
            refine NoPanic.normal ?_
            have HROW : Hid (Row ((wq37.setCell ⟨r8, 0, none⟩ (.int .i64 n)).setCell ⟨r8, 1, none⟩ (.slice Bm (srtL (xs ++ M)).length dm)) r8 30 #[.int .i64 n, .slice Bm (srtL (xs ++ M)).length dm]) := (Row.set (Row.set HX40.out 0 _) 1 _)
            have HGS : Hid (wq37.grownBy ((wq37.setCell ⟨r8, 0, none⟩ (.int .i64 n)).setCell ⟨r8, 1, none⟩ (.slice Bm (srtL (xs ++ M)).length dm)) (some r8)) := grown_set (grown_set (grown_refl wq37 (some r8)) 0 _) 1 _
            have HOMF : Hid (OB ((wq37.setCell ⟨r8, 0, none⟩ (.int .i64 n)).setCell ⟨r8, 1, none⟩ (.slice Bm (srtL (xs ++ M)).length dm)) bs (.slice Bm (srtL (xs ++ M)).length dm) (srtL (xs ++ M))) := World.ownsRow.kept HOM.out HGS.out (.inr (own_typed HOM.out ⟨_, HX40.out⟩ (by decide)))
            have HBEL : Hid (Below w6.heap.size w6 ((wq37.setCell ⟨r8, 0, none⟩ (.int .i64 n)).setCell ⟨r8, 1, none⟩ (.slice Bm (srtL (xs ++ M)).length dm))) := (HB38.out.setCell (show w6.heap.size ≤ r8 by have h1 := HR8.out; have h2 := HBS.out; omega) _).setCell (show w6.heap.size ≤ r8 by have h1 := HR8.out; have h2 := HBS.out; omega) _
            clear HGS HOM HX40 HB38
            generalize (wq37.setCell ⟨r8, 0, none⟩ (.int .i64 n)).setCell ⟨r8, 1, none⟩ (.slice Bm (srtL (xs ++ M)).length dm) = wu at *
            have HC7 : Hid (LSS S wu w.heap.size n (.slice (some ⟨gu, 0, none⟩) k cu) (sysL xs (E.take k))) := HCd.out.2.below HBEL.out
            have HBU := HBEL
            obtain ⟨OL, hOL⟩ : ∃ OL, OL = (srtL (xs ++ M)).length := ⟨_, rfl⟩
            rw [← hOL] at HROW HOMF
            rw [← hOL]
            have HOLE : Hid (OL = xs.length + M.length) := by unfold Hid; rw [hOL, srt_len, List.length_append]
            have HOL := Lib.hid hOL
            have hOLb : OL ≤ 200 := by have := HOLE.out; omega
            clear hOL HAb HMb HSX HMADE HBEL
            go_wp2
            go_loopw [9] (fun i wz => i = .int .i64 k ∧ Hid (wz = wu)) (fun _ _ => 0)
            case atStart => exact ⟨rfl, rfl⟩
            case round =>
              obtain ⟨rfl, HWZ⟩ := hrel
              have hwz := HWZ.out
              subst hwz
              clear HWZ
              by_cases hk0 : k = 0
              · have hk1 : ¬ (0 : Int) < (k : Int) := by omega
                have hk2 : ¬ 0 < k := by omega
                have HK0 := Lib.hid hk0
                clear hk0
                go_wp2
                go_quiet (fail)
                have HBV : Hid (Below wr.heap.size wr (wr.drewN nq)) := below_drewN (Below.refl _ _) nq
                generalize wr.drewN nq = wv at *
                go_wp2
                have HRV := Lib.hid (HROW.out.below HBV.out)
                have HBUV : Hid (Below w6.heap.size w6 wv) := HBU.out.trans (HBV.out.mono HBU.out.size)
                have HOV : Hid (OB wv bs (.slice Bm OL dm) (srtL (xs ++ M))) := HOMF.out.below HBV.out
                obtain ⟨y0, y1⟩ := HRV.out.c2
                refine wp_region_noPanic ?_
                refine AnyBut.begin (N := 6) (S := (fun w' => w'.cell? ⟨r8, 0, none⟩ = some (.int .i64 n) ∧ w'.cell? ⟨r8, 1, none⟩ = some (.slice Bm OL dm))) (by kernel_rfl) ?_
                have hS0 : (fun w' : World => w'.cell? ⟨r8, 0, none⟩ = some (.int .i64 n) ∧ w'.cell? ⟨r8, 1, none⟩ = some (.slice Bm OL dm)) wv.drew := ⟨y0, y1⟩
                refine AnyBut.take (i := 0) (v := ?_) rfl rfl (by decide) (by kernel_rfl) (by kernel_rfl) (by kernel_rfl) (by kernel_rfl) (fun _ _ _ h => h) (Or.inl ⟨by rfl, ?_⟩) hS0 ?_; rotate_left; (focus (intro W hSw; (try dsimp only at hSw); obtain ⟨z0, z1⟩ := hSw; go_simp; (try with_reducible rfl))); (try simp only [Act.put, List.setIfInBounds_toArray, List.set_cons_zero, List.set_cons_succ]); refine AnyBut.take (i := 2) (v := ?_) rfl rfl (by decide) (by kernel_rfl) (by kernel_rfl) (by kernel_rfl) (by kernel_rfl) (fun _ _ _ h => h) (Or.inl ⟨by rfl, ?_⟩) hS0 ?_; rotate_left; (focus (intro W hSw; (try dsimp only at hSw); obtain ⟨z0, z1⟩ := hSw; go_simp; (try with_reducible rfl))); (try simp only [Act.put, List.setIfInBounds_toArray, List.set_cons_zero, List.set_cons_succ]); refine AnyBut.take (i := 3) (v := ?_) rfl rfl (by decide) (by kernel_rfl) (by kernel_rfl) (by kernel_rfl) (by kernel_rfl) (fun _ _ _ h => h) (Or.inl ⟨by rfl, ?_⟩) hS0 ?_; rotate_left; (focus (intro W hSw; (try dsimp only at hSw); obtain ⟨z0, z1⟩ := hSw; go_simp; (try with_reducible rfl))); (try simp only [Act.put, List.setIfInBounds_toArray, List.set_cons_zero, List.set_cons_succ]); refine AnyBut.take (i := 4) (v := ?_) rfl rfl (by decide) (by kernel_rfl) (by kernel_rfl) (by kernel_rfl) (by kernel_rfl) (fun _ _ _ h => h) (Or.inl ⟨by rfl, ?_⟩) hS0 ?_; rotate_left; (focus (intro W hSw; (try dsimp only at hSw); obtain ⟨z0, z1⟩ := hSw; go_simp; (try with_reducible rfl))); (try simp only [Act.put, List.setIfInBounds_toArray, List.set_cons_zero, List.set_cons_succ])
                have HRVd := Lib.hid (HRV.out.below (below_drew wv))
                have HBVd : Hid (Below w6.heap.size w6 wv.drew) := HBUV.out.trans ((below_drew wv).mono HBUV.out.size)
                have HOVd := Lib.hid (HOV.out.below (below_drew wv))
                have HSY : Hid (∀ w', Below wv.drew.heap.size wv.drew w' → w'.cell? ⟨r8, 0, none⟩ = some (.int .i64 n) ∧ w'.cell? ⟨r8, 1, none⟩ = some (.slice Bm OL dm)) := fun w' hb => (HRVd.out.below hb).c2
                clear hS0 y0 y1
                generalize wv.drew = wx at *
                refine AnyBut.ready (rs := [1]) (by kernel_rfl) (by simp) ?_; refine AllBut.cons rfl (fun K hK => ?_) AllBut.nil
                go_simp
                refine hK.out _ _ (fun _ => HSY.out _ (below_alloc wx _)) ?_
                clear hK K
                (try simp only [Act.put, List.setIfInBounds_toArray, List.set_cons_zero, List.set_cons_succ, List.getElem_toArray, List.getElem_cons_zero, List.getElem_cons_succ])
                have hbx : w.heap.size ≤ wx.heap.size := by have h1 := HBVd.out.size; have h2 := HW3.out.size; have h3 := HCd.out.1.size; omega
                have HLIT := Lib.hid (own_lit wx 30 (.int .i64 n) (.slice Bm OL dm) w.heap.size hbx)
                refine AnyBut.ready (rs := [5]) (by kernel_rfl) (by simp) ?_; refine AllBut.cons rfl (fun K hK => ?_) AllBut.nil
                refine step_append_zero _ (by rfl) _ _ 38 (by rfl) w.heap.size 30 si0 2 Try.underlying38 hsi _ 1 _ (by rfl) HLIT.out _ _ (by rfl) ?_
                refine hK.out _ _ (fun _ => HSY.out _ (below_alloc wx _)) ?_
                clear hK K
                (try simp only [Act.put, List.setIfInBounds_toArray, List.set_cons_zero, List.set_cons_succ, List.getElem_toArray, List.getElem_cons_zero, List.getElem_cons_succ])
                refine AnyBut.ready (rs := [6]) (by kernel_rfl) (by simp) ?_; refine AllBut.cons rfl (fun K hK => ?_) AllBut.nil
                go_simp
                refine hK.out _ _ (fun h => absurd rfl h) ?_
                clear hK K
                (try simp only [Act.put, List.setIfInBounds_toArray, List.set_cons_zero, List.set_cons_succ, List.getElem_toArray, List.getElem_cons_zero, List.getElem_cons_succ])
                refine AnyBut.done (by kernel_rfl) ?_ _
                refine NoPanic.normal ?_
                have HLC := Lib.hid (Row.new wx 30 #[.int .i64 n, .slice Bm OL dm])
                have HBy : Hid (Below w6.heap.size w6 (wx.alloc (.cells #[.int .i64 n, .slice Bm OL dm] 30))) := HBVd.out.trans ((below_alloc wx _).mono HBVd.out.size)
                have HOVy := Lib.hid (HOVd.out.below (below_alloc wx (.cells #[.int .i64 n, .slice Bm OL dm] 30)))
                obtain ⟨hx, hhx⟩ : ∃ r, r = wx.heap.size := ⟨_, rfl⟩
                rw [← hhx] at HLC
                rw [← hhx]
                clear hhx HLIT
                generalize wx.alloc _ = wy at *
                obtain ⟨hs', hown, hpush⟩ := HCd.out.2.push
                rw [sysL_len xs hk] at hown hpush
                have HOWN := Lib.hid hown; have HPUSH := Lib.hid hpush
                have HONE : Hid (∀ v ∈ hdS n hs' k, v.oneCell' = true) := HCd.out.2.ones (sysL_len xs hk) hown
                clear hown hpush
                have HEm : Hid ((wy.alloc (.cells #[] 30)).ownsRow wy.heap.size 30 2 (.slice (some ⟨wy.heap.size, 0, none⟩) 0 0) 0 []) := own_empty wy _ 2
                have HOWy : Hid ((wy.alloc (.cells #[] 30)).ownsRow w.heap.size 30 2 (.slice (some ⟨gu, 0, none⟩) k cu) k (hdS n hs' k)) := own_below (own_below HOWN.out HBy.out) (below_alloc wy _)
                have hkE : k ≤ 1000000 := by omega
                go_wp2_with (first
                  | (at_builtin; refine wpList_append_sys _ rfl _ _ rfl wy.heap.size _ rfl k (hdS n hs' k) HO5.out hx 1 1 [.int .i64 n, .slice Bm OL dm] rfl rfl (cells2 HLC5.out) (by simp [Value.oneCell']) (by omega) (by omega) HB5.out.size ?_
                     intro v8 w8 hO8 hg8 hat8
                     obtain ⟨g8, c8, rfl, hge8, hcap8⟩ := own_some hO8 (by omega)
                     have HO8 := Lib.hid hO8
                     have HB8 : Hid (Below wy.heap.size wy w8) := HB5.out.grown hg8 HB5.out.size (own_block HO5.out)
                     have HGE8 := Lib.hid hge8
                     clear hO8 hg8 hat8 hge8)
                  | (at_builtin; refine wpList_append_sys _ rfl _ _ rfl wy.heap.size _ rfl 0 [] HEm.out gu k cu (hdS n hs' k) rfl (hdS_len _ _ _) (LSS.cells (ss := []) (S := fun _ => False) HOWy.out) HONE.out (by omega) (by omega) (by simp) ?_
                     intro v5 w5 hO5 hg5 hat5
                     rw [Nat.zero_add, List.nil_append] at hO5
                     obtain ⟨A5, c5, rfl⟩ := own_slice hO5
                     have HO5 := Lib.hid hO5
                     have HB5 : Hid (Below wy.heap.size wy w5) := (below_alloc wy _).grown hg5 (by simp) (own_block HEm.out)
                     have HLC5 := Lib.hid (Row.below HLC.out HB5.out)
                     clear hO5 hg5 hat5))
                have hbw6 : w.heap.size ≤ bs := by have h1 := HBS.out; have h2 := HCd.out.1.size; have h3 := HW3.out.size; omega
                have HLS8 := Lib.hid (HPUSH.out wy w8 w8 (.slice Bm OL dm) (.slice (some ⟨g8, 0, none⟩) (k + 1) c8) (srtL (xs ++ M)) HBy.out (OB.base HOVy.out hbw6) (fun b e => by have h1 := own_block HOVy.out b e; have h2 := HBS.out; omega) HB8.out (grown_refl _ _) (own_base HO8.out (by have h1 := HBy.out.size; have h2 := HBS.out; omega)) (.inr ⟨g8, rfl, by have h1 := HBy.out.size; have h2 := HGE8.out; omega⟩))
                have HB9 : Hid (Below w3.heap.size w3 w8) := HCd.out.1.trans ((HBy.out.trans (HB8.out.mono HBy.out.size)).mono HCd.out.1.size)
                go_roundw
                case rel => exact ⟨k + 1, g8, c8, _, by omega, by go_num, rfl, hcap8, HB9.out, by rw [sysL_succ xs hlt, ← HME.out]; exact HLS8.out⟩
                case measure => simp [intOf]; omega
              · have hk1 : (0 : Int) < (k : Int) := by omega
                have hk2 : 0 < k := by omega
                obtain ⟨j, hj⟩ : ∃ j, k = j + 1 := ⟨k - 1, by omega⟩
                have HJ := Lib.hid hj
                have hjk : j < k := by omega
                obtain ⟨gv, B2, d2, hg2, hgl2, _, t0, t1, hob2⟩ := HC7.out.rd (k := j) (by rw [sysL_len xs hk]; exact hjk)
                simp only [Option.some.injEq, Addr.mk.injEq] at hg2
                obtain ⟨rfl, -, -⟩ := hg2
                rw [sysL_at xs hjk hk] at t1 hob2
                obtain ⟨PL, hPL⟩ : ∃ PL, PL = (srtL (xs ++ nthB E j)).length := ⟨_, rfl⟩
                have hPLe : PL = OL := by
                  have h1 := HML.out (nthB E j) (by have h : j < E.length := (by omega); simp [nthB, h])
                  have h2 := HOLE.out; have h3 := HMl.out
                  rw [hPL, srt_len, List.length_append, h1]; omega
                have HBEF : Hid (befL (srtL (xs ++ M)) (srtL (xs ++ nthB E j)) = false) := by
                  have h1 := List.pairwise_iff_getElem.1 HPW.out j k (by omega) hlt hjk
                  have e1 : nthB E j = E[j]'(by omega) := by have h : j < E.length := (by omega); simp [nthB, h]
                  have e2 : nthB E k = E[k]'hlt := by simp [nthB, hlt]
                  unfold Hid
                  rw [HME.out, e1, e2]; exact h1
                have HCALL : Hid (∀ W, Below wr.heap.size wr W → Calls Try.prog 167 #[.slice Bm OL dm, .slice B2 PL d2] W fun e w' => e = .returned (.bool false) ∧ Below W.heap.size W w') := fun W hb => by
                  have := bef_no HBEF.out Bm dm B2 d2 W (by have h := HOMF.out; rw [HOL.out] at h; exact (OB.bl h).below hb) ((OB.bl hob2).below hb) (by rw [← HOL.out]; omega) (by rw [← HOL.out, ← hPL]; exact hPLe.symm)
                  rw [← HOL.out, ← hPL] at this
                  exact this
                rw [← hPL] at t1
                have hidx : (k : Int) - 1 = (j : Int) := by omega
                have hjI : (j : Int) < (k : Int) := by omega
                obtain ⟨y0, y1⟩ := HROW.out.c2
                have yl := HROW.out.lt
                clear hj hPL hPLe hob2 t0
                go_wp2
                refine wp_region_ge_lit (by kernel_rfl) (by kernel_rfl) ?_; (repeat (go_big_quiet_step ((go_at_call 167; exact ge_call (HCALL.out _ (ge_below _ _)))))); refine wpQuiet_nil ?_
                rintro wv0 ⟨x, rfl⟩
                have HBV : Hid (Below wr.heap.size wr (ge wr x)) := ge_below _ _
                clear y0 y1 yl t1 hgl2 hidx hjI HCALL
                generalize ge wr x = wv at *
                go_wp2
                have HRV := Lib.hid (HROW.out.below HBV.out)
                have HBUV : Hid (Below w6.heap.size w6 wv) := HBU.out.trans (HBV.out.mono HBU.out.size)
                have HOV : Hid (OB wv bs (.slice Bm OL dm) (srtL (xs ++ M))) := HOMF.out.below HBV.out
                obtain ⟨y0, y1⟩ := HRV.out.c2
                refine wp_region_noPanic ?_
                refine AnyBut.begin (N := 6) (S := (fun w' => w'.cell? ⟨r8, 0, none⟩ = some (.int .i64 n) ∧ w'.cell? ⟨r8, 1, none⟩ = some (.slice Bm OL dm))) (by kernel_rfl) ?_
                have hS0 : (fun w' : World => w'.cell? ⟨r8, 0, none⟩ = some (.int .i64 n) ∧ w'.cell? ⟨r8, 1, none⟩ = some (.slice Bm OL dm)) wv.drew := ⟨y0, y1⟩
                refine AnyBut.take (i := 0) (v := ?_) rfl rfl (by decide) (by kernel_rfl) (by kernel_rfl) (by kernel_rfl) (by kernel_rfl) (fun _ _ _ h => h) (Or.inl ⟨by rfl, ?_⟩) hS0 ?_; rotate_left; (focus (intro W hSw; (try dsimp only at hSw); obtain ⟨z0, z1⟩ := hSw; go_simp; (try with_reducible rfl))); (try simp only [Act.put, List.setIfInBounds_toArray, List.set_cons_zero, List.set_cons_succ]); refine AnyBut.take (i := 2) (v := ?_) rfl rfl (by decide) (by kernel_rfl) (by kernel_rfl) (by kernel_rfl) (by kernel_rfl) (fun _ _ _ h => h) (Or.inl ⟨by rfl, ?_⟩) hS0 ?_; rotate_left; (focus (intro W hSw; (try dsimp only at hSw); obtain ⟨z0, z1⟩ := hSw; go_simp; (try with_reducible rfl))); (try simp only [Act.put, List.setIfInBounds_toArray, List.set_cons_zero, List.set_cons_succ]); refine AnyBut.take (i := 3) (v := ?_) rfl rfl (by decide) (by kernel_rfl) (by kernel_rfl) (by kernel_rfl) (by kernel_rfl) (fun _ _ _ h => h) (Or.inl ⟨by rfl, ?_⟩) hS0 ?_; rotate_left; (focus (intro W hSw; (try dsimp only at hSw); obtain ⟨z0, z1⟩ := hSw; go_simp; (try with_reducible rfl))); (try simp only [Act.put, List.setIfInBounds_toArray, List.set_cons_zero, List.set_cons_succ]); refine AnyBut.take (i := 4) (v := ?_) rfl rfl (by decide) (by kernel_rfl) (by kernel_rfl) (by kernel_rfl) (by kernel_rfl) (fun _ _ _ h => h) (Or.inl ⟨by rfl, ?_⟩) hS0 ?_; rotate_left; (focus (intro W hSw; (try dsimp only at hSw); obtain ⟨z0, z1⟩ := hSw; go_simp; (try with_reducible rfl))); (try simp only [Act.put, List.setIfInBounds_toArray, List.set_cons_zero, List.set_cons_succ])
                have HRVd := Lib.hid (HRV.out.below (below_drew wv))
                have HBVd : Hid (Below w6.heap.size w6 wv.drew) := HBUV.out.trans ((below_drew wv).mono HBUV.out.size)
                have HOVd := Lib.hid (HOV.out.below (below_drew wv))
                have HSY : Hid (∀ w', Below wv.drew.heap.size wv.drew w' → w'.cell? ⟨r8, 0, none⟩ = some (.int .i64 n) ∧ w'.cell? ⟨r8, 1, none⟩ = some (.slice Bm OL dm)) := fun w' hb => (HRVd.out.below hb).c2
                clear hS0 y0 y1
                generalize wv.drew = wx at *
                refine AnyBut.ready (rs := [1]) (by kernel_rfl) (by simp) ?_; refine AllBut.cons rfl (fun K hK => ?_) AllBut.nil
                go_simp
                refine hK.out _ _ (fun _ => HSY.out _ (below_alloc wx _)) ?_
                clear hK K
                (try simp only [Act.put, List.setIfInBounds_toArray, List.set_cons_zero, List.set_cons_succ, List.getElem_toArray, List.getElem_cons_zero, List.getElem_cons_succ])
                have hbx : w.heap.size ≤ wx.heap.size := by have h1 := HBVd.out.size; have h2 := HW3.out.size; have h3 := HCd.out.1.size; omega
                have HLIT := Lib.hid (own_lit wx 30 (.int .i64 n) (.slice Bm OL dm) w.heap.size hbx)
                refine AnyBut.ready (rs := [5]) (by kernel_rfl) (by simp) ?_; refine AllBut.cons rfl (fun K hK => ?_) AllBut.nil
                refine step_append_zero _ (by rfl) _ _ 38 (by rfl) w.heap.size 30 si0 2 Try.underlying38 hsi _ 1 _ (by rfl) HLIT.out _ _ (by rfl) ?_
                refine hK.out _ _ (fun _ => HSY.out _ (below_alloc wx _)) ?_
                clear hK K
                (try simp only [Act.put, List.setIfInBounds_toArray, List.set_cons_zero, List.set_cons_succ, List.getElem_toArray, List.getElem_cons_zero, List.getElem_cons_succ])
                refine AnyBut.ready (rs := [6]) (by kernel_rfl) (by simp) ?_; refine AllBut.cons rfl (fun K hK => ?_) AllBut.nil
                go_simp
                refine hK.out _ _ (fun h => absurd rfl h) ?_
                clear hK K
                (try simp only [Act.put, List.setIfInBounds_toArray, List.set_cons_zero, List.set_cons_succ, List.getElem_toArray, List.getElem_cons_zero, List.getElem_cons_succ])
                refine AnyBut.done (by kernel_rfl) ?_ _
                refine NoPanic.normal ?_
                have HLC := Lib.hid (Row.new wx 30 #[.int .i64 n, .slice Bm OL dm])
                have HBy : Hid (Below w6.heap.size w6 (wx.alloc (.cells #[.int .i64 n, .slice Bm OL dm] 30))) := HBVd.out.trans ((below_alloc wx _).mono HBVd.out.size)
                have HOVy := Lib.hid (HOVd.out.below (below_alloc wx (.cells #[.int .i64 n, .slice Bm OL dm] 30)))
                obtain ⟨hx, hhx⟩ : ∃ r, r = wx.heap.size := ⟨_, rfl⟩
                rw [← hhx] at HLC
                rw [← hhx]
                clear hhx HLIT
                generalize wx.alloc _ = wy at *
                obtain ⟨hs', hown, hpush⟩ := HCd.out.2.push
                rw [sysL_len xs hk] at hown hpush
                have HOWN := Lib.hid hown; have HPUSH := Lib.hid hpush
                have HONE : Hid (∀ v ∈ hdS n hs' k, v.oneCell' = true) := HCd.out.2.ones (sysL_len xs hk) hown
                clear hown hpush
                have HEm : Hid ((wy.alloc (.cells #[] 30)).ownsRow wy.heap.size 30 2 (.slice (some ⟨wy.heap.size, 0, none⟩) 0 0) 0 []) := own_empty wy _ 2
                have HOWy : Hid ((wy.alloc (.cells #[] 30)).ownsRow w.heap.size 30 2 (.slice (some ⟨gu, 0, none⟩) k cu) k (hdS n hs' k)) := own_below (own_below HOWN.out HBy.out) (below_alloc wy _)
                have hkE : k ≤ 1000000 := by omega
                go_wp2_with (first
                  | (at_builtin; refine wpList_append_sys _ rfl _ _ rfl wy.heap.size _ rfl k (hdS n hs' k) HO5.out hx 1 1 [.int .i64 n, .slice Bm OL dm] rfl rfl (cells2 HLC5.out) (by simp [Value.oneCell']) (by omega) (by omega) HB5.out.size ?_
                     intro v8 w8 hO8 hg8 hat8
                     obtain ⟨g8, c8, rfl, hge8, hcap8⟩ := own_some hO8 (by omega)
                     have HO8 := Lib.hid hO8
                     have HB8 : Hid (Below wy.heap.size wy w8) := HB5.out.grown hg8 HB5.out.size (own_block HO5.out)
                     have HGE8 := Lib.hid hge8
                     clear hO8 hg8 hat8 hge8)
                  | (at_builtin; refine wpList_append_sys _ rfl _ _ rfl wy.heap.size _ rfl 0 [] HEm.out gu k cu (hdS n hs' k) rfl (hdS_len _ _ _) (LSS.cells (ss := []) (S := fun _ => False) HOWy.out) HONE.out (by omega) (by omega) (by simp) ?_
                     intro v5 w5 hO5 hg5 hat5
                     rw [Nat.zero_add, List.nil_append] at hO5
                     obtain ⟨A5, c5, rfl⟩ := own_slice hO5
                     have HO5 := Lib.hid hO5
                     have HB5 : Hid (Below wy.heap.size wy w5) := (below_alloc wy _).grown hg5 (by simp) (own_block HEm.out)
                     have HLC5 := Lib.hid (Row.below HLC.out HB5.out)
                     clear hO5 hg5 hat5))
                have hbw6 : w.heap.size ≤ bs := by have h1 := HBS.out; have h2 := HCd.out.1.size; have h3 := HW3.out.size; omega
                have HLS8 := Lib.hid (HPUSH.out wy w8 w8 (.slice Bm OL dm) (.slice (some ⟨g8, 0, none⟩) (k + 1) c8) (srtL (xs ++ M)) HBy.out (OB.base HOVy.out hbw6) (fun b e => by have h1 := own_block HOVy.out b e; have h2 := HBS.out; omega) HB8.out (grown_refl _ _) (own_base HO8.out (by have h1 := HBy.out.size; have h2 := HBS.out; omega)) (.inr ⟨g8, rfl, by have h1 := HBy.out.size; have h2 := HGE8.out; omega⟩))
                have HB9 : Hid (Below w3.heap.size w3 w8) := HCd.out.1.trans ((HBy.out.trans (HB8.out.mono HBy.out.size)).mono HCd.out.1.size)
                go_roundw
                case rel => exact ⟨k + 1, g8, c8, _, by omega, by go_num, rfl, hcap8, HB9.out, by rw [sysL_succ xs hlt, ← HME.out]; exact HLS8.out⟩
                case measure => simp [intOf]; omega
        · skip
          go_simp
          refine hK.out _ _ (fun _ => HSX.out _ (below_up HB2.out (below_alloc wq1 _))) ?_
          clear hK K
          (try simp only [Act.put, List.setIfInBounds_toArray, List.set_cons_zero, List.set_cons_succ, List.getElem_toArray, List.getElem_cons_zero, List.getElem_cons_succ])
          have HB42 := Lib.hid (below_up HB2.out (below_alloc wq1 (.cells #[.int .i64 0, .slice none 0 0] 30)))
          have HX43 := Lib.hid (Row.new wq1 30 #[.int .i64 0, .slice none 0 0])
          have HR8 : Hid (bs ≤ wq1.heap.size) := by have h1 := HB2.out.size; have h2 := HBS.out; unfold Hid; omega
          have HO44 := Lib.hid (HO3.out.below (below_alloc wq1 (.cells #[.int .i64 0, .slice none 0 0] 30)))
          obtain ⟨r8, hr8⟩ : ∃ r, r = wq1.heap.size := ⟨_, rfl⟩
          rw [← hr8] at HX43 HR8
          rw [← hr8]
          clear hr8
          generalize wq1.alloc _ = wq41 at *
          refine AnyBut.ready (rs := [5]) (by kernel_rfl) (by simp) ?_; refine AllBut.cons rfl (fun K hK => ?_) AllBut.nil
          refine step_append_blk _ (by rfl) _ _ (by rfl) bs _ (by rfl) [] HO44.out A c xs (by rfl) (HAb.out _ HB42.out) (by first | omega | simp) (by omega) (by have h1 := HB42.out.size; have h2 := HBS.out; omega) ?_
          intro v49 wq45 hO hg hat
          obtain ⟨Av49, cv49, rfl⟩ := own_slice hO
          have HB46 := Lib.hid (HB42.out.grown hg HB42.out.size (fun b e => by have h1 := own_block HO44.out b e; have h2 := HBS.out; omega))
          rw [List.nil_append] at hO
          have HO47 := Lib.hid hO
          have HX48 := Lib.hid (Row.grown HX43.out hg (own_typed HO44.out ⟨_, HX43.out⟩ (by decide)))
          clear hO hg hat
          refine hK.out _ _ (fun _ => HSX.out _ (HB46.out)) ?_
          clear hK K
          (try simp only [Act.put, List.setIfInBounds_toArray, List.set_cons_zero, List.set_cons_succ, List.getElem_toArray, List.getElem_cons_zero, List.getElem_cons_succ])
          refine AnyBut.ready (rs := [10]) (by kernel_rfl) (by simp) ?_; refine AllBut.cons rfl (fun K hK => ?_) AllBut.nil
          refine step_append_blk _ (by rfl) _ _ (by rfl) bs _ (by rfl) xs HO47.out Bk dk M (by rfl) (HMb.out _ HB46.out) (by first | omega | simp) (by omega) (by have h1 := HB46.out.size; have h2 := HBS.out; omega) ?_
          intro v54 wq50 hO hg hat
          obtain ⟨Av54, cv54, rfl⟩ := own_slice hO
          have HB51 := Lib.hid (HB46.out.grown hg HB46.out.size (fun b e => by have h1 := own_block HO47.out b e; have h2 := HBS.out; omega))
          have HO52 := Lib.hid hO
          have HX53 := Lib.hid (Row.grown HX48.out hg (own_typed HO47.out ⟨_, HX48.out⟩ (by decide)))
          clear hO hg hat
          refine hK.out _ _ (fun _ => HSX.out _ (HB51.out)) ?_
          clear hK K
          (try simp only [Act.put, List.setIfInBounds_toArray, List.set_cons_zero, List.set_cons_succ, List.getElem_toArray, List.getElem_cons_zero, List.getElem_cons_succ])
          refine AnyBut.ready (rs := [11]) (by kernel_rfl) (by simp) ?_; refine AllBut.cons rfl (fun K hK => ?_) AllBut.nil
          rw [if_pos (by rfl)]
          go_simp
          refine (HMADE.out _ _ _ (OB.bl HO52.out)).mono ?_
          rintro e wq55 ⟨um, rfl, hO, hb⟩
          obtain ⟨Bm, dm, rfl⟩ := own_slice hO
          have HB56 := Lib.hid (below_up HB51.out hb)
          have HOM : Hid (OB wq55 bs (.slice Bm (srtL (xs ++ M)).length dm) (srtL (xs ++ M))) := OB.base hO (by have h1 := HB51.out.size; have h2 := HBS.out; omega)
          have HX58 := Lib.hid (HX53.out.below hb)
          clear hO hb
          refine hK.out _ _ (fun _ => HSX.out _ (HB56.out)) ?_
          clear hK K
          (try simp only [Act.put, List.setIfInBounds_toArray, List.set_cons_zero, List.set_cons_succ, List.getElem_toArray, List.getElem_cons_zero, List.getElem_cons_succ])
          obtain ⟨y0, y1⟩ := HX58.out.c2
          have yf0 := HX58.out.frozen 0
          have yf1 := HX58.out.frozen 1
          have yl := HX58.out.lt
          refine AnyBut.ready (rs := [13]) (by kernel_rfl) (by simp) ?_; refine AllBut.cons rfl (fun K hK => ?_) AllBut.nil
          go_simp
          refine hK.out _ _ (fun h => absurd rfl h) ?_
          clear hK K y0 y1 yf0 yf1 yl
          (try simp only [Act.put, List.setIfInBounds_toArray, List.set_cons_zero, List.set_cons_succ, List.getElem_toArray, List.getElem_cons_zero, List.getElem_cons_succ])
          refine AnyBut.done (by kernel_rfl) ?_ _
          refine NoPanic.normal ?_
          have HROW : Hid (Row ((wq55.setCell ⟨r8, 0, none⟩ (.int .i64 n)).setCell ⟨r8, 1, none⟩ (.slice Bm (srtL (xs ++ M)).length dm)) r8 30 #[.int .i64 n, .slice Bm (srtL (xs ++ M)).length dm]) := (Row.set (Row.set HX58.out 0 _) 1 _)
          have HGS : Hid (wq55.grownBy ((wq55.setCell ⟨r8, 0, none⟩ (.int .i64 n)).setCell ⟨r8, 1, none⟩ (.slice Bm (srtL (xs ++ M)).length dm)) (some r8)) := grown_set (grown_set (grown_refl wq55 (some r8)) 0 _) 1 _
          have HOMF : Hid (OB ((wq55.setCell ⟨r8, 0, none⟩ (.int .i64 n)).setCell ⟨r8, 1, none⟩ (.slice Bm (srtL (xs ++ M)).length dm)) bs (.slice Bm (srtL (xs ++ M)).length dm) (srtL (xs ++ M))) := World.ownsRow.kept HOM.out HGS.out (.inr (own_typed HOM.out ⟨_, HX58.out⟩ (by decide)))
          have HBEL : Hid (Below w6.heap.size w6 ((wq55.setCell ⟨r8, 0, none⟩ (.int .i64 n)).setCell ⟨r8, 1, none⟩ (.slice Bm (srtL (xs ++ M)).length dm))) := (HB56.out.setCell (show w6.heap.size ≤ r8 by have h1 := HR8.out; have h2 := HBS.out; omega) _).setCell (show w6.heap.size ≤ r8 by have h1 := HR8.out; have h2 := HBS.out; omega) _
          clear HGS HOM HX58 HB56
          generalize (wq55.setCell ⟨r8, 0, none⟩ (.int .i64 n)).setCell ⟨r8, 1, none⟩ (.slice Bm (srtL (xs ++ M)).length dm) = wu at *
          have HC7 : Hid (LSS S wu w.heap.size n (.slice (some ⟨gu, 0, none⟩) k cu) (sysL xs (E.take k))) := HCd.out.2.below HBEL.out
          have HBU := HBEL
          obtain ⟨OL, hOL⟩ : ∃ OL, OL = (srtL (xs ++ M)).length := ⟨_, rfl⟩
          rw [← hOL] at HROW HOMF
          rw [← hOL]
          have HOLE : Hid (OL = xs.length + M.length) := by unfold Hid; rw [hOL, srt_len, List.length_append]
          have HOL := Lib.hid hOL
          have hOLb : OL ≤ 200 := by have := HOLE.out; omega
          clear hOL HAb HMb HSX HMADE HBEL
          go_wp2
          go_loopw [9] (fun i wz => i = .int .i64 k ∧ Hid (wz = wu)) (fun _ _ => 0)
          case atStart => exact ⟨rfl, rfl⟩
          case round =>
            obtain ⟨rfl, HWZ⟩ := hrel
            have hwz := HWZ.out
            subst hwz
            clear HWZ
            by_cases hk0 : k = 0
            · have hk1 : ¬ (0 : Int) < (k : Int) := by omega
              have hk2 : ¬ 0 < k := by omega
              have HK0 := Lib.hid hk0
              clear hk0
              go_wp2
              go_quiet (fail)
              have HBV : Hid (Below wr.heap.size wr (wr.drewN nq)) := below_drewN (Below.refl _ _) nq
              generalize wr.drewN nq = wv at *
              go_wp2
              have HRV := Lib.hid (HROW.out.below HBV.out)
              have HBUV : Hid (Below w6.heap.size w6 wv) := HBU.out.trans (HBV.out.mono HBU.out.size)
              have HOV : Hid (OB wv bs (.slice Bm OL dm) (srtL (xs ++ M))) := HOMF.out.below HBV.out
              obtain ⟨y0, y1⟩ := HRV.out.c2
              refine wp_region_noPanic ?_
              refine AnyBut.begin (N := 6) (S := (fun w' => w'.cell? ⟨r8, 0, none⟩ = some (.int .i64 n) ∧ w'.cell? ⟨r8, 1, none⟩ = some (.slice Bm OL dm))) (by kernel_rfl) ?_
              have hS0 : (fun w' : World => w'.cell? ⟨r8, 0, none⟩ = some (.int .i64 n) ∧ w'.cell? ⟨r8, 1, none⟩ = some (.slice Bm OL dm)) wv.drew := ⟨y0, y1⟩
              refine AnyBut.take (i := 0) (v := ?_) rfl rfl (by decide) (by kernel_rfl) (by kernel_rfl) (by kernel_rfl) (by kernel_rfl) (fun _ _ _ h => h) (Or.inl ⟨by rfl, ?_⟩) hS0 ?_; rotate_left; (focus (intro W hSw; (try dsimp only at hSw); obtain ⟨z0, z1⟩ := hSw; go_simp; (try with_reducible rfl))); (try simp only [Act.put, List.setIfInBounds_toArray, List.set_cons_zero, List.set_cons_succ]); refine AnyBut.take (i := 2) (v := ?_) rfl rfl (by decide) (by kernel_rfl) (by kernel_rfl) (by kernel_rfl) (by kernel_rfl) (fun _ _ _ h => h) (Or.inl ⟨by rfl, ?_⟩) hS0 ?_; rotate_left; (focus (intro W hSw; (try dsimp only at hSw); obtain ⟨z0, z1⟩ := hSw; go_simp; (try with_reducible rfl))); (try simp only [Act.put, List.setIfInBounds_toArray, List.set_cons_zero, List.set_cons_succ]); refine AnyBut.take (i := 3) (v := ?_) rfl rfl (by decide) (by kernel_rfl) (by kernel_rfl) (by kernel_rfl) (by kernel_rfl) (fun _ _ _ h => h) (Or.inl ⟨by rfl, ?_⟩) hS0 ?_; rotate_left; (focus (intro W hSw; (try dsimp only at hSw); obtain ⟨z0, z1⟩ := hSw; go_simp; (try with_reducible rfl))); (try simp only [Act.put, List.setIfInBounds_toArray, List.set_cons_zero, List.set_cons_succ]); refine AnyBut.take (i := 4) (v := ?_) rfl rfl (by decide) (by kernel_rfl) (by kernel_rfl) (by kernel_rfl) (by kernel_rfl) (fun _ _ _ h => h) (Or.inl ⟨by rfl, ?_⟩) hS0 ?_; rotate_left; (focus (intro W hSw; (try dsimp only at hSw); obtain ⟨z0, z1⟩ := hSw; go_simp; (try with_reducible rfl))); (try simp only [Act.put, List.setIfInBounds_toArray, List.set_cons_zero, List.set_cons_succ])
              have HRVd := Lib.hid (HRV.out.below (below_drew wv))
              have HBVd : Hid (Below w6.heap.size w6 wv.drew) := HBUV.out.trans ((below_drew wv).mono HBUV.out.size)
              have HOVd := Lib.hid (HOV.out.below (below_drew wv))
              have HSY : Hid (∀ w', Below wv.drew.heap.size wv.drew w' → w'.cell? ⟨r8, 0, none⟩ = some (.int .i64 n) ∧ w'.cell? ⟨r8, 1, none⟩ = some (.slice Bm OL dm)) := fun w' hb => (HRVd.out.below hb).c2
              clear hS0 y0 y1
              generalize wv.drew = wx at *
              refine AnyBut.ready (rs := [1]) (by kernel_rfl) (by simp) ?_; refine AllBut.cons rfl (fun K hK => ?_) AllBut.nil
              go_simp
              refine hK.out _ _ (fun _ => HSY.out _ (below_alloc wx _)) ?_
              clear hK K
              (try simp only [Act.put, List.setIfInBounds_toArray, List.set_cons_zero, List.set_cons_succ, List.getElem_toArray, List.getElem_cons_zero, List.getElem_cons_succ])
              have hbx : w.heap.size ≤ wx.heap.size := by have h1 := HBVd.out.size; have h2 := HW3.out.size; have h3 := HCd.out.1.size; omega
              have HLIT := Lib.hid (own_lit wx 30 (.int .i64 n) (.slice Bm OL dm) w.heap.size hbx)
              refine AnyBut.ready (rs := [5]) (by kernel_rfl) (by simp) ?_; refine AllBut.cons rfl (fun K hK => ?_) AllBut.nil
              refine step_append_zero _ (by rfl) _ _ 38 (by rfl) w.heap.size 30 si0 2 Try.underlying38 hsi _ 1 _ (by rfl) HLIT.out _ _ (by rfl) ?_
              refine hK.out _ _ (fun _ => HSY.out _ (below_alloc wx _)) ?_
              clear hK K
              (try simp only [Act.put, List.setIfInBounds_toArray, List.set_cons_zero, List.set_cons_succ, List.getElem_toArray, List.getElem_cons_zero, List.getElem_cons_succ])
              refine AnyBut.ready (rs := [6]) (by kernel_rfl) (by simp) ?_; refine AllBut.cons rfl (fun K hK => ?_) AllBut.nil
              go_simp
              refine hK.out _ _ (fun h => absurd rfl h) ?_
              clear hK K
              (try simp only [Act.put, List.setIfInBounds_toArray, List.set_cons_zero, List.set_cons_succ, List.getElem_toArray, List.getElem_cons_zero, List.getElem_cons_succ])
              refine AnyBut.done (by kernel_rfl) ?_ _
              refine NoPanic.normal ?_
              have HLC := Lib.hid (Row.new wx 30 #[.int .i64 n, .slice Bm OL dm])
              have HBy : Hid (Below w6.heap.size w6 (wx.alloc (.cells #[.int .i64 n, .slice Bm OL dm] 30))) := HBVd.out.trans ((below_alloc wx _).mono HBVd.out.size)
              have HOVy := Lib.hid (HOVd.out.below (below_alloc wx (.cells #[.int .i64 n, .slice Bm OL dm] 30)))
              obtain ⟨hx, hhx⟩ : ∃ r, r = wx.heap.size := ⟨_, rfl⟩
              rw [← hhx] at HLC
              rw [← hhx]
              clear hhx HLIT
              generalize wx.alloc _ = wy at *
              obtain ⟨hs', hown, hpush⟩ := HCd.out.2.push
              rw [sysL_len xs hk] at hown hpush
              have HOWN := Lib.hid hown; have HPUSH := Lib.hid hpush
              have HONE : Hid (∀ v ∈ hdS n hs' k, v.oneCell' = true) := HCd.out.2.ones (sysL_len xs hk) hown
              clear hown hpush
              have HEm : Hid ((wy.alloc (.cells #[] 30)).ownsRow wy.heap.size 30 2 (.slice (some ⟨wy.heap.size, 0, none⟩) 0 0) 0 []) := own_empty wy _ 2
              have HOWy : Hid ((wy.alloc (.cells #[] 30)).ownsRow w.heap.size 30 2 (.slice (some ⟨gu, 0, none⟩) k cu) k (hdS n hs' k)) := own_below (own_below HOWN.out HBy.out) (below_alloc wy _)
              have hkE : k ≤ 1000000 := by omega
              go_wp2_with (first
                | (at_builtin; refine wpList_append_sys _ rfl _ _ rfl wy.heap.size _ rfl k (hdS n hs' k) HO5.out hx 1 1 [.int .i64 n, .slice Bm OL dm] rfl rfl (cells2 HLC5.out) (by simp [Value.oneCell']) (by omega) (by omega) HB5.out.size ?_
                   intro v8 w8 hO8 hg8 hat8
                   obtain ⟨g8, c8, rfl, hge8, hcap8⟩ := own_some hO8 (by omega)
                   have HO8 := Lib.hid hO8
                   have HB8 : Hid (Below wy.heap.size wy w8) := HB5.out.grown hg8 HB5.out.size (own_block HO5.out)
                   have HGE8 := Lib.hid hge8
                   clear hO8 hg8 hat8 hge8)
                | (at_builtin; refine wpList_append_sys _ rfl _ _ rfl wy.heap.size _ rfl 0 [] HEm.out gu k cu (hdS n hs' k) rfl (hdS_len _ _ _) (LSS.cells (ss := []) (S := fun _ => False) HOWy.out) HONE.out (by omega) (by omega) (by simp) ?_
                   intro v5 w5 hO5 hg5 hat5
                   rw [Nat.zero_add, List.nil_append] at hO5
                   obtain ⟨A5, c5, rfl⟩ := own_slice hO5
                   have HO5 := Lib.hid hO5
                   have HB5 : Hid (Below wy.heap.size wy w5) := (below_alloc wy _).grown hg5 (by simp) (own_block HEm.out)
                   have HLC5 := Lib.hid (Row.below HLC.out HB5.out)
                   clear hO5 hg5 hat5))
              have hbw6 : w.heap.size ≤ bs := by have h1 := HBS.out; have h2 := HCd.out.1.size; have h3 := HW3.out.size; omega
              have HLS8 := Lib.hid (HPUSH.out wy w8 w8 (.slice Bm OL dm) (.slice (some ⟨g8, 0, none⟩) (k + 1) c8) (srtL (xs ++ M)) HBy.out (OB.base HOVy.out hbw6) (fun b e => by have h1 := own_block HOVy.out b e; have h2 := HBS.out; omega) HB8.out (grown_refl _ _) (own_base HO8.out (by have h1 := HBy.out.size; have h2 := HBS.out; omega)) (.inr ⟨g8, rfl, by have h1 := HBy.out.size; have h2 := HGE8.out; omega⟩))
              have HB9 : Hid (Below w3.heap.size w3 w8) := HCd.out.1.trans ((HBy.out.trans (HB8.out.mono HBy.out.size)).mono HCd.out.1.size)
              go_roundw
              case rel => exact ⟨k + 1, g8, c8, _, by omega, by go_num, rfl, hcap8, HB9.out, by rw [sysL_succ xs hlt, ← HME.out]; exact HLS8.out⟩
              case measure => simp [intOf]; omega
            · have hk1 : (0 : Int) < (k : Int) := by omega
              have hk2 : 0 < k := by omega
              obtain ⟨j, hj⟩ : ∃ j, k = j + 1 := ⟨k - 1, by omega⟩
              have HJ := Lib.hid hj
              have hjk : j < k := by omega
              obtain ⟨gv, B2, d2, hg2, hgl2, _, t0, t1, hob2⟩ := HC7.out.rd (k := j) (by rw [sysL_len xs hk]; exact hjk)
              simp only [Option.some.injEq, Addr.mk.injEq] at hg2
              obtain ⟨rfl, -, -⟩ := hg2
              rw [sysL_at xs hjk hk] at t1 hob2
              obtain ⟨PL, hPL⟩ : ∃ PL, PL = (srtL (xs ++ nthB E j)).length := ⟨_, rfl⟩
              have hPLe : PL = OL := by
                have h1 := HML.out (nthB E j) (by have h : j < E.length := (by omega); simp [nthB, h])
                have h2 := HOLE.out; have h3 := HMl.out
                rw [hPL, srt_len, List.length_append, h1]; omega
              have HBEF : Hid (befL (srtL (xs ++ M)) (srtL (xs ++ nthB E j)) = false) := by
                have h1 := List.pairwise_iff_getElem.1 HPW.out j k (by omega) hlt hjk
                have e1 : nthB E j = E[j]'(by omega) := by have h : j < E.length := (by omega); simp [nthB, h]
                have e2 : nthB E k = E[k]'hlt := by simp [nthB, hlt]
                unfold Hid
                rw [HME.out, e1, e2]; exact h1
              have HCALL : Hid (∀ W, Below wr.heap.size wr W → Calls Try.prog 167 #[.slice Bm OL dm, .slice B2 PL d2] W fun e w' => e = .returned (.bool false) ∧ Below W.heap.size W w') := fun W hb => by
                have := bef_no HBEF.out Bm dm B2 d2 W (by have h := HOMF.out; rw [HOL.out] at h; exact (OB.bl h).below hb) ((OB.bl hob2).below hb) (by rw [← HOL.out]; omega) (by rw [← HOL.out, ← hPL]; exact hPLe.symm)
                rw [← HOL.out, ← hPL] at this
                exact this
              rw [← hPL] at t1
              have hidx : (k : Int) - 1 = (j : Int) := by omega
              have hjI : (j : Int) < (k : Int) := by omega
              obtain ⟨y0, y1⟩ := HROW.out.c2
              have yl := HROW.out.lt
              clear hj hPL hPLe hob2 t0
              go_wp2
              refine wp_region_ge_lit (by kernel_rfl) (by kernel_rfl) ?_; (repeat (go_big_quiet_step ((go_at_call 167; exact ge_call (HCALL.out _ (ge_below _ _)))))); refine wpQuiet_nil ?_
              rintro wv0 ⟨x, rfl⟩
              have HBV : Hid (Below wr.heap.size wr (ge wr x)) := ge_below _ _
              clear y0 y1 yl t1 hgl2 hidx hjI HCALL
              generalize ge wr x = wv at *
              go_wp2
              have HRV := Lib.hid (HROW.out.below HBV.out)
              have HBUV : Hid (Below w6.heap.size w6 wv) := HBU.out.trans (HBV.out.mono HBU.out.size)
              have HOV : Hid (OB wv bs (.slice Bm OL dm) (srtL (xs ++ M))) := HOMF.out.below HBV.out
              obtain ⟨y0, y1⟩ := HRV.out.c2
              refine wp_region_noPanic ?_
              refine AnyBut.begin (N := 6) (S := (fun w' => w'.cell? ⟨r8, 0, none⟩ = some (.int .i64 n) ∧ w'.cell? ⟨r8, 1, none⟩ = some (.slice Bm OL dm))) (by kernel_rfl) ?_
              have hS0 : (fun w' : World => w'.cell? ⟨r8, 0, none⟩ = some (.int .i64 n) ∧ w'.cell? ⟨r8, 1, none⟩ = some (.slice Bm OL dm)) wv.drew := ⟨y0, y1⟩
              refine AnyBut.take (i := 0) (v := ?_) rfl rfl (by decide) (by kernel_rfl) (by kernel_rfl) (by kernel_rfl) (by kernel_rfl) (fun _ _ _ h => h) (Or.inl ⟨by rfl, ?_⟩) hS0 ?_; rotate_left; (focus (intro W hSw; (try dsimp only at hSw); obtain ⟨z0, z1⟩ := hSw; go_simp; (try with_reducible rfl))); (try simp only [Act.put, List.setIfInBounds_toArray, List.set_cons_zero, List.set_cons_succ]); refine AnyBut.take (i := 2) (v := ?_) rfl rfl (by decide) (by kernel_rfl) (by kernel_rfl) (by kernel_rfl) (by kernel_rfl) (fun _ _ _ h => h) (Or.inl ⟨by rfl, ?_⟩) hS0 ?_; rotate_left; (focus (intro W hSw; (try dsimp only at hSw); obtain ⟨z0, z1⟩ := hSw; go_simp; (try with_reducible rfl))); (try simp only [Act.put, List.setIfInBounds_toArray, List.set_cons_zero, List.set_cons_succ]); refine AnyBut.take (i := 3) (v := ?_) rfl rfl (by decide) (by kernel_rfl) (by kernel_rfl) (by kernel_rfl) (by kernel_rfl) (fun _ _ _ h => h) (Or.inl ⟨by rfl, ?_⟩) hS0 ?_; rotate_left; (focus (intro W hSw; (try dsimp only at hSw); obtain ⟨z0, z1⟩ := hSw; go_simp; (try with_reducible rfl))); (try simp only [Act.put, List.setIfInBounds_toArray, List.set_cons_zero, List.set_cons_succ]); refine AnyBut.take (i := 4) (v := ?_) rfl rfl (by decide) (by kernel_rfl) (by kernel_rfl) (by kernel_rfl) (by kernel_rfl) (fun _ _ _ h => h) (Or.inl ⟨by rfl, ?_⟩) hS0 ?_; rotate_left; (focus (intro W hSw; (try dsimp only at hSw); obtain ⟨z0, z1⟩ := hSw; go_simp; (try with_reducible rfl))); (try simp only [Act.put, List.setIfInBounds_toArray, List.set_cons_zero, List.set_cons_succ])
              have HRVd := Lib.hid (HRV.out.below (below_drew wv))
              have HBVd : Hid (Below w6.heap.size w6 wv.drew) := HBUV.out.trans ((below_drew wv).mono HBUV.out.size)
              have HOVd := Lib.hid (HOV.out.below (below_drew wv))
              have HSY : Hid (∀ w', Below wv.drew.heap.size wv.drew w' → w'.cell? ⟨r8, 0, none⟩ = some (.int .i64 n) ∧ w'.cell? ⟨r8, 1, none⟩ = some (.slice Bm OL dm)) := fun w' hb => (HRVd.out.below hb).c2
              clear hS0 y0 y1
              generalize wv.drew = wx at *
              refine AnyBut.ready (rs := [1]) (by kernel_rfl) (by simp) ?_; refine AllBut.cons rfl (fun K hK => ?_) AllBut.nil
              go_simp
              refine hK.out _ _ (fun _ => HSY.out _ (below_alloc wx _)) ?_
              clear hK K
              (try simp only [Act.put, List.setIfInBounds_toArray, List.set_cons_zero, List.set_cons_succ, List.getElem_toArray, List.getElem_cons_zero, List.getElem_cons_succ])
              have hbx : w.heap.size ≤ wx.heap.size := by have h1 := HBVd.out.size; have h2 := HW3.out.size; have h3 := HCd.out.1.size; omega
              have HLIT := Lib.hid (own_lit wx 30 (.int .i64 n) (.slice Bm OL dm) w.heap.size hbx)
              refine AnyBut.ready (rs := [5]) (by kernel_rfl) (by simp) ?_; refine AllBut.cons rfl (fun K hK => ?_) AllBut.nil
              refine step_append_zero _ (by rfl) _ _ 38 (by rfl) w.heap.size 30 si0 2 Try.underlying38 hsi _ 1 _ (by rfl) HLIT.out _ _ (by rfl) ?_
              refine hK.out _ _ (fun _ => HSY.out _ (below_alloc wx _)) ?_
              clear hK K
              (try simp only [Act.put, List.setIfInBounds_toArray, List.set_cons_zero, List.set_cons_succ, List.getElem_toArray, List.getElem_cons_zero, List.getElem_cons_succ])
              refine AnyBut.ready (rs := [6]) (by kernel_rfl) (by simp) ?_; refine AllBut.cons rfl (fun K hK => ?_) AllBut.nil
              go_simp
              refine hK.out _ _ (fun h => absurd rfl h) ?_
              clear hK K
              (try simp only [Act.put, List.setIfInBounds_toArray, List.set_cons_zero, List.set_cons_succ, List.getElem_toArray, List.getElem_cons_zero, List.getElem_cons_succ])
              refine AnyBut.done (by kernel_rfl) ?_ _
              refine NoPanic.normal ?_
              have HLC := Lib.hid (Row.new wx 30 #[.int .i64 n, .slice Bm OL dm])
              have HBy : Hid (Below w6.heap.size w6 (wx.alloc (.cells #[.int .i64 n, .slice Bm OL dm] 30))) := HBVd.out.trans ((below_alloc wx _).mono HBVd.out.size)
              have HOVy := Lib.hid (HOVd.out.below (below_alloc wx (.cells #[.int .i64 n, .slice Bm OL dm] 30)))
              obtain ⟨hx, hhx⟩ : ∃ r, r = wx.heap.size := ⟨_, rfl⟩
              rw [← hhx] at HLC
              rw [← hhx]
              clear hhx HLIT
              generalize wx.alloc _ = wy at *
              obtain ⟨hs', hown, hpush⟩ := HCd.out.2.push
              rw [sysL_len xs hk] at hown hpush
              have HOWN := Lib.hid hown; have HPUSH := Lib.hid hpush
              have HONE : Hid (∀ v ∈ hdS n hs' k, v.oneCell' = true) := HCd.out.2.ones (sysL_len xs hk) hown
              clear hown hpush
              have HEm : Hid ((wy.alloc (.cells #[] 30)).ownsRow wy.heap.size 30 2 (.slice (some ⟨wy.heap.size, 0, none⟩) 0 0) 0 []) := own_empty wy _ 2
              have HOWy : Hid ((wy.alloc (.cells #[] 30)).ownsRow w.heap.size 30 2 (.slice (some ⟨gu, 0, none⟩) k cu) k (hdS n hs' k)) := own_below (own_below HOWN.out HBy.out) (below_alloc wy _)
              have hkE : k ≤ 1000000 := by omega
              go_wp2_with (first
                | (at_builtin; refine wpList_append_sys _ rfl _ _ rfl wy.heap.size _ rfl k (hdS n hs' k) HO5.out hx 1 1 [.int .i64 n, .slice Bm OL dm] rfl rfl (cells2 HLC5.out) (by simp [Value.oneCell']) (by omega) (by omega) HB5.out.size ?_
                   intro v8 w8 hO8 hg8 hat8
                   obtain ⟨g8, c8, rfl, hge8, hcap8⟩ := own_some hO8 (by omega)
                   have HO8 := Lib.hid hO8
                   have HB8 : Hid (Below wy.heap.size wy w8) := HB5.out.grown hg8 HB5.out.size (own_block HO5.out)
                   have HGE8 := Lib.hid hge8
                   clear hO8 hg8 hat8 hge8)
                | (at_builtin; refine wpList_append_sys _ rfl _ _ rfl wy.heap.size _ rfl 0 [] HEm.out gu k cu (hdS n hs' k) rfl (hdS_len _ _ _) (LSS.cells (ss := []) (S := fun _ => False) HOWy.out) HONE.out (by omega) (by omega) (by simp) ?_
                   intro v5 w5 hO5 hg5 hat5
                   rw [Nat.zero_add, List.nil_append] at hO5
                   obtain ⟨A5, c5, rfl⟩ := own_slice hO5
                   have HO5 := Lib.hid hO5
                   have HB5 : Hid (Below wy.heap.size wy w5) := (below_alloc wy _).grown hg5 (by simp) (own_block HEm.out)
                   have HLC5 := Lib.hid (Row.below HLC.out HB5.out)
                   clear hO5 hg5 hat5))
              have hbw6 : w.heap.size ≤ bs := by have h1 := HBS.out; have h2 := HCd.out.1.size; have h3 := HW3.out.size; omega
              have HLS8 := Lib.hid (HPUSH.out wy w8 w8 (.slice Bm OL dm) (.slice (some ⟨g8, 0, none⟩) (k + 1) c8) (srtL (xs ++ M)) HBy.out (OB.base HOVy.out hbw6) (fun b e => by have h1 := own_block HOVy.out b e; have h2 := HBS.out; omega) HB8.out (grown_refl _ _) (own_base HO8.out (by have h1 := HBy.out.size; have h2 := HBS.out; omega)) (.inr ⟨g8, rfl, by have h1 := HBy.out.size; have h2 := HGE8.out; omega⟩))
              have HB9 : Hid (Below w3.heap.size w3 w8) := HCd.out.1.trans ((HBy.out.trans (HB8.out.mono HBy.out.size)).mono HCd.out.1.size)
              go_roundw
              case rel => exact ⟨k + 1, g8, c8, _, by omega, by go_num, rfl, hcap8, HB9.out, by rw [sysL_succ xs hlt, ← HME.out]; exact HLS8.out⟩
              case measure => simp [intOf]; omega
      · skip
        go_simp
        refine hK.out _ _ (fun _ => HSX.out _ (below_up HBz.out (below_alloc w6 _))) ?_
        clear hK K
        (try simp only [Act.put, List.setIfInBounds_toArray, List.set_cons_zero, List.set_cons_succ, List.getElem_toArray, List.getElem_cons_zero, List.getElem_cons_succ])
        have HB60 := Lib.hid (below_up HBz.out (below_alloc w6 (.cells #[.int .i64 0, .slice none 0 0] 30)))
        have HX61 := Lib.hid (Row.new w6 30 #[.int .i64 0, .slice none 0 0])
        have HR8 : Hid (bs ≤ w6.heap.size) := by have h1 := HBz.out.size; have h2 := HBS.out; unfold Hid; omega
        obtain ⟨r8, hr8⟩ : ∃ r, r = w6.heap.size := ⟨_, rfl⟩
        rw [← hr8] at HX61 HR8
        rw [← hr8]
        clear hr8
        generalize w6.alloc _ = wq59 at *
        refine AnyBut.ready (rs := [2]) (by kernel_rfl) (by simp) ?_; refine AllBut.cons rfl (fun K hK => ?_) AllBut.nil
        go_simp
        refine hK.out _ _ (fun _ => HSX.out _ (below_up HB60.out (below_alloc wq59 _))) ?_
        clear hK K
        (try simp only [Act.put, List.setIfInBounds_toArray, List.set_cons_zero, List.set_cons_succ, List.getElem_toArray, List.getElem_cons_zero, List.getElem_cons_succ])
        have HB63 := Lib.hid (below_up HB60.out (below_alloc wq59 (.cells #[] 99)))
        have HO64 : Hid (OB (wq59.alloc (.cells #[] 99)) bs (.slice (some ⟨wq59.heap.size, 0, none⟩) 0 0) []) := OB.base (own_empty _ _ _) (by have h1 := HB60.out.size; have h2 := HBS.out; omega)
        have HX65 := Lib.hid (HX61.out.below (below_alloc wq59 (.cells #[] 99)))
        obtain ⟨be66, hbe66⟩ : ∃ r, r = wq59.heap.size := ⟨_, rfl⟩
        rw [← hbe66] at HO64
        rw [← hbe66]
        clear hbe66
        generalize wq59.alloc _ = wq62 at *
        refine AnyBut.ready (rs := [5]) (by kernel_rfl) (by simp) ?_; refine AllBut.cons rfl (fun K hK => ?_) AllBut.nil
        refine step_append_blk _ (by rfl) _ _ (by rfl) bs _ (by rfl) [] HO64.out A c xs (by rfl) (HAb.out _ HB63.out) (by first | omega | simp) (by omega) (by have h1 := HB63.out.size; have h2 := HBS.out; omega) ?_
        intro v71 wq67 hO hg hat
        obtain ⟨Av71, cv71, rfl⟩ := own_slice hO
        have HB68 := Lib.hid (HB63.out.grown hg HB63.out.size (fun b e => by have h1 := own_block HO64.out b e; have h2 := HBS.out; omega))
        rw [List.nil_append] at hO
        have HO69 := Lib.hid hO
        have HX70 := Lib.hid (Row.grown HX65.out hg (own_typed HO64.out ⟨_, HX65.out⟩ (by decide)))
        clear hO hg hat
        refine hK.out _ _ (fun _ => HSX.out _ (HB68.out)) ?_
        clear hK K
        (try simp only [Act.put, List.setIfInBounds_toArray, List.set_cons_zero, List.set_cons_succ, List.getElem_toArray, List.getElem_cons_zero, List.getElem_cons_succ])
        refine AnyBut.ready (rs := [10]) (by kernel_rfl) (by simp) ?_; refine AllBut.cons rfl (fun K hK => ?_) AllBut.nil
        refine step_append_blk _ (by rfl) _ _ (by rfl) bs _ (by rfl) xs HO69.out Bk dk M (by rfl) (HMb.out _ HB68.out) (by first | omega | simp) (by omega) (by have h1 := HB68.out.size; have h2 := HBS.out; omega) ?_
        intro v76 wq72 hO hg hat
        obtain ⟨Av76, cv76, rfl⟩ := own_slice hO
        have HB73 := Lib.hid (HB68.out.grown hg HB68.out.size (fun b e => by have h1 := own_block HO69.out b e; have h2 := HBS.out; omega))
        have HO74 := Lib.hid hO
        have HX75 := Lib.hid (Row.grown HX70.out hg (own_typed HO69.out ⟨_, HX70.out⟩ (by decide)))
        clear hO hg hat
        refine hK.out _ _ (fun _ => HSX.out _ (HB73.out)) ?_
        clear hK K
        (try simp only [Act.put, List.setIfInBounds_toArray, List.set_cons_zero, List.set_cons_succ, List.getElem_toArray, List.getElem_cons_zero, List.getElem_cons_succ])
        refine AnyBut.ready (rs := [11]) (by kernel_rfl) (by simp) ?_; refine AllBut.cons rfl (fun K hK => ?_) AllBut.nil
        rw [if_pos (by rfl)]
        go_simp
        refine (HMADE.out _ _ _ (OB.bl HO74.out)).mono ?_
        rintro e wq77 ⟨um, rfl, hO, hb⟩
        obtain ⟨Bm, dm, rfl⟩ := own_slice hO
        have HB78 := Lib.hid (below_up HB73.out hb)
        have HOM : Hid (OB wq77 bs (.slice Bm (srtL (xs ++ M)).length dm) (srtL (xs ++ M))) := OB.base hO (by have h1 := HB73.out.size; have h2 := HBS.out; omega)
        have HX80 := Lib.hid (HX75.out.below hb)
        clear hO hb
        refine hK.out _ _ (fun _ => HSX.out _ (HB78.out)) ?_
        clear hK K
        (try simp only [Act.put, List.setIfInBounds_toArray, List.set_cons_zero, List.set_cons_succ, List.getElem_toArray, List.getElem_cons_zero, List.getElem_cons_succ])
        obtain ⟨y0, y1⟩ := HX80.out.c2
        have yf0 := HX80.out.frozen 0
        have yf1 := HX80.out.frozen 1
        have yl := HX80.out.lt
        refine AnyBut.ready (rs := [13]) (by kernel_rfl) (by simp) ?_; refine AllBut.cons rfl (fun K hK => ?_) AllBut.nil
        go_simp
        refine hK.out _ _ (fun h => absurd rfl h) ?_
        clear hK K y0 y1 yf0 yf1 yl
        (try simp only [Act.put, List.setIfInBounds_toArray, List.set_cons_zero, List.set_cons_succ, List.getElem_toArray, List.getElem_cons_zero, List.getElem_cons_succ])
        refine AnyBut.done (by kernel_rfl) ?_ _
        refine NoPanic.normal ?_
        have HROW : Hid (Row ((wq77.setCell ⟨r8, 0, none⟩ (.int .i64 n)).setCell ⟨r8, 1, none⟩ (.slice Bm (srtL (xs ++ M)).length dm)) r8 30 #[.int .i64 n, .slice Bm (srtL (xs ++ M)).length dm]) := (Row.set (Row.set HX80.out 0 _) 1 _)
        have HGS : Hid (wq77.grownBy ((wq77.setCell ⟨r8, 0, none⟩ (.int .i64 n)).setCell ⟨r8, 1, none⟩ (.slice Bm (srtL (xs ++ M)).length dm)) (some r8)) := grown_set (grown_set (grown_refl wq77 (some r8)) 0 _) 1 _
        have HOMF : Hid (OB ((wq77.setCell ⟨r8, 0, none⟩ (.int .i64 n)).setCell ⟨r8, 1, none⟩ (.slice Bm (srtL (xs ++ M)).length dm)) bs (.slice Bm (srtL (xs ++ M)).length dm) (srtL (xs ++ M))) := World.ownsRow.kept HOM.out HGS.out (.inr (own_typed HOM.out ⟨_, HX80.out⟩ (by decide)))
        have HBEL : Hid (Below w6.heap.size w6 ((wq77.setCell ⟨r8, 0, none⟩ (.int .i64 n)).setCell ⟨r8, 1, none⟩ (.slice Bm (srtL (xs ++ M)).length dm))) := (HB78.out.setCell (show w6.heap.size ≤ r8 by have h1 := HR8.out; have h2 := HBS.out; omega) _).setCell (show w6.heap.size ≤ r8 by have h1 := HR8.out; have h2 := HBS.out; omega) _
        clear HGS HOM HX80 HB78
        generalize (wq77.setCell ⟨r8, 0, none⟩ (.int .i64 n)).setCell ⟨r8, 1, none⟩ (.slice Bm (srtL (xs ++ M)).length dm) = wu at *
        have HC7 : Hid (LSS S wu w.heap.size n (.slice (some ⟨gu, 0, none⟩) k cu) (sysL xs (E.take k))) := HCd.out.2.below HBEL.out
        have HBU := HBEL
        obtain ⟨OL, hOL⟩ : ∃ OL, OL = (srtL (xs ++ M)).length := ⟨_, rfl⟩
        rw [← hOL] at HROW HOMF
        rw [← hOL]
        have HOLE : Hid (OL = xs.length + M.length) := by unfold Hid; rw [hOL, srt_len, List.length_append]
        have HOL := Lib.hid hOL
        have hOLb : OL ≤ 200 := by have := HOLE.out; omega
        clear hOL HAb HMb HSX HMADE HBEL
        go_wp2
        go_loopw [9] (fun i wz => i = .int .i64 k ∧ Hid (wz = wu)) (fun _ _ => 0)
        case atStart => exact ⟨rfl, rfl⟩
        case round =>
          obtain ⟨rfl, HWZ⟩ := hrel
          have hwz := HWZ.out
          subst hwz
          clear HWZ
          by_cases hk0 : k = 0
          · have hk1 : ¬ (0 : Int) < (k : Int) := by omega
            have hk2 : ¬ 0 < k := by omega
            have HK0 := Lib.hid hk0
            clear hk0
            go_wp2
            go_quiet (fail)
            have HBV : Hid (Below wr.heap.size wr (wr.drewN nq)) := below_drewN (Below.refl _ _) nq
            generalize wr.drewN nq = wv at *
            go_wp2
            have HRV := Lib.hid (HROW.out.below HBV.out)
            have HBUV : Hid (Below w6.heap.size w6 wv) := HBU.out.trans (HBV.out.mono HBU.out.size)
            have HOV : Hid (OB wv bs (.slice Bm OL dm) (srtL (xs ++ M))) := HOMF.out.below HBV.out
            obtain ⟨y0, y1⟩ := HRV.out.c2
            refine wp_region_noPanic ?_
            refine AnyBut.begin (N := 6) (S := (fun w' => w'.cell? ⟨r8, 0, none⟩ = some (.int .i64 n) ∧ w'.cell? ⟨r8, 1, none⟩ = some (.slice Bm OL dm))) (by kernel_rfl) ?_
            have hS0 : (fun w' : World => w'.cell? ⟨r8, 0, none⟩ = some (.int .i64 n) ∧ w'.cell? ⟨r8, 1, none⟩ = some (.slice Bm OL dm)) wv.drew := ⟨y0, y1⟩
            refine AnyBut.take (i := 0) (v := ?_) rfl rfl (by decide) (by kernel_rfl) (by kernel_rfl) (by kernel_rfl) (by kernel_rfl) (fun _ _ _ h => h) (Or.inl ⟨by rfl, ?_⟩) hS0 ?_; rotate_left; (focus (intro W hSw; (try dsimp only at hSw); obtain ⟨z0, z1⟩ := hSw; go_simp; (try with_reducible rfl))); (try simp only [Act.put, List.setIfInBounds_toArray, List.set_cons_zero, List.set_cons_succ]); refine AnyBut.take (i := 2) (v := ?_) rfl rfl (by decide) (by kernel_rfl) (by kernel_rfl) (by kernel_rfl) (by kernel_rfl) (fun _ _ _ h => h) (Or.inl ⟨by rfl, ?_⟩) hS0 ?_; rotate_left; (focus (intro W hSw; (try dsimp only at hSw); obtain ⟨z0, z1⟩ := hSw; go_simp; (try with_reducible rfl))); (try simp only [Act.put, List.setIfInBounds_toArray, List.set_cons_zero, List.set_cons_succ]); refine AnyBut.take (i := 3) (v := ?_) rfl rfl (by decide) (by kernel_rfl) (by kernel_rfl) (by kernel_rfl) (by kernel_rfl) (fun _ _ _ h => h) (Or.inl ⟨by rfl, ?_⟩) hS0 ?_; rotate_left; (focus (intro W hSw; (try dsimp only at hSw); obtain ⟨z0, z1⟩ := hSw; go_simp; (try with_reducible rfl))); (try simp only [Act.put, List.setIfInBounds_toArray, List.set_cons_zero, List.set_cons_succ]); refine AnyBut.take (i := 4) (v := ?_) rfl rfl (by decide) (by kernel_rfl) (by kernel_rfl) (by kernel_rfl) (by kernel_rfl) (fun _ _ _ h => h) (Or.inl ⟨by rfl, ?_⟩) hS0 ?_; rotate_left; (focus (intro W hSw; (try dsimp only at hSw); obtain ⟨z0, z1⟩ := hSw; go_simp; (try with_reducible rfl))); (try simp only [Act.put, List.setIfInBounds_toArray, List.set_cons_zero, List.set_cons_succ])
            have HRVd := Lib.hid (HRV.out.below (below_drew wv))
            have HBVd : Hid (Below w6.heap.size w6 wv.drew) := HBUV.out.trans ((below_drew wv).mono HBUV.out.size)
            have HOVd := Lib.hid (HOV.out.below (below_drew wv))
            have HSY : Hid (∀ w', Below wv.drew.heap.size wv.drew w' → w'.cell? ⟨r8, 0, none⟩ = some (.int .i64 n) ∧ w'.cell? ⟨r8, 1, none⟩ = some (.slice Bm OL dm)) := fun w' hb => (HRVd.out.below hb).c2
            clear hS0 y0 y1
            generalize wv.drew = wx at *
            refine AnyBut.ready (rs := [1]) (by kernel_rfl) (by simp) ?_; refine AllBut.cons rfl (fun K hK => ?_) AllBut.nil
            go_simp
            refine hK.out _ _ (fun _ => HSY.out _ (below_alloc wx _)) ?_
            clear hK K
            (try simp only [Act.put, List.setIfInBounds_toArray, List.set_cons_zero, List.set_cons_succ, List.getElem_toArray, List.getElem_cons_zero, List.getElem_cons_succ])
            have hbx : w.heap.size ≤ wx.heap.size := by have h1 := HBVd.out.size; have h2 := HW3.out.size; have h3 := HCd.out.1.size; omega
            have HLIT := Lib.hid (own_lit wx 30 (.int .i64 n) (.slice Bm OL dm) w.heap.size hbx)
            refine AnyBut.ready (rs := [5]) (by kernel_rfl) (by simp) ?_; refine AllBut.cons rfl (fun K hK => ?_) AllBut.nil
            refine step_append_zero _ (by rfl) _ _ 38 (by rfl) w.heap.size 30 si0 2 Try.underlying38 hsi _ 1 _ (by rfl) HLIT.out _ _ (by rfl) ?_
            refine hK.out _ _ (fun _ => HSY.out _ (below_alloc wx _)) ?_
            clear hK K
            (try simp only [Act.put, List.setIfInBounds_toArray, List.set_cons_zero, List.set_cons_succ, List.getElem_toArray, List.getElem_cons_zero, List.getElem_cons_succ])
            refine AnyBut.ready (rs := [6]) (by kernel_rfl) (by simp) ?_; refine AllBut.cons rfl (fun K hK => ?_) AllBut.nil
            go_simp
            refine hK.out _ _ (fun h => absurd rfl h) ?_
            clear hK K
            (try simp only [Act.put, List.setIfInBounds_toArray, List.set_cons_zero, List.set_cons_succ, List.getElem_toArray, List.getElem_cons_zero, List.getElem_cons_succ])
            refine AnyBut.done (by kernel_rfl) ?_ _
            refine NoPanic.normal ?_
            have HLC := Lib.hid (Row.new wx 30 #[.int .i64 n, .slice Bm OL dm])
            have HBy : Hid (Below w6.heap.size w6 (wx.alloc (.cells #[.int .i64 n, .slice Bm OL dm] 30))) := HBVd.out.trans ((below_alloc wx _).mono HBVd.out.size)
            have HOVy := Lib.hid (HOVd.out.below (below_alloc wx (.cells #[.int .i64 n, .slice Bm OL dm] 30)))
            obtain ⟨hx, hhx⟩ : ∃ r, r = wx.heap.size := ⟨_, rfl⟩
            rw [← hhx] at HLC
            rw [← hhx]
            clear hhx HLIT
            generalize wx.alloc _ = wy at *
            obtain ⟨hs', hown, hpush⟩ := HCd.out.2.push
            rw [sysL_len xs hk] at hown hpush
            have HOWN := Lib.hid hown; have HPUSH := Lib.hid hpush
            have HONE : Hid (∀ v ∈ hdS n hs' k, v.oneCell' = true) := HCd.out.2.ones (sysL_len xs hk) hown
            clear hown hpush
            have HEm : Hid ((wy.alloc (.cells #[] 30)).ownsRow wy.heap.size 30 2 (.slice (some ⟨wy.heap.size, 0, none⟩) 0 0) 0 []) := own_empty wy _ 2
            have HOWy : Hid ((wy.alloc (.cells #[] 30)).ownsRow w.heap.size 30 2 (.slice (some ⟨gu, 0, none⟩) k cu) k (hdS n hs' k)) := own_below (own_below HOWN.out HBy.out) (below_alloc wy _)
            have hkE : k ≤ 1000000 := by omega
            go_wp2_with (first
              | (at_builtin; refine wpList_append_sys _ rfl _ _ rfl wy.heap.size _ rfl k (hdS n hs' k) HO5.out hx 1 1 [.int .i64 n, .slice Bm OL dm] rfl rfl (cells2 HLC5.out) (by simp [Value.oneCell']) (by omega) (by omega) HB5.out.size ?_
                 intro v8 w8 hO8 hg8 hat8
                 obtain ⟨g8, c8, rfl, hge8, hcap8⟩ := own_some hO8 (by omega)
                 have HO8 := Lib.hid hO8
                 have HB8 : Hid (Below wy.heap.size wy w8) := HB5.out.grown hg8 HB5.out.size (own_block HO5.out)
                 have HGE8 := Lib.hid hge8
                 clear hO8 hg8 hat8 hge8)
              | (at_builtin; refine wpList_append_sys _ rfl _ _ rfl wy.heap.size _ rfl 0 [] HEm.out gu k cu (hdS n hs' k) rfl (hdS_len _ _ _) (LSS.cells (ss := []) (S := fun _ => False) HOWy.out) HONE.out (by omega) (by omega) (by simp) ?_
                 intro v5 w5 hO5 hg5 hat5
                 rw [Nat.zero_add, List.nil_append] at hO5
                 obtain ⟨A5, c5, rfl⟩ := own_slice hO5
                 have HO5 := Lib.hid hO5
                 have HB5 : Hid (Below wy.heap.size wy w5) := (below_alloc wy _).grown hg5 (by simp) (own_block HEm.out)
                 have HLC5 := Lib.hid (Row.below HLC.out HB5.out)
                 clear hO5 hg5 hat5))
            have hbw6 : w.heap.size ≤ bs := by have h1 := HBS.out; have h2 := HCd.out.1.size; have h3 := HW3.out.size; omega
            have HLS8 := Lib.hid (HPUSH.out wy w8 w8 (.slice Bm OL dm) (.slice (some ⟨g8, 0, none⟩) (k + 1) c8) (srtL (xs ++ M)) HBy.out (OB.base HOVy.out hbw6) (fun b e => by have h1 := own_block HOVy.out b e; have h2 := HBS.out; omega) HB8.out (grown_refl _ _) (own_base HO8.out (by have h1 := HBy.out.size; have h2 := HBS.out; omega)) (.inr ⟨g8, rfl, by have h1 := HBy.out.size; have h2 := HGE8.out; omega⟩))
            have HB9 : Hid (Below w3.heap.size w3 w8) := HCd.out.1.trans ((HBy.out.trans (HB8.out.mono HBy.out.size)).mono HCd.out.1.size)
            go_roundw
            case rel => exact ⟨k + 1, g8, c8, _, by omega, by go_num, rfl, hcap8, HB9.out, by rw [sysL_succ xs hlt, ← HME.out]; exact HLS8.out⟩
            case measure => simp [intOf]; omega
          · have hk1 : (0 : Int) < (k : Int) := by omega
            have hk2 : 0 < k := by omega
            obtain ⟨j, hj⟩ : ∃ j, k = j + 1 := ⟨k - 1, by omega⟩
            have HJ := Lib.hid hj
            have hjk : j < k := by omega
            obtain ⟨gv, B2, d2, hg2, hgl2, _, t0, t1, hob2⟩ := HC7.out.rd (k := j) (by rw [sysL_len xs hk]; exact hjk)
            simp only [Option.some.injEq, Addr.mk.injEq] at hg2
            obtain ⟨rfl, -, -⟩ := hg2
            rw [sysL_at xs hjk hk] at t1 hob2
            obtain ⟨PL, hPL⟩ : ∃ PL, PL = (srtL (xs ++ nthB E j)).length := ⟨_, rfl⟩
            have hPLe : PL = OL := by
              have h1 := HML.out (nthB E j) (by have h : j < E.length := (by omega); simp [nthB, h])
              have h2 := HOLE.out; have h3 := HMl.out
              rw [hPL, srt_len, List.length_append, h1]; omega
            have HBEF : Hid (befL (srtL (xs ++ M)) (srtL (xs ++ nthB E j)) = false) := by
              have h1 := List.pairwise_iff_getElem.1 HPW.out j k (by omega) hlt hjk
              have e1 : nthB E j = E[j]'(by omega) := by have h : j < E.length := (by omega); simp [nthB, h]
              have e2 : nthB E k = E[k]'hlt := by simp [nthB, hlt]
              unfold Hid
              rw [HME.out, e1, e2]; exact h1
            have HCALL : Hid (∀ W, Below wr.heap.size wr W → Calls Try.prog 167 #[.slice Bm OL dm, .slice B2 PL d2] W fun e w' => e = .returned (.bool false) ∧ Below W.heap.size W w') := fun W hb => by
              have := bef_no HBEF.out Bm dm B2 d2 W (by have h := HOMF.out; rw [HOL.out] at h; exact (OB.bl h).below hb) ((OB.bl hob2).below hb) (by rw [← HOL.out]; omega) (by rw [← HOL.out, ← hPL]; exact hPLe.symm)
              rw [← HOL.out, ← hPL] at this
              exact this
            rw [← hPL] at t1
            have hidx : (k : Int) - 1 = (j : Int) := by omega
            have hjI : (j : Int) < (k : Int) := by omega
            obtain ⟨y0, y1⟩ := HROW.out.c2
            have yl := HROW.out.lt
            clear hj hPL hPLe hob2 t0
            go_wp2
            refine wp_region_ge_lit (by kernel_rfl) (by kernel_rfl) ?_; (repeat (go_big_quiet_step ((go_at_call 167; exact ge_call (HCALL.out _ (ge_below _ _)))))); refine wpQuiet_nil ?_
            rintro wv0 ⟨x, rfl⟩
            have HBV : Hid (Below wr.heap.size wr (ge wr x)) := ge_below _ _
            clear y0 y1 yl t1 hgl2 hidx hjI HCALL
            generalize ge wr x = wv at *
            go_wp2
            have HRV := Lib.hid (HROW.out.below HBV.out)
            have HBUV : Hid (Below w6.heap.size w6 wv) := HBU.out.trans (HBV.out.mono HBU.out.size)
            have HOV : Hid (OB wv bs (.slice Bm OL dm) (srtL (xs ++ M))) := HOMF.out.below HBV.out
            obtain ⟨y0, y1⟩ := HRV.out.c2
            refine wp_region_noPanic ?_
            refine AnyBut.begin (N := 6) (S := (fun w' => w'.cell? ⟨r8, 0, none⟩ = some (.int .i64 n) ∧ w'.cell? ⟨r8, 1, none⟩ = some (.slice Bm OL dm))) (by kernel_rfl) ?_
            have hS0 : (fun w' : World => w'.cell? ⟨r8, 0, none⟩ = some (.int .i64 n) ∧ w'.cell? ⟨r8, 1, none⟩ = some (.slice Bm OL dm)) wv.drew := ⟨y0, y1⟩
            refine AnyBut.take (i := 0) (v := ?_) rfl rfl (by decide) (by kernel_rfl) (by kernel_rfl) (by kernel_rfl) (by kernel_rfl) (fun _ _ _ h => h) (Or.inl ⟨by rfl, ?_⟩) hS0 ?_; rotate_left; (focus (intro W hSw; (try dsimp only at hSw); obtain ⟨z0, z1⟩ := hSw; go_simp; (try with_reducible rfl))); (try simp only [Act.put, List.setIfInBounds_toArray, List.set_cons_zero, List.set_cons_succ]); refine AnyBut.take (i := 2) (v := ?_) rfl rfl (by decide) (by kernel_rfl) (by kernel_rfl) (by kernel_rfl) (by kernel_rfl) (fun _ _ _ h => h) (Or.inl ⟨by rfl, ?_⟩) hS0 ?_; rotate_left; (focus (intro W hSw; (try dsimp only at hSw); obtain ⟨z0, z1⟩ := hSw; go_simp; (try with_reducible rfl))); (try simp only [Act.put, List.setIfInBounds_toArray, List.set_cons_zero, List.set_cons_succ]); refine AnyBut.take (i := 3) (v := ?_) rfl rfl (by decide) (by kernel_rfl) (by kernel_rfl) (by kernel_rfl) (by kernel_rfl) (fun _ _ _ h => h) (Or.inl ⟨by rfl, ?_⟩) hS0 ?_; rotate_left; (focus (intro W hSw; (try dsimp only at hSw); obtain ⟨z0, z1⟩ := hSw; go_simp; (try with_reducible rfl))); (try simp only [Act.put, List.setIfInBounds_toArray, List.set_cons_zero, List.set_cons_succ]); refine AnyBut.take (i := 4) (v := ?_) rfl rfl (by decide) (by kernel_rfl) (by kernel_rfl) (by kernel_rfl) (by kernel_rfl) (fun _ _ _ h => h) (Or.inl ⟨by rfl, ?_⟩) hS0 ?_; rotate_left; (focus (intro W hSw; (try dsimp only at hSw); obtain ⟨z0, z1⟩ := hSw; go_simp; (try with_reducible rfl))); (try simp only [Act.put, List.setIfInBounds_toArray, List.set_cons_zero, List.set_cons_succ])
            have HRVd := Lib.hid (HRV.out.below (below_drew wv))
            have HBVd : Hid (Below w6.heap.size w6 wv.drew) := HBUV.out.trans ((below_drew wv).mono HBUV.out.size)
            have HOVd := Lib.hid (HOV.out.below (below_drew wv))
            have HSY : Hid (∀ w', Below wv.drew.heap.size wv.drew w' → w'.cell? ⟨r8, 0, none⟩ = some (.int .i64 n) ∧ w'.cell? ⟨r8, 1, none⟩ = some (.slice Bm OL dm)) := fun w' hb => (HRVd.out.below hb).c2
            clear hS0 y0 y1
            generalize wv.drew = wx at *
            refine AnyBut.ready (rs := [1]) (by kernel_rfl) (by simp) ?_; refine AllBut.cons rfl (fun K hK => ?_) AllBut.nil
            go_simp
            refine hK.out _ _ (fun _ => HSY.out _ (below_alloc wx _)) ?_
            clear hK K
            (try simp only [Act.put, List.setIfInBounds_toArray, List.set_cons_zero, List.set_cons_succ, List.getElem_toArray, List.getElem_cons_zero, List.getElem_cons_succ])
            have hbx : w.heap.size ≤ wx.heap.size := by have h1 := HBVd.out.size; have h2 := HW3.out.size; have h3 := HCd.out.1.size; omega
            have HLIT := Lib.hid (own_lit wx 30 (.int .i64 n) (.slice Bm OL dm) w.heap.size hbx)
            refine AnyBut.ready (rs := [5]) (by kernel_rfl) (by simp) ?_; refine AllBut.cons rfl (fun K hK => ?_) AllBut.nil
            refine step_append_zero _ (by rfl) _ _ 38 (by rfl) w.heap.size 30 si0 2 Try.underlying38 hsi _ 1 _ (by rfl) HLIT.out _ _ (by rfl) ?_
            refine hK.out _ _ (fun _ => HSY.out _ (below_alloc wx _)) ?_
            clear hK K
            (try simp only [Act.put, List.setIfInBounds_toArray, List.set_cons_zero, List.set_cons_succ, List.getElem_toArray, List.getElem_cons_zero, List.getElem_cons_succ])
            refine AnyBut.ready (rs := [6]) (by kernel_rfl) (by simp) ?_; refine AllBut.cons rfl (fun K hK => ?_) AllBut.nil
            go_simp
            refine hK.out _ _ (fun h => absurd rfl h) ?_
            clear hK K
            (try simp only [Act.put, List.setIfInBounds_toArray, List.set_cons_zero, List.set_cons_succ, List.getElem_toArray, List.getElem_cons_zero, List.getElem_cons_succ])
            refine AnyBut.done (by kernel_rfl) ?_ _
            refine NoPanic.normal ?_
            have HLC := Lib.hid (Row.new wx 30 #[.int .i64 n, .slice Bm OL dm])
            have HBy : Hid (Below w6.heap.size w6 (wx.alloc (.cells #[.int .i64 n, .slice Bm OL dm] 30))) := HBVd.out.trans ((below_alloc wx _).mono HBVd.out.size)
            have HOVy := Lib.hid (HOVd.out.below (below_alloc wx (.cells #[.int .i64 n, .slice Bm OL dm] 30)))
            obtain ⟨hx, hhx⟩ : ∃ r, r = wx.heap.size := ⟨_, rfl⟩
            rw [← hhx] at HLC
            rw [← hhx]
            clear hhx HLIT
            generalize wx.alloc _ = wy at *
            obtain ⟨hs', hown, hpush⟩ := HCd.out.2.push
            rw [sysL_len xs hk] at hown hpush
            have HOWN := Lib.hid hown; have HPUSH := Lib.hid hpush
            have HONE : Hid (∀ v ∈ hdS n hs' k, v.oneCell' = true) := HCd.out.2.ones (sysL_len xs hk) hown
            clear hown hpush
            have HEm : Hid ((wy.alloc (.cells #[] 30)).ownsRow wy.heap.size 30 2 (.slice (some ⟨wy.heap.size, 0, none⟩) 0 0) 0 []) := own_empty wy _ 2
            have HOWy : Hid ((wy.alloc (.cells #[] 30)).ownsRow w.heap.size 30 2 (.slice (some ⟨gu, 0, none⟩) k cu) k (hdS n hs' k)) := own_below (own_below HOWN.out HBy.out) (below_alloc wy _)
            have hkE : k ≤ 1000000 := by omega
            go_wp2_with (first
              | (at_builtin; refine wpList_append_sys _ rfl _ _ rfl wy.heap.size _ rfl k (hdS n hs' k) HO5.out hx 1 1 [.int .i64 n, .slice Bm OL dm] rfl rfl (cells2 HLC5.out) (by simp [Value.oneCell']) (by omega) (by omega) HB5.out.size ?_
                 intro v8 w8 hO8 hg8 hat8
                 obtain ⟨g8, c8, rfl, hge8, hcap8⟩ := own_some hO8 (by omega)
                 have HO8 := Lib.hid hO8
                 have HB8 : Hid (Below wy.heap.size wy w8) := HB5.out.grown hg8 HB5.out.size (own_block HO5.out)
                 have HGE8 := Lib.hid hge8
                 clear hO8 hg8 hat8 hge8)
              | (at_builtin; refine wpList_append_sys _ rfl _ _ rfl wy.heap.size _ rfl 0 [] HEm.out gu k cu (hdS n hs' k) rfl (hdS_len _ _ _) (LSS.cells (ss := []) (S := fun _ => False) HOWy.out) HONE.out (by omega) (by omega) (by simp) ?_
                 intro v5 w5 hO5 hg5 hat5
                 rw [Nat.zero_add, List.nil_append] at hO5
                 obtain ⟨A5, c5, rfl⟩ := own_slice hO5
                 have HO5 := Lib.hid hO5
                 have HB5 : Hid (Below wy.heap.size wy w5) := (below_alloc wy _).grown hg5 (by simp) (own_block HEm.out)
                 have HLC5 := Lib.hid (Row.below HLC.out HB5.out)
                 clear hO5 hg5 hat5))
            have hbw6 : w.heap.size ≤ bs := by have h1 := HBS.out; have h2 := HCd.out.1.size; have h3 := HW3.out.size; omega
            have HLS8 := Lib.hid (HPUSH.out wy w8 w8 (.slice Bm OL dm) (.slice (some ⟨g8, 0, none⟩) (k + 1) c8) (srtL (xs ++ M)) HBy.out (OB.base HOVy.out hbw6) (fun b e => by have h1 := own_block HOVy.out b e; have h2 := HBS.out; omega) HB8.out (grown_refl _ _) (own_base HO8.out (by have h1 := HBy.out.size; have h2 := HBS.out; omega)) (.inr ⟨g8, rfl, by have h1 := HBy.out.size; have h2 := HGE8.out; omega⟩))
            have HB9 : Hid (Below w3.heap.size w3 w8) := HCd.out.1.trans ((HBy.out.trans (HB8.out.mono HBy.out.size)).mono HCd.out.1.size)
            go_roundw
            case rel => exact ⟨k + 1, g8, c8, _, by omega, by go_num, rfl, hcap8, HB9.out, by rw [sysL_succ xs hlt, ← HME.out]; exact HLS8.out⟩
            case measure => simp [intOf]; omega
    · obtain rfl : k = E.length := by omega
      go_wp2
      go_ret
      have h2 := HC.out.2
      rw [List.take_length] at h2
      rw [HLEN.out]
      exact ⟨_, cu, S, rfl, h2, below_up HW3.out HC.out.1⟩

end Go.Proofs.Ytbknpflbafjblaa
