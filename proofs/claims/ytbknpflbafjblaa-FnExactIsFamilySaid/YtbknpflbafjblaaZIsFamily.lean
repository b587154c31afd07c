/- FnExactIsFamily: for every input the call returns true and leaves its arguments as they were; conditions: none. -/
import Derived.Deep.RegionHeld3
import Derived.Test.YtbknpflbafjblaaB3
import Derived.Test.YtbknpflbafjblaaB7
namespace Go.Proofs.Ytbknpflbafjblaa
open Go.ChangeShapes Go.WideShapes Go.ChangeAt Go.RowKit Go.Deep Go.Joins
set_option maxHeartbeats 1000000
set_option maxRecDepth 100000
set_option linter.unusedSimpArgs false
set_option linter.unusedVariables false

theorem open_syss {H : Type} {enc : TypeId × Value → H} {W : World} {b0 : Nat} {v : Value} {d : DataW H} {ps : List MemPlace} (hv : Value.okWide Try.prog W .any b0 34 v) (h : DataW.Trod enc Try.prog W 0 (fun _ => true) true 34 v d ps) :
    ∃ A c qs, v = .slice A qs.length c ∧ Sl W A qs ∧ qs.length ≤ 9223372036854775807 ∧ ∀ k, k < qs.length → (nthP qs k).2.length ≤ 9223372036854775807 := by
  obtain ⟨a0, len0, cap0, rfl⟩ := okWide_slice Try.underlying34 hv
  obtain ⟨fuel, hf⟩ := h
  simp only [Value.cells] at hf
  rcases open_slice Try.underlying34 hf with ⟨hcs, _⟩ | ⟨a, len, cap, m, n', D, Pl, hcs, _, hlc, hcm, hm, _, hi⟩
  · simp only [List.cons.injEq, and_true] at hcs
    exact ⟨none, 0, [], by simpa using hcs, .inl rfl, by simp, fun k hk => by simp at hk⟩
  · simp only [List.cons.injEq, and_true] at hcs
    simp only [if_true] at hm
    have hC : Try.prog.cellsOf 24 = 2 := by kernel_rfl
    have hC1 : Try.prog.cellsOf 2 = 1 := by kernel_rfl
    have hC2 : Try.prog.cellsOf 22 = 1 := by kernel_rfl
    have hel : ∀ i, i < len → ∃ q : (Int × List Blk) × Option Addr × Nat, W.cell? ((a.add (i * 2)).add 0) = some (.int .i64 q.1.1) ∧ W.cell? ((a.add (i * 2)).add 1) = some (.slice q.2.1 q.1.2.length q.2.2) ∧ Bl W q.2.1 q.1.2 ∧ q.1.2.length ≤ 9223372036854775807 := by
      intro i hil
      obtain ⟨cs', h1, h2⟩ := hi i (by omega)
      rw [hC] at h1
      obtain ⟨y0, y1, n, _, hlen, e0, e1⟩ := trod_struct2 Try.underlying24 h2
      rw [hC] at hlen
      obtain ⟨_, _, hc⟩ := World.cells?_some h1
      match cs', hlen with
      | [c0, c1], _ =>
        simp only [hC1, hC2, List.drop_zero, List.take_succ_cons, List.take_zero, List.drop_succ_cons] at e0 e1
        obtain ⟨p, hp, _, _⟩ := DataW.trod_int Try.underlying2 e0
        simp only [List.cons.injEq, and_true] at hp
        subst hp
        obtain ⟨A, c, xs, rfl, hB, hl⟩ := open_blks e1
        exact ⟨((p, xs), A, c), hc 0 (by omega), hc 1 (by omega), hB, hl⟩
    obtain ⟨f, hf'⟩ := choose_lt hel
    have hnth : ∀ k, k < len → nthP ((List.range len).map fun i => (f i).1) k = (f k).1 := fun k hk => by simp [nthP, hk]
    refine ⟨some a, cap, (List.range len).map fun i => (f i).1, by simpa using hcs, ?_, by unfold maxLen at hcm; simp; omega, fun k hk => ?_⟩
    · by_cases h0 : len = 0
      · subst h0; exact .inl (by simp)
      · right
        obtain ⟨b, o, sp⟩ := a
        have hc0 := (hf' 0 (by omega)).1
        rw [Nat.zero_mul] at hc0
        have hsp : sp = none ∧ b < W.heap.size := by
          simp only [Addr.add, if_true] at hc0
          unfold World.cell? at hc0
          split at hc0
          · rename_i heq
            constructor
            · cases sp with
              | none => rfl
              | some s => simp at hc0
            · rcases Nat.lt_or_ge b W.heap.size with hlt | hge
              · exact hlt
              · simp only at heq; rw [Array.getElem?_eq_none hge] at heq; cases heq
          · cases hc0
        obtain ⟨rfl, hlt⟩ := hsp
        refine ⟨b, o, rfl, hlt, fun k hk => ?_⟩
        have hk : k < len := by simpa using hk
        obtain ⟨f0, f1, f2, f3⟩ := hf' k hk
        rw [hnth k hk]
        rw [add_add] at f0 f1
        have key : ∀ j, (⟨b, o, none⟩ : Addr).add j = ⟨b, o + j, none⟩ := by intro j; unfold Addr.add; split <;> simp_all
        rw [key] at f0 f1
        exact ⟨_, _, f0, f1, f2⟩
    · have hk : k < len := by simpa using hk
      rw [hnth k hk]
      exact (hf' k hk).2.2.2

theorem lawIsFamily_walk (A : Option Addr) (c : Nat) (ps : List (Int × List Blk)) (w : World) (hA : Sl w A ps) (hn : ps.length ≤ 9223372036854775807) (hx : ∀ k, k < ps.length → (nthP ps k).2.length ≤ 9223372036854775807) :
    Calls Try.prog 4 #[.slice A ps.length c] w fun e w' => e = .returned (.bool true) ∧ Below w.heap.size w w' := by
  have HA := Lib.hid hA; have HX := Lib.hid hx
  clear hA hx
  go_enter Try.func4, Try.ntmps4
  go_wp2_with fail
  refine (szSystemS_any A c ps _ HA.out hn HX.out).mono ?_
  rintro e w1 ⟨r, rfl, hr, hb⟩
  have P0 := Lib.hid hb; clear hb
  rcases hr with hr | ⟨hr, hl, hx⟩
  · go_wp2
    go_ret
    exact ⟨rfl, P0.out⟩
  · have HL := Lib.hid hx; clear hx HX
    go_wp2_with fail
    refine (toSystemS_any A c ps _ (HA.out.below P0.out) hl HL.out).mono ?_
    rintro e w2 ⟨g, rfl, hS, hb⟩
    have HS := Lib.hid hS
    replace P0 := Lib.hid (below_up P0.out hb)
    clear hb hS
    go_wp2_with fail
    refine (specFam_any (some ⟨g, 0, none⟩) ps.length ps _ HS.out hl HL.out).mono ?_
    rintro e w3 ⟨rfl, hb⟩
    replace P0 := Lib.hid (below_up P0.out hb)
    clear hb HS
    go_wp2_with fail
    refine (toSystemS_any A c ps _ (HA.out.below P0.out) hl HL.out).mono ?_
    rintro e w4 ⟨g2, rfl, hS, hb⟩
    have HS := Lib.hid hS
    replace P0 := Lib.hid (below_up P0.out hb)
    clear hb hS
    go_wp2_with fail
    refine (implFam_any (some ⟨g2, 0, none⟩) ps.length ps _ HS.out hl HL.out (Nat.le_refl _)).mono ?_
    rintro e w5 ⟨rfl, hb⟩
    have P5 := Lib.hid hb
    replace P0 := Lib.hid (below_up P0.out hb)
    clear hb
    have e0_ : ((famR ps).1 != (famR ps).1) = false := by simp
    have e1_ : ((famR ps).2 != (famR ps).2) = false := by simp
    go_wp2_with fail
    refine (toSystemS_any A c ps _ (HA.out.below P0.out) hl HL.out).mono ?_
    rintro e w6 ⟨g3, rfl, hS, hb⟩
    have HT := Lib.hid hS
    replace P0 := Lib.hid (below_up P0.out hb)
    replace P5 := Lib.hid (below_up P5.out hb)
    clear hb hS
    go_wp2_with fail
    refine (eqSystemS_any (some ⟨g2, 0, none⟩) (some ⟨g3, 0, none⟩) ps.length ps.length ps _ (HS.out.below P5.out) HT.out hl HL.out).mono ?_
    rintro e w7 ⟨rfl, hb⟩
    replace P0 := Lib.hid (below_up P0.out hb)
    clear hb
    go_wp2
    go_ret
    exact ⟨rfl, P0.out⟩

set_option maxRecDepth 100000 in
theorem lawIsFamily_lifted (os : Os) (started : os.Started) (H : Type) (enc : TypeId × Value → H) :
    ReturnsInHanded {} Try.checked os 4 .any (Rows.fnExactIsFamilySpec.pre6 enc Try.prog Try.f4 Rows.fnExactIsFamilyRow.domain false) (Rows.fnExactIsFamilySpec.post enc Try.prog Try.f4 false true false false) := by
  refine returnsInHanded_of_change (C := Try.checked) Try.own started (by kernel_rfl) Try.func4
    (ChangeSpec.witness6 (enc := enc) (C := Try.checked) false ⟨#[], #[.slice none 0 0], []⟩ 8 (by kernel_rfl) (by kernel_rfl) (by kernel_rfl) (by kernel_rfl)) ?_
  intro W base args ds gs before hval0 hW _ _
  have hval : ∀ (j : Nat) t v, Try.f4.params[j]? = some t → args[j]? = some v → Value.okWide Try.prog W .any base t v := hval0
  have hW' := hW
  obtain ⟨p, q, hA0, hV, rfl, hfz, hnd⟩ := hW
  have hA : DataW.TrodAll enc Try.prog W 0 (fun _ => true) true Try.f4.params.toList args.toList ds p := hA0
  rw [Try.params4] at hA hval
  obtain ⟨w0, d0, rfl, rfl, h0⟩ := trodAll_one hA
  obtain ⟨rfl, rfl⟩ := trodVars_none hV
  obtain ⟨A0, c0, ps0, rfl, hB0, hl0, hx0⟩ := open_syss (hval 0 34 w0 rfl rfl) h0
  refine (lawIsFamily_walk A0 c0 ps0 W hB0 hl0 hx0).mono fun e W' ⟨he, hb⟩ => ?_
  subst he
  exact ⟨_, rfl, law_post hW' rfl rfl (by kernel_rfl) Try.underlying4 Try.laidOut (by kernel_rfl) hb⟩

theorem lawIsFamily_holds : Rows.FnExactIsFamilySaid :=
  OpenClaim.holds_of_wide 4 Try.f4 rfl rfl rfl rfl rfl rfl rfl ⟨rfl, rfl, rfl, rfl, rfl⟩ rfl rfl rfl rfl rfl (by kernel_rfl) Try.func4 (by kernel_rfl)
    (of_decide_eq_true (by kernel_rfl)) (by unfold Func.isWrapper; first | (rw [if_pos (by decide +kernel)]; kernel_rfl) | (rw [if_neg (by decide +kernel)]; exact ⟨rfl, rfl⟩))
    (fun os started H enc _ => lawIsFamily_lifted os started H enc)

end Go.Proofs.Ytbknpflbafjblaa
