/- The frame of a law's proof: arguments opened, the row shut; conditions: none. -/
import Derived.Test.YtpdkkbimhhhjmaaM0
import Derived.Deep.RegionWith
import Derived.ProofKit
import Derived.Deep.Slices
import Derived.Lib.SmallJoins
namespace Go.Proofs.Ytpdkkbimhhhjmaa
open Go.ChangeShapes Go.WideShapes Go.ChangeAt Go.RowKit Go.Deep Go.Joins

theorem Try.own : ownKnob Try.prog.godebug = none := by kernel_rfl
theorem Try.laidOut : laidOutB Try.prog = true := by kernel_rfl

set_option maxRecDepth 100000
section
variable {H : Type} {enc : TypeId × Value → H}

theorem trodAll_below {P : Program} (hl : laidOutB P = true) {W W' : World} (hb : Below W.heap.size W W') : ∀ (ts : List TypeId) (vs : List Value) (ds : List (DataW H)) (ps : List MemPlace),
    (∀ t ∈ ts, P.readableRec t = true ∧ t < P.types.size) → (∀ x ∈ ps, x.block < W.heap.size) →
    DataW.TrodAll enc P W 0 (fun _ => true) true ts vs ds ps → DataW.TrodAll enc P W' 0 (fun b => decide (b < W.heap.size)) true ts vs ds ps := by
  intro ts
  induction ts with
  | nil =>
    intro vs ds ps _ _ h
    cases vs <;> cases ds <;> first | exact h | exact h.elim
  | cons t ts ih =>
    intro vs ds ps ht hlt h
    cases vs with
    | nil => exact h.elim
    | cons v vs =>
      cases ds with
      | nil => exact h.elim
      | cons d ds =>
        obtain ⟨p, q, h1, h2, rfl⟩ := h
        exact ⟨p, q, Below.trod hl (ht t (by simp)).1 (ht t (by simp)).2 h1 hb (fun x hx => hlt x (by simp [hx])),
          ih vs ds q (fun t' ht' => ht t' (by simp [ht'])) (fun x hx => hlt x (by simp [hx])) h2, rfl⟩

/-- A law's call that returns true and leaves what was there: the row's post. -/
theorem law_post {P : Program} {f : Func} {s : ChangeSpec} {W W' : World} {args : Array Value} {ds gs : List (DataW H)} {before : List MemPlace} {tb : TypeId}
    (hW : DataW.Whole enc P f.params.toList s.vars false W args.toList ds gs before) (hvars : s.vars = [])
    (hfn : s.fn H (ds ++ gs) = { results := [.lit (.bool true)], args := ds }) (hrt : f.resultTypes.toList = [tb]) (hbool : P.underlying tb = some .bool)
    (hl : laidOutB P = true) (hread0 : f.params.toList.all (fun t => P.readableRec t && decide (t < P.types.size)) = true) (hb : Below W.heap.size W W') :
    s.post enc P f false true false false W args (.bool true) W' := by
  have hread : ∀ t ∈ f.params.toList, P.readableRec t = true ∧ t < P.types.size := fun t ht => by
    have := List.all_eq_true.1 hread0 t ht
    simpa using this
  have hlt : ∀ x ∈ before, x.block < W.heap.size := fun p hp => hW.lt p hp
  have hW' := hW
  obtain ⟨p, q, hA, hV, hpq, hfz, hnd⟩ := hW
  rw [hvars] at hV
  obtain ⟨rfl, rfl⟩ := trodVars_none hV
  rw [List.append_nil] at hpq
  subst hpq
  refine ⟨ds, [], before, [], before, [], hW', ?_, ?_, ?_, ?_, fun h => by cases h⟩
  · rw [hfn, hrt]
    have : f.resultTypes.size = 1 := by rw [← Array.length_toList, hrt]; rfl
    rw [this]
    exact trodAll_mk1 (shut_bool hbool true)
  · rw [hfn]
    exact trodAll_below hl hb _ _ _ _ hread hlt hA
  · rw [hfn, hvars]; rfl
  · exact World.keptBut_mono (fun x hx => ⟨hx, .inr (.inl hx)⟩) (hb.frame (· ∈ before))

variable {W : World}
theorem open_blks {n : Nat} {v : Value} {y : DataW H × List MemPlace} (h : DataW.trod enc Try.prog W 0 (fun _ => true) true n 22 [v] = some y) :
    ∃ A c xs, v = .slice A xs.length c ∧ Bl W A xs ∧ xs.length ≤ 9223372036854775807 := by
  rcases open_slice Try.underlying22 h with ⟨hcs, _⟩ | ⟨a, len, cap, m, n', D, Pl, hcs, _, hlc, hcm, hm, _, hi⟩
  · simp only [List.cons.injEq, and_true] at hcs
    exact ⟨none, 0, [], by simpa using hcs, .inl rfl, by simp⟩
  · simp only [List.cons.injEq, and_true] at hcs
    simp only [if_true] at hm
    have hC : Try.prog.cellsOf 71 = 3 := by kernel_rfl
    have hC2 : Try.prog.cellsOf 2 = 1 := by kernel_rfl
    have hel : ∀ i, i < len → ∃ b : Blk, W.cell? ((a.add (i * 3)).add 0) = some (.int .i64 b.1) ∧ W.cell? ((a.add (i * 3)).add 1) = some (.int .i64 b.2.1) ∧ W.cell? ((a.add (i * 3)).add 2) = some (.int .i64 b.2.2) := by
      intro i hil
      obtain ⟨cs', h1, h2⟩ := hi i (by omega)
      rw [hC] at h1
      obtain ⟨xs, m', _, _, hlen, hxl, he⟩ := DataW.trod_array Try.underlying71 h2
      rw [hC] at hlen
      obtain ⟨_, _, hc⟩ := World.cells?_some h1
      match cs', hlen with
      | [c0, c1, c2], _ =>
        have e0 := he 0 (by omega); have e1 := he 1 (by omega); have e2 := he 2 (by omega)
        rw [hC2] at e0 e1 e2
        simp only [Nat.zero_mul, Nat.one_mul, List.drop_zero, List.take_succ_cons, List.take_zero, List.drop_succ_cons, Nat.reduceMul] at e0 e1 e2
        rw [List.getElem?_eq_getElem (by omega)] at e0 e1 e2
        obtain ⟨p, hp, _, _⟩ := DataW.trod_int Try.underlying2 e0
        obtain ⟨q, hq, _, _⟩ := DataW.trod_int Try.underlying2 e1
        obtain ⟨r, hr, _, _⟩ := DataW.trod_int Try.underlying2 e2
        simp only [List.cons.injEq, and_true] at hp hq hr
        subst hp hq hr
        exact ⟨(p, q, r), hc 0 (by omega), hc 1 (by omega), hc 2 (by omega)⟩
    obtain ⟨f, hf⟩ := choose_lt hel
    refine ⟨some a, cap, (List.range len).map f, by simpa using hcs, ?_, by unfold maxLen at hcm; simp; omega⟩
    by_cases h0 : len = 0
    · subst h0; exact .inl (by simp)
    · right
      obtain ⟨b, o, sp⟩ := a
      have hc0 := (hf 0 (by omega)).1
      rw [Nat.zero_mul] at hc0
      have hsp : sp = none ∧ b < W.heap.size := by
        simp only [Addr.add, if_true] at hc0
        unfold World.cell? at hc0
        split at hc0
        · rename_i heq
          constructor
          · cases sp with
            | none => rfl
            | some s => simp at hc0
          · rcases Nat.lt_or_ge b W.heap.size with hlt | hge
            · exact hlt
            · simp only at heq; rw [Array.getElem?_eq_none hge] at heq; cases heq
        · cases hc0
      obtain ⟨rfl, hlt⟩ := hsp
      refine ⟨b, o, rfl, hlt, fun k hk => ?_⟩
      have hk : k < len := by simpa using hk
      obtain ⟨f0, f1, f2⟩ := hf k hk
      have hn : nth ((List.range len).map f) k = f k := by simp [nth, hk]
      rw [hn]
      rw [add_add] at f0 f1 f2
      have key : ∀ j, (⟨b, o, none⟩ : Addr).add j = ⟨b, o + j, none⟩ := by intro j; unfold Addr.add; split <;> simp_all
      rw [key] at f0 f1 f2
      exact ⟨f0, f1, f2⟩

theorem open_nums {n : Nat} {v : Value} {y : DataW H × List MemPlace} (h : DataW.trod enc Try.prog W 0 (fun _ => true) true n 34 [v] = some y) :
    ∃ A c xs, v = .slice A xs.length c ∧ Il W A xs ∧ (∀ x ∈ xs, -9223372036854775808 ≤ x ∧ x ≤ 9223372036854775807) ∧ xs.length ≤ 9223372036854775807 := by
  have hC2 : Try.prog.cellsOf 2 = 1 := by kernel_rfl
  rcases open_slice1 Try.underlying34 hC2 h with ⟨hcs, _⟩ | ⟨a, len, cap, m, n', V, D, Pl, hcs, _, hlc, hcm, hm, _, hi⟩
  · simp only [List.cons.injEq, and_true] at hcs
    exact ⟨none, 0, [], by simpa using hcs, .inl rfl, by simp, by simp⟩
  · simp only [List.cons.injEq, and_true] at hcs
    simp only [if_true] at hm
    have hel : ∀ i, i < len → ∃ x : Int, W.cell? (a.add i) = some (.int .i64 x) ∧ -9223372036854775808 ≤ x ∧ x ≤ 9223372036854775807 := by
      intro i hil
      obtain ⟨h1, h2⟩ := hi i (by omega)
      obtain ⟨p, hp, _, hw⟩ := DataW.trod_int Try.underlying2 h2
      simp only [List.cons.injEq, and_true] at hp
      rw [hp] at h1
      exact ⟨p, h1, bounds_i64 hw⟩
    obtain ⟨f, hf⟩ := choose_lt hel
    refine ⟨some a, cap, (List.range len).map f, by simpa using hcs, ?_, ?_, by unfold maxLen at hcm; simp; omega⟩
    · by_cases h0 : len = 0
      · subst h0; exact .inl (by simp)
      · right
        obtain ⟨b, o, sp⟩ := a
        have hc0 := (hf 0 (by omega)).1
        have hsp : sp = none ∧ b < W.heap.size := by
          simp only [Addr.add, if_true] at hc0
          unfold World.cell? at hc0
          split at hc0
          · rename_i heq
            constructor
            · cases sp with
              | none => rfl
              | some s => simp at hc0
            · rcases Nat.lt_or_ge b W.heap.size with hlt | hge
              · exact hlt
              · simp only at heq; rw [Array.getElem?_eq_none hge] at heq; cases heq
          · cases hc0
        obtain ⟨rfl, hlt⟩ := hsp
        refine ⟨b, o, rfl, hlt, fun k hk => ?_⟩
        have hk : k < len := by simpa using hk
        have f0 := (hf k hk).1
        have hn : nthI ((List.range len).map f) k = f k := by simp [nthI, hk]
        rw [hn]
        have key : ∀ j, (⟨b, o, none⟩ : Addr).add j = ⟨b, o + j, none⟩ := by intro j; unfold Addr.add; split <;> simp_all
        rw [key] at f0
        exact f0
    · intro x hx
      simp only [List.mem_map, List.mem_range] at hx
      obtain ⟨i, hi', rfl⟩ := hx
      exact (hf i hi').2

theorem open_sys {b0 : Nat} {v : Value} {d : DataW H} {ps : List MemPlace} (hv : Value.okWide Try.prog W .any b0 24 v) (h : DataW.Trod enc Try.prog W 0 (fun _ => true) true 24 v d ps) :
    ∃ n A c xs, v = .agg #[.int .i64 n, .slice A xs.length c] ∧ Bl W A xs ∧ xs.length ≤ 9223372036854775807 ∧ -9223372036854775808 ≤ n ∧ n ≤ 9223372036854775807 := by
  obtain ⟨v0, v1, y0, y1, n, rfl, rfl, rfl, h0, h1⟩ := open_agg2 Try.underlying24 (by kernel_rfl) (by kernel_rfl) hv h
  obtain ⟨p, hp, _, hw⟩ := DataW.trod_int Try.underlying2 h0
  simp only [List.cons.injEq, and_true] at hp
  obtain ⟨A, c, xs, rfl, hB, hl⟩ := open_blks h1
  subst hp
  exact ⟨p, A, c, xs, rfl, hB, hl, (bounds_i64 hw).1, (bounds_i64 hw).2⟩

end
end Go.Proofs.Ytpdkkbimhhhjmaa
