/- Plain laws and contracts, part 4; conditions: stated in each. -/
import Derived.Deep.RegionLaw
import Derived.StillTailTactics
import Derived.Test.YtgbkonnmjmlalaaB2
import Derived.Test.YtgbkonnmjmlalaaB3
set_option linter.unusedSimpArgs false
set_option linter.unusedVariables false
/- Contracts of the program's laws of renumberings; conditions: stated in each. -/
namespace Go.Proofs.Ytgbkonnmjmlalaa
open Go.RowKit
set_option maxHeartbeats 1000000
set_option maxRecDepth 100000
set_option linter.unusedSimpArgs false
set_option linter.unusedVariables false

theorem Il.cells {w : World} {g o : Nat} {xs : List Int} (h : Il w (some ⟨g, o, none⟩) xs) : ∀ j u, (xs.map (Value.int .i64))[j]? = some u → w.cell? ((⟨g, o, none⟩ : Addr).add j) = some u := by
  intro j u hj
  have hlt : j < xs.length := by
    rcases Nat.lt_or_ge j xs.length with h2 | h2
    · exact h2
    · rw [List.getElem?_eq_none (by simpa using h2)] at hj; cases hj
  obtain ⟨b, o', e, _, hc⟩ := h.at_ hlt
  simp only [Option.some.injEq, Addr.mk.injEq, and_true] at e
  obtain ⟨rfl, rfl⟩ := e
  have : ((⟨g, o, none⟩ : Addr).add j) = ⟨g, o + j, none⟩ := by unfold Addr.add; split <;> simp_all
  rw [this, hc]
  simpa [nthI, hlt] using hj
/-- a copy of a list that is only read -/
theorem cloneIl_any (B : Option Addr) (c : Nat) (ns : List Int) (w : World) (hI : Il w B ns) (hp : 0 < ns.length) (hl : ns.length ≤ 1048576) :
    Calls Try.prog 69 #[.slice B ns.length c] w fun e w' => ∃ r, e = .returned r ∧ Ro w' w.heap.size r ns ∧ Below w.heap.size w w' := by
  obtain ⟨ni0, hni, hni0, hni1, hni2⟩ := info_parts infoInt'
  have HE : Hid (Ro (w.alloc (.cells #[] 2)) w.heap.size (.slice (some ⟨w.heap.size, 0, none⟩) 0 0) []) := own_empty _ _ _
  have HB := Lib.hid (below_alloc w (.cells #[] 2))
  obtain ⟨g, o, hA, hgl, _⟩ := hI.at_ hp
  subst hA
  have HIC := Lib.hid (hI.below HB.out)
  clear hI
  go_enter Try.func69, Try.ntmps69
  go_wp2_with (at_builtin; refine wpList_append_own _ rfl _ _ 39 rfl w.heap.size 2 ni0 (.int .i64 0) 1 8 Try.underlying39 hni hni0 hni1 hni2 rfl (by decide) _ _ _ rfl HE.out ⟨g, o, none⟩ ns.length c (ns.map (Value.int .i64)) rfl (by simp) (Il.cells HIC.out) (by simp [Value.oneCell']) (by unfold maxLen; simp; omega) (by simp; omega) (by simp) ?_; intro v2 w2 hown2 hg2 _)
  have HO : Hid (Ro w2 w.heap.size v2 ns) := by unfold Hid Ro; simpa using hown2
  have HB2 : Hid (Below w.heap.size w w2) := HB.out.grown hg2 HB.out.size (own_block HE.out)
  clear hown2 hg2
  go_ret
  exact ⟨_, rfl, HO.out, HB2.out⟩

theorem goesAround_any (n : Nat) (T1 T2 : Nat → Nat → Nat) (A : Option Addr) (c : Nat) (L : List Int) (w : World) (hA : Il w A L) (hV : Val n T1 T2 L) (hl : L.length = n) (hn : 0 < n) (h15 : n ≤ 15) :
    Calls Try.prog 68 #[.slice A L.length c] w fun e w' => e = .returned (.bool (goB L)) ∧ w = w' := by
  have HA := Lib.hid hA; have HV := Lib.hid hV
  have HLT : Hid (∀ k, itN L k < n) := itN_lt hV hl hn
  have HAT : Hid (∀ k, nthI L (itN L k) = (itN L (k + 1) : Nat)) := fun k => by rw [itN_succ]; exact (hV.rng _ (by rw [hl]; exact itN_lt hV hl hn k)).2
  have HAR : Hid (∀ m, (∀ j, 1 ≤ j → j ≤ m → itN L j ≠ 0) → m < n) := fun m h => around_lt hV hl hn h
  have HIS : Hid (∀ m : Nat, (∀ j, 1 ≤ j → j < m → itN L j ≠ 0) → 1 ≤ m → itN L m = 0 → decide ((m : Int) = (L.length : Int)) = goB L) := fun m h1 h2 h3 => around_is h1 h2 h3 (by omega)
  obtain ⟨b1, o1, hA1, hb1, p0⟩ := hA.at_ (k := 0) (by omega)
  have e0 := HAT.out 0
  rw [itN_zero] at e0
  rw [e0, Nat.add_zero] at p0
  subst hA1
  clear hA hV e0
  subst hl
  generalize itN L = it at *
  go_enter Try.func68, Try.ntmps68
  go_wp2
  clear p0
  go_loop [3, 4] (fun i a => ∃ k : Nat, 1 ≤ k ∧ k ≤ L.length ∧ i = .int .i64 k ∧ a = .int .i64 (it k : Nat) ∧ Hid (∀ j, 1 ≤ j → j < k → it j ≠ 0)) (fun i _ => L.length - (intOf i).toNat)
  case atStart => exact ⟨1, by omega, by omega, rfl, rfl, fun j h1 h2 => by omega⟩
  case round =>
    obtain ⟨k, hk1, hk, rfl, rfl, HC⟩ := hrel
    have HLk := Lib.hid (HLT.out k)
    have HAk := HAT.out k
    by_cases hz : it k = 0
    · have hz' : (((it k : Nat) : Int) != 0) = false := by simp [hz]
      have HZ := Lib.hid hz; clear hz HAk
      go_wp2
      go_ret
      refine ⟨ret_bool ?_, rfl⟩
      rw [← HIS.out k HC.out hk1 HZ.out, Bool.eq_iff_iff]; simp
    · have hz' : (((it k : Nat) : Int) != 0) = true := by simp [hz]
      have HZ := Lib.hid hz; clear hz
      have HC2 : Hid (∀ j, 1 ≤ j → j < k + 1 → it j ≠ 0) := fun j h1 h2 => by
        by_cases e : j = k
        · subst e; exact HZ.out
        · exact HC.out j h1 (by omega)
      have hlt := HAR.out k (fun j h1 h2 => HC2.out j h1 (by omega))
      obtain ⟨b2, o2, hA2, hb2, q0⟩ := HA.out.at_ (k := it k) HLk.out
      simp only [Option.some.injEq, Addr.mk.injEq] at hA2
      obtain ⟨rfl, rfl, -⟩ := hA2
      rw [HAk] at q0
      have hlk := HLk.out
      clear HAk
      go_wp2
      go_round
      case rel => exact ⟨k + 1, by omega, by omega, by go_num, rfl, HC2.out⟩
      case measure => simp [intOf]; omega

/-- the last list that goes around -/
noncomputable def lastG (C : List (List Int)) : List Int := (C.filter goB).getLastD []
theorem lastG_snoc (C : List (List Int)) (L : List Int) : lastG (C ++ [L]) = if goB L = true then L else lastG C := by
  unfold lastG
  rw [List.filter_append]
  cases h : goB L
  · rw [List.filter_cons_of_neg (by simp [h]), List.filter_nil, List.append_nil]; simp
  · rw [List.filter_cons_of_pos h, List.filter_nil, if_pos rfl]; simp
theorem last_mem : ∀ (xs : List (List Int)) (x : List Int), (x :: xs).getLastD [] ∈ (x :: xs) := by
  intro xs
  induction xs with
  | nil => intro x; simp
  | cons y ys ih =>
    intro x
    have := ih y
    have e : (x :: y :: ys).getLastD [] = (y :: ys).getLastD [] := by simp [List.getLastD]
    rw [e]; exact List.mem_cons_of_mem _ this
theorem lastG_len {C : List (List Int)} {n : Nat} (hn : 0 < n) (h : ∀ L ∈ C, L.length = n) : decide ((lastG C).length = 0) = (C.filter goB).isEmpty ∧ (lastG C).length ≤ n := by
  unfold lastG
  rcases hf : C.filter goB with _ | ⟨x, xs⟩
  · simp
  · have hm : (x :: xs).getLastD [] ∈ C.filter goB := by
      rw [hf]
      exact last_mem xs x
    have := h _ (List.mem_filter.1 hm).1
    rw [this]
    exact ⟨by simp; omega, Nat.le_refl _⟩
/-- the list in its box -/
def GInv (w0 : World) (q n : Nat) (C : List (List Int)) (a : World) : Prop :=
  ∃ u, Row a q 39 #[u] ∧ Ro a w0.heap.size u (lastG C) ∧ Below w0.heap.size w0 a ∧ (∀ L ∈ C, L.length = n) ∧ (lastG C = [] → u = .slice none 0 0)
theorem Ro.typed {w : World} {base sb : Nat} {u : Value} {xs : List Int} (h : Ro w base u xs) (hs : ∃ cur, Row w sb 124 cur) : u.ownBlock ≠ some sb := by
  intro e
  obtain ⟨cur, hc⟩ := hs
  rcases h.2 with ⟨rfl, _⟩ | ⟨g, cap, cur2, rfl, _, hg, _⟩
  · simp [Value.ownBlock] at e
  · simp [Value.ownBlock] at e
    subst e
    unfold Row at hc
    rw [hc] at hg
    simp only [Option.some.injEq, Obj.cells.injEq] at hg
    exact absurd hg.2.1 (by decide)

theorem goCl_any (sb n gx gy q : Nat) (T1 T2 : Nat → Nat → Nat) (hn : 0 < n) (h15 : n ≤ 15) (w0 : World) (hq : q < sb) (hqx : q < gx) (hqy : q < gy) (hqw : w0.heap.size ≤ q) : EachOk sb n gx gy 67 #[] #[.pointer (some ⟨q, 0, none⟩)] (fun C => (C.filter goB).isEmpty) (GInv w0 q n) (Val n T1 T2) := by
  refine ⟨fun args w => by kernel_rfl, fun C a b hI hT hg => ?_, fun C L W to us kgx kgy hV _ hI hS hL hto => ?_⟩
  · obtain ⟨u, h1, h2, h3, h4, h5⟩ := hI
    exact ⟨u, h1.grown hg (by simp; omega), h2.grown hg (fun b e e2 => h2.typed hT (by rw [e]; exact e2.symm ▸ rfl)), h3.grown hg h3.size (fun k hk => by simp at hk; omega), h4, h5⟩
  · have hgx : gx < W.heap.size := by obtain ⟨G, h⟩ := kgx; exact h.lt
    have hgy : gy < W.heap.size := by obtain ⟨G, h⟩ := kgy; exact h.lt
    clear kgx kgy
    obtain ⟨u, h1, h2, h3, h4, h5⟩ := hI
    have HR := Lib.hid h1; have HO := Lib.hid h2; have HB := Lib.hid h3
    have HS := Lib.hid hS; have HU := Lib.hid h5
    have HIL := Lib.hid (hS.il (L := L) (by omega) (fun k hk => hto k (by omega)))
    have HV := Lib.hid hV
    have hnew : ∀ M ∈ C ++ [L], M.length = n := fun M hM => by
      rcases List.mem_append.1 hM with h | h
      · exact h4 M h
      · rw [List.mem_singleton.1 h]; exact hL
    have HNEW := Lib.hid hnew
    have HLG := Lib.hid (lastG_len hn hnew)
    have HLS := Lib.hid (lastG_snoc C L)
    have hlt := h1.lt
    have c0 := h1.cell 0
    have f0 := h1.frozen 0
    obtain ⟨A, d, rfl⟩ := own_slice h2
    have hll : (lastG C).length ≤ 15 := by have := (lastG_len hn h4).2; omega
    clear h1 h2 h3 h4 h5 hS hV hto hnew
    subst hL
    cases hg : goB L
    · have e1 : Hid (lastG (C ++ [L]) = lastG C) := by unfold Hid; rw [HLS.out, hg]; rfl
      have e2 : Hid (decide ((lastG C).length = 0) = ((C ++ [L]).filter goB).isEmpty) := by have := HLG.out.1; rw [e1.out] at this; exact this
      go_enter Try.func67, Try.ntmps67
      go_wp2_with fail
      refine (goesAround_any L.length T1 T2 (some ⟨sb, 3, none⟩) 15 L _ HIL.out HV.out rfl hn h15).mono ?_
      rw [hg]
      rintro e w' ⟨rfl, rfl⟩
      clear hg
      generalize (lastG C).length = N at *
      go_wp2
      go_ret
      refine ⟨ret_bool ?_, ⟨_, HR.out, by rw [e1.out]; exact HO.out, HB.out, HNEW.out, by rw [e1.out]; exact HU.out⟩, Nat.le_refl _, rfl, rfl, rfl⟩
      rw [← e2.out, Bool.eq_iff_iff]; simp
    · have e1 : Hid (lastG (C ++ [L]) = L) := by unfold Hid; rw [HLS.out, hg]; rfl
      have e2 : Hid (decide (L.length = 0) = ((C ++ [L]).filter goB).isEmpty) := by have := HLG.out.1; rw [e1.out] at this; exact this
      have hsb := HS.out.lt
      go_enter Try.func67, Try.ntmps67
      go_wp2_with fail
      refine (goesAround_any L.length T1 T2 (some ⟨sb, 3, none⟩) 15 L _ HIL.out HV.out rfl hn h15).mono ?_
      rw [hg]
      rintro e w' ⟨rfl, rfl⟩
      clear hg
      go_wp2_with fail
      refine (cloneIl_any (some ⟨sb, 3, none⟩) 15 L _ HIL.out hn (by omega)).mono ?_
      rintro e w1 ⟨r, rfl, hr, hb⟩
      obtain ⟨A2, d2, rfl⟩ := own_slice hr
      have HRO := Lib.hid hr; have HB1 := Lib.hid hb
      have HR1 := Lib.hid (HR.out.below hb)
      clear c0 f0 hr hb
      have c0 := HR1.out.cell 0
      have f0 := HR1.out.frozen 0
      have hlt1 := HR1.out.lt
      have HQ : Hid (∀ b, (Value.slice A2 L.length d2).ownBlock = some b → some q ≠ some b) := fun b e e2 => by
        have := (HRO.out.lt b e).1
        simp only [Option.some.injEq] at e2; omega
      go_wp2
      go_ret
      have hg := grown_set (grown_refl w1 (some q)) 0 (.slice A2 L.length d2)
      refine ⟨ret_bool ?_, ⟨_, HR1.out.set 0 _, by rw [e1.out]; exact (show Ro w1 w0.heap.size (.slice A2 L.length d2) L from own_base HRO.out HB.out.size).grown hg HQ.out, (HB.out.trans (HB1.out.mono HB.out.size)).setCell (p := ⟨q, 0, none⟩) hqw _, HNEW.out, fun h => by rw [e1.out] at h; subst h; simp at hn⟩, ?_, ?_, ?_, ?_⟩
      · rw [← e2.out, Bool.eq_iff_iff]; simp
      · have := HB1.out.size; simpa [World.setCell] using this
      · exact (Below.heap_setCell _ _ _ _ (by simp; omega)).trans (HB1.out.block _ hsb)
      · exact (Below.heap_setCell _ _ _ _ (by simp; omega)).trans (HB1.out.block _ hgx)
      · exact (Below.heap_setCell _ _ _ _ (by simp; omega)).trans (HB1.out.block _ hgy)

theorem implGo_any (v : Int) (A : Option Addr) (c : Nat) (xs : List Blk) (w : World) (hA : Bl w A xs) (hl : xs.length ≤ 1048576) :
    Calls Try.prog 31 #[.agg #[.int .i64 v, .slice A xs.length c]] w (LP w (goR v xs).1 (goR v xs).2) := by
  have HRR : Hid (goR v xs = if fcode v xs = 0 then (if lastG (autL (fun C => (C.filter goB).isEmpty) v xs) = [] then ([], 4) else (lastG (autL (fun C => (C.filter goB).isEmpty) v xs), 0)) else ([], fcode v xs)) := by
    unfold Hid goR autL
    by_cases h : fcode v xs = 0
    · rw [if_pos h, if_pos h, if_pos h]
      unfold lastG
      rw [runE_first goB (leadL v.toNat xs xs) [] rfl]
      obtain ⟨h1, h2⟩ := fcode_zero h
      have hs := isSysB_iff.1 h1
      have hv := hs.1
      obtain ⟨n, rfl⟩ := Int.eq_ofNat_of_zero_le (by omega : 0 ≤ v)
      have hmem : ∀ M ∈ (leadL n xs xs).filter goB, M ≠ [] := fun M hM => by
        have := ((lead_iff (sts_of hs h2) (sts_of hs h2)).1 (List.mem_filter.1 hM).1).2
        intro e; rw [e] at this; simp at this; omega
      simp only [Int.toNat_natCast]
      rcases hf : (leadL n xs xs).filter goB with _ | ⟨M, Ms⟩
      · rfl
      · have hM := hmem M (by rw [hf]; simp)
        rw [if_neg (by simp)]
        show _ = if M = [] then _ else _
        rw [if_neg hM]; rfl
    · rw [if_neg h, if_neg h]
  have HLN : Hid (∀ a q C, GInv w q v.toNat C a → v ≤ 15 → (lastG C).length ≤ 15) := by
    intro a q C h hv
    obtain ⟨u, _, _, _, h4, _⟩ := h
    unfold lastG
    rcases hf : C.filter goB with _ | ⟨x, xs⟩
    · simp
    · have hm : (x :: xs).getLastD [] ∈ C.filter goB := by rw [hf]; exact last_mem xs x
      have := h4 _ (List.mem_filter.1 hm).1
      omega
  generalize goR v xs = R at *
  have HA := Lib.hid hA; clear hA; have HR := Lib.hid (Row.box w 30 (.int .i64 v) (.slice A xs.length c)); have HW := Lib.hid (Since.refl w); go_enter Try.func31, Try.ntmps31; go_wp2_with fail; replace HA := Lib.hid (HA.out.below (below_alloc _ (.cells #[.int .i64 v, .slice A xs.length c] 30))); replace HW := Lib.hid (HW.out.below (below_alloc _ (.cells #[.int .i64 v, .slice A xs.length c] 30)))
  have hsz := HR.out.lt
  have HAL := Lib.hid (below_alloc (w.alloc (.cells #[.int .i64 v, .slice A xs.length c] 30)) (.cells #[.slice none 0 0] 39))
  have HRN := Lib.hid (Row.new (w.alloc (.cells #[.int .i64 v, .slice A xs.length c] 30)) 39 #[.slice none 0 0])
  simp only [World.size_alloc] at HRN
  have HWL := Lib.hid (HW.out.below HAL.out)
  have HCL : Hid (isSysB v xs = true → 0 < v.toNat ∧ v.toNat ≤ 15) := fun h => by have := (isSysB_iff.1 h).1; omega
  refine (autos_any v A c xs 67 #[] #[.pointer (some ⟨w.heap.size + 1, 0, none⟩)] (fun C => (C.filter goB).isEmpty) (GInv w (w.heap.size + 1) v.toNat) _ (HA.out.below HAL.out) hl ⟨_, HRN.out, World.ownsRow_nil _ _ _ _, HWL.out, fun L hL => by simp at hL, fun _ => rfl⟩ (fun a b h1 h2 _ => ?_) (fun k1 k2 sb gx gy h1 h2 h3 _ _ => goCl_any sb _ gx gy _ _ _ (HCL.out k1).1 (HCL.out k1).2 w (by simp at h1; omega) (by simp at h2; omega) (by simp at h3; omega) (by omega))).mono ?_
  · obtain ⟨u, k1, k2, k3, k4, k5⟩ := h1
    obtain rfl := k5 rfl
    exact ⟨.slice none 0 0, (h2.block _ (by simp)).trans k1, World.ownsRow_nil _ _ _ _, k3.trans (h2.mono (by simp; omega)), k4, k5⟩
  rintro e w3 ⟨rfl, hI, hz⟩
  obtain ⟨u, k1, k2, k3, k4, k5⟩ := hI
  have HO := Lib.hid k2; have HB := Lib.hid k3; have HU := Lib.hid k5
  have c0 := k1.cell 0
  have hlt := k1.lt
  by_cases hc : fcode v xs = 0
  · have hll := HLN.out w3 _ _ ⟨u, k1, k2, k3, k4, k5⟩ (by have := (isSysB_iff.1 (fcode_zero hc).1).1; omega)
    obtain ⟨B, d, rfl⟩ := own_slice k2
    have HC := Lib.hid hc
    clear k1 k2 k3 k4 k5 hz
    rw [hc] at HRR ⊢
    rcases hG : lastG (autL (fun C => (C.filter goB).isEmpty) v xs) with _ | ⟨x, L⟩
    · rw [hG] at HU HRR
      have HN : Hid (R = ([], 4)) := by unfold Hid; rw [HRR.out, if_pos rfl, if_pos rfl]
      have e0 : ([] : List Int).length = 0 := rfl
      rw [hG, e0] at c0
      clear hG hc e0
      go_wp2
      go_ret2
      exact LP.nil (by rw [HN.out]) (by rw [HN.out]) HB.out
    · rw [hG] at HO HRR c0 hll
      have HN : Hid (R = (x :: L, 0)) := by unfold Hid; rw [HRR.out, if_pos rfl, if_neg (by simp)]
      have hpos : 0 < (x :: L).length := by simp
      clear hG hc
      generalize hN2 : (x :: L).length = N at *
      have HN2 := Lib.hid hN2
      clear hN2
      go_wp2
      go_ret2
      have h := HO.out
      rw [← HN2.out] at h ⊢
      exact LP.mk h (by rw [HN.out]) (by rw [HN.out]) HB.out
  · have hne : (fcode v xs != 0) = true := by simpa using hc
    have HN : Hid (R = ([], fcode v xs)) := by unfold Hid; rw [HRR.out, if_neg hc]
    clear k1 k2 k3 k4 k5 hz hc
    go_wp2
    go_ret2
    exact LP.nil (by rw [HN.out]) (by rw [HN.out]) HB.out

end Go.Proofs.Ytgbkonnmjmlalaa

/- Lists of lists whose lists lie in different blocks; conditions: none. -/
namespace Go.Proofs.Ytgbkonnmjmlalaa
open Go.RowKit
set_option linter.unusedSimpArgs false
set_option linter.unusedVariables false

theorem own_typed {w : World} {base size n sb : Nat} {t ts : TypeId} {u : Value} {xs : List Value} (h : w.ownsRow base t size u n xs) (hs : ∃ cur, Row w sb ts cur) (ht : t ≠ ts) : u.ownBlock ≠ some sb := by
  intro e
  obtain ⟨cur, hc⟩ := hs
  rcases h.2 with ⟨rfl, _⟩ | ⟨g, cap, cur2, rfl, _, hg, _⟩
  · simp [Value.ownBlock] at e
  · simp [Value.ownBlock] at e
    subst e
    unfold Row at hc
    rw [hc] at hg
    simp only [Option.some.injEq, Obj.cells.injEq] at hg
    exact absurd hg.2.1.symm ht
/-- u is a row of lists, all in different blocks -/
def LLd (w : World) (base : Nat) (u : Value) (xss : List (List Int)) : Prop :=
  ∃ hs : Nat → Value, w.ownsRow base 39 1 u xss.length ((List.range xss.length).map hs) ∧ (∀ k, k < xss.length → Ro w base (hs k) (nthLL xss k) ∧ ∀ b, (hs k).ownBlock = some b → u.ownBlock ≠ some b) ∧ ∀ j k, j < xss.length → k < xss.length → j ≠ k → ∀ b, (hs j).ownBlock = some b → (hs k).ownBlock ≠ some b
theorem LLd.llq {w : World} {base : Nat} {u : Value} {xss : List (List Int)} (h : LLd w base u xss) : LLq w base u xss := by
  obtain ⟨hs, ho, hi, _⟩ := h
  exact ⟨_, ho, fun k hk => ⟨hs k, by simp [hk], (hi k hk).1, (hi k hk).2⟩⟩
theorem LLd.below {w w' : World} {base : Nat} {u : Value} {xss : List (List Int)} (h : LLd w base u xss) (hb : Below w.heap.size w w') : LLd w' base u xss := by
  obtain ⟨hs, ho, hi, hd⟩ := h
  exact ⟨hs, own_below ho hb, fun k hk => ⟨(hi k hk).1.below hb, (hi k hk).2⟩, hd⟩
theorem LLd.slice {w : World} {base : Nat} {u : Value} {xss : List (List Int)} (h : LLd w base u xss) : ∃ A c, u = .slice A xss.length c := h.llq.slice
theorem LLd.base {w : World} {base b' : Nat} {u : Value} {xss : List (List Int)} (h : LLd w base u xss) (hb : b' ≤ base) : LLd w b' u xss := by
  obtain ⟨hs, ho, hi, hd⟩ := h
  exact ⟨hs, own_base ho hb, fun k hk => ⟨own_base (hi k hk).1 hb, (hi k hk).2⟩, hd⟩
theorem LLd.nil (w : World) (base : Nat) : LLd w base (.slice none 0 0) [] := ⟨fun _ => .slice none 0 0, World.ownsRow_nil _ _ _ _, fun k hk => by simp at hk, fun j k hj => by simp at hj⟩
theorem LLd.own_lt {w : World} {base : Nat} {u : Value} {xss : List (List Int)} (h : LLd w base u xss) : ∀ b, u.ownBlock = some b → base ≤ b ∧ b < w.heap.size := h.llq.own_lt
theorem LLd.kept {w w' : World} {base s : Nat} {ts : TypeId} {u : Value} {xss : List (List Int)} (h : LLd w base u xss) (hg : w.grownBy w' (some s)) (hs : ∃ cur, Row w s ts cur) (h1 : (39 : TypeId) ≠ ts) (h2 : (2 : TypeId) ≠ ts) : LLd w' base u xss := by
  obtain ⟨hs', ho, hi, hd⟩ := h
  exact ⟨hs', World.ownsRow.kept ho hg (.inr (own_typed ho hs h1)), fun k hk => ⟨World.ownsRow.kept (hi k hk).1 hg (.inr (own_typed (hi k hk).1 hs h2)), (hi k hk).2⟩, hd⟩
/-- the row's headers -/
theorem LLd.vs {w : World} {base : Nat} {u : Value} {xss : List (List Int)} (h : LLd w base u xss) : ∃ vs, w.ownsRow base 39 1 u xss.length vs ∧ vs.length = xss.length ∧ ∀ (w1 w2 : World) (r v2 : Value) (xs : List Int), Below w.heap.size w w1 → Ro w1 base r xs → (∀ b, r.ownBlock = some b → w.heap.size ≤ b) →
    ∀ w1', Below w1.heap.size w1 w1' → w1'.grownBy w2 u.ownBlock → w2.ownsRow base 39 1 v2 (xss.length + 1) (vs ++ [r]) → (v2.ownBlock = u.ownBlock ∨ v2.ownBlock = some w1'.heap.size) → LLd w2 base v2 (xss ++ [xs]) := by
  obtain ⟨hs, ho, hi, hd⟩ := h
  refine ⟨_, ho, by simp, fun w1 w2 r v2 xs hb hr hfr w1' hb' hg hown hat => ?_⟩
  have old : ∀ k, k < xss.length → ∀ b, (hs k).ownBlock = some b → b < w.heap.size := fun k hk b e => ((hi k hk).1.lt b e).2
  have oldu : ∀ b, u.ownBlock = some b → b < w.heap.size := fun b e => (ho.lt b e).2
  have hsz := hb.size; have hsz' := hb'.size
  have hrlt : ∀ b, r.ownBlock = some b → b < w1.heap.size := fun b e => (hr.lt b e).2
  refine ⟨updA hs xss.length r, ?_, fun k hk => ?_, fun j k hj hk hjk b e => ?_⟩
  · rw [List.length_append, List.length_singleton, List.range_succ, List.map_append]
    have e1 : (List.range xss.length).map (updA hs xss.length r) = (List.range xss.length).map hs := List.map_congr_left fun i hi2 => updA_ne hs r (by have := List.mem_range.1 hi2; omega)
    rw [e1]
    simpa [updA_same] using hown
  · rw [List.length_append, List.length_singleton] at hk
    have hne : ∀ {x : Value}, (∀ b, x.ownBlock = some b → b < w1'.heap.size) → (∀ b, x.ownBlock = some b → u.ownBlock ≠ some b) → ∀ b, x.ownBlock = some b → v2.ownBlock ≠ some b := by
      intro x hx1 hx2 b e
      rcases hat with h | h
      · rw [h]; exact hx2 b e
      · rw [h]; intro e2; simp only [Option.some.injEq] at e2; have := hx1 b e; omega
    by_cases ek : k = xss.length
    · subst ek
      rw [updA_same]
      have e2 : nthLL (xss ++ [xs]) xss.length = xs := by simp [nthLL]
      rw [e2]
      have hru : ∀ b, r.ownBlock = some b → u.ownBlock ≠ some b := fun b e e3 => by have := hfr b e; have := oldu b e3; omega
      exact ⟨(hr.below hb').grown hg (fun b e e3 => hru b e e3), hne (fun b e => by have := hrlt b e; omega) hru⟩
    · have hk2 : k < xss.length := by omega
      rw [updA_ne _ _ ek]
      have e2 : nthLL (xss ++ [xs]) k = nthLL xss k := by simp [nthLL, List.getElem?_append_left hk2]
      rw [e2]
      exact ⟨(((hi k hk2).1.below hb).below hb').grown hg (fun b e e3 => (hi k hk2).2 b e e3), hne (fun b e => by have := old k hk2 b e; omega) (hi k hk2).2⟩
  · rw [List.length_append, List.length_singleton] at hj hk
    by_cases ej : j = xss.length
    · subst ej
      rw [updA_same] at e
      rw [updA_ne _ _ (Ne.symm hjk)]
      intro e2; have := hfr b e; have := old k (by omega) b e2; omega
    · rw [updA_ne _ _ ej] at e
      by_cases ek : k = xss.length
      · subst ek
        rw [updA_same]
        intro e2; have := hfr b e2; have := old j (by omega) b e; omega
      · rw [updA_ne _ _ ek]; exact hd j k (by omega) (by omega) hjk b e

/-- a list of a list of lists, to be read -/
theorem LLq.rd {w : World} {base : Nat} {A : Option Addr} {n c : Nat} {xss : List (List Int)} (h : LLq w base (.slice A n c) xss) {k : Nat} (hk : k < xss.length) :
    ∃ g B d, A = some ⟨g, 0, none⟩ ∧ g < w.heap.size ∧ w.cell? ⟨g, k, none⟩ = some (.slice B (nthLL xss k).length d) ∧ Il w B (nthLL xss k) := by
  obtain ⟨g, r, hA, hg, hc, hR⟩ := h.at_ hk
  obtain ⟨B, d, rfl, hI, _⟩ := hR.il
  exact ⟨g, B, d, hA, hg, hc, hI⟩

end Go.Proofs.Ytgbkonnmjmlalaa

/- Contracts of the program's lists of renumberings; conditions: stated in each. -/
namespace Go.Proofs.Ytgbkonnmjmlalaa
open Go.RowKit
set_option maxHeartbeats 1000000
set_option maxRecDepth 100000
set_option linter.unusedSimpArgs false
set_option linter.unusedVariables false

/-- the lists in their box -/
def AInv (w0 : World) (q n : Nat) (C : List (List Int)) (a : World) : Prop :=
  ∃ u, Row a q 46 #[u] ∧ LLd a w0.heap.size u C ∧ Below w0.heap.size w0 a ∧ (∀ L ∈ C, L.length = n) ∧ (C = [] → u = .slice none 0 0)
theorem autCl_any (sb n gx gy q : Nat) (V : List Int → Prop) (hn : 0 < n) (h15 : n ≤ 15) (w0 : World) (hq : q < sb) (hqx : q < gx) (hqy : q < gy) (hqw : w0.heap.size ≤ q) : EachOk sb n gx gy 72 #[] #[.pointer (some ⟨q, 0, none⟩)] (fun C => decide (C.length ≤ 500)) (AInv w0 q n) V := by
  obtain ⟨li0, hli, hli0, hli1, hli2⟩ := info_parts infoList'
  refine ⟨fun args w => by kernel_rfl, fun C a b hI hT hg => ?_, fun C L W to us hgx hgy hV hgo hI hS hL hto => ?_⟩
  · obtain ⟨u, h1, h2, h3, h4, h5⟩ := hI
    exact ⟨u, h1.grown hg (by simp; omega), h2.kept hg hT (by decide) (by decide), h3.grown hg h3.size (fun k hk => by simp at hk; omega), h4, h5⟩
  · obtain ⟨u, h1, h2, h3, h4, h5⟩ := hI
    have HR := Lib.hid h1; have HL := Lib.hid h2; have HB := Lib.hid h3
    have HIL := Lib.hid (hS.il (L := L) (by omega) (fun k hk => hto k (by omega)))
    have hsb := hS.lt
    have HXYZ : Hid (sb < W.heap.size ∧ gx < W.heap.size ∧ gy < W.heap.size ∧ u.ownBlock ≠ some sb ∧ u.ownBlock ≠ some gx ∧ u.ownBlock ≠ some gy) := by
      obtain ⟨G1, k1⟩ := hgx
      obtain ⟨G2, k2⟩ := hgy
      obtain ⟨vs, ho, _⟩ := h2.llq
      exact ⟨hsb, k1.lt, k2.lt, own_typed ho ⟨_, hS⟩ (by decide), own_typed ho ⟨_, (k1 : Row W gx 131 _)⟩ (by decide), own_typed ho ⟨_, (k2 : Row W gy 131 _)⟩ (by decide)⟩
    have HNEW : Hid (∀ M ∈ C ++ [L], M.length = n) := fun M hM => by
      rcases List.mem_append.1 hM with h | h
      · exact h4 M h
      · rw [List.mem_singleton.1 h]; exact hL
    have hCl : C.length ≤ 500 := by
      rcases hgo with rfl | h
      · simp
      · simpa using h
    have hlt := h1.lt
    have c0 := h1.cell 0
    have f0 := h1.frozen 0
    have hqu : Hid (u.ownBlock ≠ some q) := by
      obtain ⟨vs, ho, _⟩ := h2.llq
      exact own_typed ho ⟨_, h1⟩ (by decide)
    obtain ⟨A, d, rfl⟩ := h2.slice
    clear h1 h2 h3 h4 h5 hS hV hto hgo hgx hgy hsb
    subst hL
    go_enter Try.func72, Try.ntmps72
    go_wp2
    go_region_law (first
      | (go_simp; go_at_call 69
         refine (cloneIl_any (some ⟨sb, 3, none⟩) 15 L _ (HIL.out.below (below_drew _)) hn (by omega)).mono ?_
         rintro e w1 ⟨r, rfl, hr, hb⟩
         have HB1 : Hid (Below W.heap.size W w1) := below_up (below_drew W) hb
         obtain ⟨E, f, rfl⟩ := own_slice hr
         have HO : Hid (Ro w1 w0.heap.size (.slice E L.length f) L) := own_base hr (by simpa using HB.out.size)
         have HF : Hid (∀ b, (Value.slice E L.length f).ownBlock = some b → W.heap.size ≤ b) := by
           intro b e
           have := (hr.lt b e).1
           simpa using this
         obtain ⟨vs_, ho0_, hvl_, hi_⟩ := HL.out.vs
         have ho_ := own_below ho0_ HB1.out
         clear ho0_
         have HOO := Lib.hid ho_; have HII := Lib.hid hi_
         have HR1 := Lib.hid (HR.out.below HB1.out)
         have hs1 := HB1.out.size
         have d0 := HR1.out.cell 0
         have hz1 := HR1.out.lt
         clear hr hb ho_ hi_)
      | (refine step_append_at _ (by rfl) _ _ 46 (by rfl) w0.heap.size 39 li0 (.slice none 0 0) 1 24 Try.underlying46 hli hli0 hli1 hli2 rfl (by decide) _ _ _ (by rfl) (HOO.out.alloc _) ⟨w1.heap.size, 0, none⟩ 1 1 [.slice E L.length f] (by rfl) rfl (cells_newH (cw := w1) (by simp)) (by simp [Value.oneCell']) (by unfold maxLen; omega) (by omega) (by have := HB.out.size; simp; omega) ?_
         intro v2 w2 hown2 hg2 hat2
         obtain ⟨A2, k2, rfl⟩ := own_slice hown2
         have HL2 : Hid (LLd w2 w0.heap.size (.slice A2 (C.length + 1) k2) (C ++ [L])) := HII.out w1 w2 _ _ L HB1.out HO.out HF.out _ (below_alloc _ _) hg2 hown2 hat2
         have HR2 : Hid (Row w2 q 46 #[.slice A C.length d]) := Row.grown (HR1.out.below (below_alloc _ _)) hg2 hqu.out
         have HG2 := Lib.hid hg2
         have g0 := HR2.out.cell 0
         have f2 := HR2.out.frozen 0
         have hz2 := HR2.out.lt
         clear hown2 hg2 hat2))
    all_goals
      have hfin : ∀ b, b < W.heap.size → b ≠ q → (Value.slice A C.length d).ownBlock ≠ some b → (w2.setCell ⟨q, 0, none⟩ (.slice A2 (C.length + 1) k2)).heap[b]? = W.heap[b]? := fun b h1 h2 h3 => by
        have hb2 := HB1.out.size
        rw [Below.heap_setCell w2 ⟨q, 0, none⟩ _ b h2, HG2.out.block b (by simp; omega) (fun e => h3 e.symm)]
        exact (below_up HB1.out (below_alloc w1 _)).block b h1
      have HFIN := Lib.hid hfin
      have HBW : Hid (Below w0.heap.size w0 (w2.setCell ⟨q, 0, none⟩ (.slice A2 (C.length + 1) k2))) :=
        (((HB.out.trans ((below_up HB1.out (below_alloc w1 _)).mono HB.out.size)).grown HG2.out (by have := HB.out.size; have := HB1.out.size; simp; omega) (own_block HOO.out)).setCell (p := ⟨q, 0, none⟩) hqw _)
      have HSZ : Hid (W.heap.size ≤ (w2.setCell ⟨q, 0, none⟩ (.slice A2 (C.length + 1) k2)).heap.size) := by
        have h1 := HG2.out.size; have h2 := HB1.out.size
        unfold Hid
        simp at h1
        simp [World.setCell]; omega
      have HLK : Hid (LLd (w2.setCell ⟨q, 0, none⟩ (.slice A2 (C.length + 1) k2)) w0.heap.size (.slice A2 (C.length + 1) k2) (C ++ [L])) := HL2.out.kept (grown_set (grown_refl w2 (some q)) 0 _) ⟨_, HR2.out⟩ (by decide) (by decide)
      clear hfin
      go_wp2
      go_ret
      refine ⟨ret_bool (by rw [List.length_append, List.length_singleton, Bool.eq_iff_iff]; simp; omega), ⟨_, HR2.out.set 0 _, HLK.out, HBW.out, HNEW.out, fun h => by simp at h⟩, HSZ.out, HFIN.out sb HXYZ.out.1 (by omega) HXYZ.out.2.2.2.1, HFIN.out gx HXYZ.out.2.1 (by omega) HXYZ.out.2.2.2.2.1, HFIN.out gy HXYZ.out.2.2.1 (by omega) HXYZ.out.2.2.2.2.2⟩

/-- The call returned the lists 'xss', all rows of its own and apart, and 'k'. -/
def LPD (w : World) (xss : List (List Int)) (k : Int) (e : Ending) (w' : World) : Prop :=
  ∃ B d, e = .returned (.tuple #[.slice B xss.length d, .int .i64 k]) ∧ LLd w' w.heap.size (.slice B xss.length d) xss ∧ Below w.heap.size w w'
theorem LPD.mk {w w' : World} {u : Value} {xss yss : List (List Int)} {k k' : Int} (h : LLd w' w.heap.size u xss) (hn : yss = xss) (hk : k' = k) (hb : Below w.heap.size w w') : LPD w yss k' (.returned (.tuple #[u, .int .i64 k])) w' := by
  subst hn hk
  obtain ⟨B, d, rfl⟩ := h.slice
  exact ⟨B, d, rfl, h, hb⟩
theorem LPD.nil {w w' : World} {xss : List (List Int)} {k k' : Int} (hn : xss = []) (hk : k' = k) (hb : Below w.heap.size w w') : LPD w xss k' (.returned (.tuple #[.slice none 0 0, .int .i64 k])) w' := LPD.mk (LLd.nil _ _) hn hk hb

theorem implAut_any (v : Int) (A : Option Addr) (c : Nat) (xs : List Blk) (w : World) (hA : Bl w A xs) (hl : xs.length ≤ 1048576) :
    Calls Try.prog 35 #[.agg #[.int .i64 v, .slice A xs.length c]] w (LPD w (autR v xs).1 (autR v xs).2) := by
  have HRR : Hid (autR v xs = if fcode v xs = 0 then (if (autL (fun C => decide (C.length ≤ 500)) v xs).length > 500 then ([], 3) else (autL (fun C => decide (C.length ≤ 500)) v xs, 0)) else ([], fcode v xs)) := by
    unfold Hid autR autL
    by_cases h : fcode v xs = 0
    · rw [if_pos h, if_pos h, if_pos h, runE_cap 500 _ [] (by simp)]
      simp only [List.nil_append, List.length_nil, Nat.sub_zero]
      by_cases h5 : (leadL v.toNat xs xs).length > 500
      · rw [if_pos h5, if_pos (by rw [List.length_take]; omega)]
      · rw [if_neg h5, List.take_of_length_le (by omega), if_neg h5]
    · rw [if_neg h, if_neg h]
  have HLN : Hid ((autL (fun C => decide (C.length ≤ 500)) v xs).length ≤ 501) := by
    unfold Hid autL
    split
    · rw [runE_cap 500 _ [] (by simp)]; simp [List.length_take]; omega
    · simp
  generalize autR v xs = R at *
  have HA := Lib.hid hA; clear hA; have HR := Lib.hid (Row.box w 30 (.int .i64 v) (.slice A xs.length c)); have HW := Lib.hid (Since.refl w); go_enter Try.func35, Try.ntmps35; go_wp2_with fail; replace HA := Lib.hid (HA.out.below (below_alloc _ (.cells #[.int .i64 v, .slice A xs.length c] 30))); replace HW := Lib.hid (HW.out.below (below_alloc _ (.cells #[.int .i64 v, .slice A xs.length c] 30)))
  have hsz := HR.out.lt
  have HAL := Lib.hid (below_alloc (w.alloc (.cells #[.int .i64 v, .slice A xs.length c] 30)) (.cells #[.slice none 0 0] 46))
  have HRN := Lib.hid (Row.new (w.alloc (.cells #[.int .i64 v, .slice A xs.length c] 30)) 46 #[.slice none 0 0])
  simp only [World.size_alloc] at HRN
  have HWL := Lib.hid (HW.out.below HAL.out)
  have HCL : Hid (isSysB v xs = true → 0 < v.toNat ∧ v.toNat ≤ 15) := fun h => by have := (isSysB_iff.1 h).1; omega
  refine (autos_any v A c xs 72 #[] #[.pointer (some ⟨w.heap.size + 1, 0, none⟩)] (fun C => decide (C.length ≤ 500)) (AInv w (w.heap.size + 1) v.toNat) _ (HA.out.below HAL.out) hl ⟨_, HRN.out, LLd.nil _ _, HWL.out, fun L hL => by simp at hL, fun _ => rfl⟩ (fun a b h1 h2 _ => ?_) (fun k1 k2 sb gx gy h1 h2 h3 _ _ => autCl_any sb _ gx gy _ _ (HCL.out k1).1 (HCL.out k1).2 w (by simp at h1; omega) (by simp at h2; omega) (by simp at h3; omega) (by omega))).mono ?_
  · obtain ⟨u, k1, k2, k3, k4, k5⟩ := h1
    obtain rfl := k5 rfl
    exact ⟨.slice none 0 0, (h2.block _ (by simp)).trans k1, LLd.nil _ _, k3.trans (h2.mono (by simp; omega)), k4, k5⟩
  rintro e w3 ⟨rfl, hI, hz⟩
  obtain ⟨u, k1, k2, k3, k4, k5⟩ := hI
  have HO := Lib.hid k2; have HB := Lib.hid k3
  have c0 := k1.cell 0
  have hlt := k1.lt
  obtain ⟨B, d, rfl⟩ := k2.slice
  clear k1 k2 k3 k4 k5 hz
  have hln := HLN.out
  by_cases hc : fcode v xs = 0
  · have HC := Lib.hid hc
    rw [hc] at HRR ⊢
    by_cases h5 : (autL (fun C => decide (C.length ≤ 500)) v xs).length > 500
    · have HN : Hid (R = ([], 3)) := by unfold Hid; rw [HRR.out, if_pos rfl, if_pos h5]
      clear hc
      go_wp2
      go_ret2
      exact LPD.nil (by rw [HN.out]) (by rw [HN.out]) HB.out
    · have HN : Hid (R = (autL (fun C => decide (C.length ≤ 500)) v xs, 0)) := by unfold Hid; rw [HRR.out, if_pos rfl, if_neg h5]
      clear hc
      go_wp2
      go_ret2
      exact LPD.mk HO.out (by rw [HN.out]) (by rw [HN.out]) HB.out
  · have hne : (fcode v xs != 0) = true := by simpa using hc
    have HN : Hid (R = ([], fcode v xs)) := by unfold Hid; rw [HRR.out, if_neg hc]
    clear hc
    go_wp2
    go_ret2
    exact LPD.nil (by rw [HN.out]) (by rw [HN.out]) HB.out

end Go.Proofs.Ytgbkonnmjmlalaa

/- Contracts of the stabiliser numbers, of the reference and of the program; conditions: stated in each. -/
namespace Go.Proofs.Ytgbkonnmjmlalaa
open Go.RowKit
set_option maxHeartbeats 1000000
set_option maxRecDepth 100000
set_option linter.unusedSimpArgs false
set_option linter.unusedVariables false

theorem stab_take (p : List Int → Bool) (Ls : List (List Int)) {k : Nat} (h : k < Ls.length) : cnL p (Ls.take (k + 1)) = cnL p (Ls.take k) + (if p (nthLL Ls k) = true then 1 else 0) := by
  rw [take_succ' Ls h, cnL_one]; rfl

theorem specStab_any (v : Int) (A : Option Addr) (c : Nat) (xs : List Blk) (p : Int) (w : World) (hA : Bl w A xs) (hl : xs.length ≤ 1048576) :
    Calls Try.prog 20 #[.agg #[.int .i64 v, .slice A xs.length c], .int .i64 p] w fun e w' => e = .returned (.tuple #[.int .i64 (stabR v xs p).1, .int .i64 (stabR v xs p).2]) ∧ Below w.heap.size w w' := by
  cases hs : isSysB v xs
  · have HN : Hid (stabR v xs p = (0, 1)) := by unfold Hid stabR; simp [hs]
    generalize stabR v xs p = R at *
    have HA := Lib.hid hA; clear hA; have HR := Lib.hid (Row.box w 30 (.int .i64 v) (.slice A xs.length c)); have HW := Lib.hid (Since.refl w); go_enter Try.func20, Try.ntmps20; go_wp2_with fail; replace HA := Lib.hid (HA.out.below (below_alloc _ (.cells #[.int .i64 v, .slice A xs.length c] 30))); replace HW := Lib.hid (HW.out.below (below_alloc _ (.cells #[.int .i64 v, .slice A xs.length c] 30)))
    refine (l01Is_any v A c xs _ HA.out hl).mono ?_; rw [hs]; rintro e w_ ⟨rfl, hb⟩; replace HW := Lib.hid (HW.out.below hb); clear hb
    go_wp2
    go_ret2
    exact ⟨by rw [HN.out]; rfl, HW.out⟩
  · have hsy := isSysB_iff.1 hs
    have hv := hsy.1
    have HS := Lib.hid hsy
    clear hsy
    by_cases hk : 0 ≤ p ∧ p ≤ v - 1
    · have HD := Lib.hid (decide_eq_true hk)
      cases hf : fullB v xs
      · have HN : Hid (stabR v xs p = (0, 5)) := by unfold Hid stabR; rw [if_pos hs, if_pos hk, if_neg (by rw [hf]; simp)]
        generalize stabR v xs p = R at *
        clear hk
        have HA := Lib.hid hA; clear hA; have HR := Lib.hid (Row.box w 30 (.int .i64 v) (.slice A xs.length c)); have HW := Lib.hid (Since.refl w); go_enter Try.func20, Try.ntmps20; go_wp2_with fail; replace HA := Lib.hid (HA.out.below (below_alloc _ (.cells #[.int .i64 v, .slice A xs.length c] 30))); replace HW := Lib.hid (HW.out.below (below_alloc _ (.cells #[.int .i64 v, .slice A xs.length c] 30)))
        refine (l01Is_any v A c xs _ HA.out hl).mono ?_; rw [hs]; rintro e w_ ⟨rfl, hb⟩; replace HA := Lib.hid (HA.out.below hb); replace HW := Lib.hid (HW.out.below hb); replace HR := Lib.hid (HR.out.below hb); clear hb; (try clear c0 c1); obtain ⟨c0, c1⟩ := HR.out.c2
        go_wp2_with fail
        refine (l01In_any _ _ _ _).mono ?_
        rw [HD.out]
        rintro e w' ⟨rfl, rfl⟩
        go_wp2_with fail
        refine (l01Full_any v A c xs _ hl ⟨by omega, hv.2⟩).mono ?_; rw [hf]; rintro e w_ ⟨rfl, hb⟩; replace HW := Lib.hid (HW.out.below hb); clear hb
        go_wp2
        go_ret2
        exact ⟨by rw [HN.out]; rfl, HW.out⟩
      · obtain ⟨n, rfl⟩ := Int.eq_ofNat_of_zero_le (by omega : 0 ≤ v)
        obtain ⟨q, rfl⟩ := Int.eq_ofNat_of_zero_le hk.1
        have HF := Lib.hid hf
        have hqn : q < n := by omega
        have HN : Hid (stabR n xs q = (((cnL (fun L => nthI L q == (q : Int)) (leadL n xs xs) : Nat) : Int), 0)) := by unfold Hid stabR; rw [if_pos hs, if_pos hk, if_pos hf]; rfl
        have hld := lead_bd HS.out HS.out hf hf
        generalize stabR n xs q = R at *
        clear hk
        have hn15 : (n : Int) ≤ 15 := hv.2
        go_enter Try.func20, Try.ntmps20
        have HA := Lib.hid hA; clear hA; have HR := Lib.hid (Row.box w 30 (.int .i64 n) (.slice A xs.length c)); have HW := Lib.hid (Since.refl w)
        replace HA := Lib.hid (HA.out.below (below_alloc _ (.cells #[.int .i64 n, .slice A xs.length c] 30))); replace HW := Lib.hid (HW.out.below (below_alloc _ (.cells #[.int .i64 n, .slice A xs.length c] 30)))
        go_wp2_with fail
        refine (l01Is_any n A c xs _ HA.out hl).mono ?_; rw [hs]; rintro e w_ ⟨rfl, hb⟩; replace HA := Lib.hid (HA.out.below hb); replace HW := Lib.hid (HW.out.below hb); replace HR := Lib.hid (HR.out.below hb); clear hb; (try clear c0 c1); obtain ⟨c0, c1⟩ := HR.out.c2
        go_wp2_with fail
        refine (l01In_any _ _ _ _).mono ?_
        rw [HD.out]
        rintro e w' ⟨rfl, rfl⟩
        go_wp2_with fail
        refine (l01Full_any n A c xs _ hl ⟨by omega, hv.2⟩).mono ?_; rw [hf]; rintro e w_ ⟨rfl, hb⟩; replace HA := Lib.hid (HA.out.below hb); replace HW := Lib.hid (HW.out.below hb); replace HR := Lib.hid (HR.out.below hb); clear hb; (try clear c0 c1); obtain ⟨c0, c1⟩ := HR.out.c2
        clear hf
        go_wp2_with fail
        refine (l06All_any n A c xs _ HA.out hl HS.out HF.out).mono ?_
        rintro r w3 ⟨u, rfl, hL, hb⟩
        obtain ⟨B, d, rfl⟩ := hL.slice
        have HW3 := Lib.hid (HW.out.below hb)
        have HL := Lib.hid hL
        have HLA : Hid (∀ k, k < (leadL n xs xs).length → (nthLL (leadL n xs xs) k).length = n) := fun k hk => (lead_at HS.out HS.out HF.out HF.out hk).2
        have HST : Hid (∀ k, k < (leadL n xs xs).length → cnL (fun L => nthI L q == q) ((leadL n xs xs).take (k + 1)) = cnL (fun L => nthI L q == q) ((leadL n xs xs).take k) + (if (nthI (nthLL (leadL n xs xs) k) q == q) = true then 1 else 0)) := fun k hk => stab_take _ _ hk
        have HTL : Hid ((leadL n xs xs).take (leadL n xs xs).length = leadL n xs xs) := List.take_length
        have HTB : Hid (∀ k, cnL (fun L => nthI L q == q) ((leadL n xs xs).take k) ≤ 50625) := fun k => by
          have := cnL_le (fun L => nthI L q == q) ((leadL n xs xs).take k)
          rw [List.length_take] at this; omega
        clear hL hb c0 c1
        generalize leadL n xs xs = Ls at *
        go_wp2
        go_loop [7, 8] (fun a i => ∃ k m : Nat, k ≤ Ls.length ∧ i = .int .i64 k ∧ a = .int .i64 m ∧ m ≤ 50625 ∧ Hid (m = cnL (fun L => nthI L q == q) (Ls.take k))) (fun _ i => Ls.length - (intOf i).toNat)
        case atStart => exact ⟨0, 0, by omega, rfl, rfl, by omega, rfl⟩
        case round =>
          obtain ⟨k, m, hk, rfl, rfl, hm, HC⟩ := hrel
          by_cases hlt : k < Ls.length
          · obtain ⟨g, E, f, hB, hg, hcell, hI⟩ := HL.out.rd hlt
            subst hB
            have e1 := HLA.out k hlt
            rw [e1] at hcell
            obtain ⟨b1, o1, hA1, hb1, p0⟩ := hI.at_ (k := q) (by rw [e1]; exact hqn)
            subst hA1
            have HSk := Lib.hid (HST.out k hlt)
            have HTk := Lib.hid (HTB.out (k + 1))
            clear hI e1
            cases hq : (nthI (nthLL Ls k) q == (q : Int))
            · have HQ := Lib.hid hq
              go_wp2
              go_round
              case rel => exact ⟨k + 1, m, by omega, by go_num, rfl, hm, by rw [HSk.out, HQ.out]; exact HC.out⟩
              case measure => simp [intOf]; omega
            · have HQ := Lib.hid hq
              go_wp2
              go_round
              case rel => exact ⟨k + 1, m + 1, by omega, by go_num, by go_num, by have h1 := HTk.out; rw [HSk.out, HQ.out, ← HC.out] at h1; simpa using h1, by rw [HSk.out, HQ.out, ← HC.out]; rfl⟩
              case measure => simp [intOf]; omega
          · obtain rfl : k = Ls.length := by omega
            go_wp2
            go_ret2
            exact ⟨by rw [HN.out]; exact ret_ii (by rw [HC.out, HTL.out]) rfl, HW3.out⟩
    · have HD := Lib.hid (decide_eq_false hk)
      have HN : Hid (stabR v xs p = (0, 2)) := by unfold Hid stabR; rw [if_pos hs, if_neg hk]
      generalize stabR v xs p = R at *
      clear hk
      have HA := Lib.hid hA; clear hA; have HR := Lib.hid (Row.box w 30 (.int .i64 v) (.slice A xs.length c)); have HW := Lib.hid (Since.refl w); go_enter Try.func20, Try.ntmps20; go_wp2_with fail; replace HA := Lib.hid (HA.out.below (below_alloc _ (.cells #[.int .i64 v, .slice A xs.length c] 30))); replace HW := Lib.hid (HW.out.below (below_alloc _ (.cells #[.int .i64 v, .slice A xs.length c] 30)))
      refine (l01Is_any v A c xs _ HA.out hl).mono ?_; rw [hs]; rintro e w_ ⟨rfl, hb⟩; replace HA := Lib.hid (HA.out.below hb); replace HW := Lib.hid (HW.out.below hb); replace HR := Lib.hid (HR.out.below hb); clear hb; (try clear c0 c1); obtain ⟨c0, c1⟩ := HR.out.c2
      go_wp2_with fail
      refine (l01In_any _ _ _ _).mono ?_
      rw [HD.out]
      rintro e w' ⟨rfl, rfl⟩
      go_wp2
      go_ret2
      exact ⟨by rw [HN.out]; rfl, HW.out⟩

theorem wrap_twice (x : Int) : IntKind.i64.wrap (IntKind.i64.wrap x) = IntKind.i64.wrap x := by
  simp [IntKind.wrap, IntKind.bits, IntKind.signed]
  (repeat' split) <;> omega
theorem wrap_is (x : Int) : IntKind.i64.wrap x = wrap64 x := by
  simp [IntKind.wrap, IntKind.bits, IntKind.signed, wrap64]
  (repeat' split) <;> omega
theorem wcnt_add (N : Nat) (b : Bool) : IntKind.i64.wrap (wcnt N + ((if b = true then 1 else 0 : Nat) : Int)) = wcnt (N + if b = true then 1 else 0) := by
  cases b
  · show IntKind.i64.wrap (wcnt N + 0) = wcnt N
    rw [Int.add_zero]
    cases N with
    | zero => decide
    | succ N =>
      show IntKind.i64.wrap (wrap64 (wcnt N + 1)) = wrap64 (wcnt N + 1)
      rw [← wrap_is, wrap_twice]
  · show IntKind.i64.wrap (wcnt N + 1) = wrap64 (wcnt N + 1)
    rw [wrap_is]
/-- the count and the point in their boxes -/
def SInv (w0 : World) (q1 q2 p : Nat) (C : List (List Int)) (a : World) : Prop :=
  Row a q1 2 #[.int .i64 (wcnt (cnL (fun L => nthI L p == (p : Int)) C))] ∧ Row a q2 2 #[.int .i64 p] ∧ Below w0.heap.size w0 a
theorem stabCl_any (sb n gx gy q1 q2 p : Nat) (V : List Int → Prop) (hp : p < n) (h15 : n ≤ 15) (w0 : World) (hq : q1 < sb) (hqx : q1 < gx) (hqy : q1 < gy) (hq' : q2 < sb) (hqw : w0.heap.size ≤ q1) (hne : q2 ≠ q1) :
    EachOk sb n gx gy 62 #[] #[.pointer (some ⟨q1, 0, none⟩), .pointer (some ⟨q2, 0, none⟩)] (fun _ => true) (SInv w0 q1 q2 p) V := by
  refine ⟨fun args w => by kernel_rfl, fun C a b hI _ hg => ?_, fun C L W to us kx ky _ _ hI hS hL hto => ?_⟩
  · exact ⟨hI.1.grown hg (by simp; omega), hI.2.1.grown hg (by simp; omega), hI.2.2.grown hg hI.2.2.size (fun k hk => by simp at hk; omega)⟩
  · clear kx ky
    have HI := Lib.hid hI
    have c0 := hI.1.cell 0
    have f0 := hI.1.frozen 0
    have hlt := hI.1.lt
    have c1 := hI.2.1.cell 0
    have hlt2 := hI.2.1.lt
    have hsb := hS.lt
    have p0 := hS.c_to (k := p) (by omega)
    rw [hto p hp] at p0
    have HN : Hid (cnL (fun L => nthI L p == (p : Int)) (C ++ [L]) = cnL (fun L => nthI L p == (p : Int)) C + (if (nthI L p == (p : Int)) = true then 1 else 0)) := cnL_one _ _ _
    have hn15 : p < 15 := by omega
    clear hI hS hto hsb
    generalize cnL (fun L => nthI L p == (p : Int)) C = N at *
    have HWA := Lib.hid (wcnt_add N (nthI L p == (p : Int)))
    go_enter Try.func62, Try.ntmps62
    go_wp2
    refine wp_region_still_tail 9 (by kernel_rfl) (by kernel_rfl) ?_
    simp only [List.take_succ_cons, List.take_zero, List.drop_succ_cons, List.drop_zero]
    repeat still_step
    still_call ((one_any _ _).mono fun _ _ h => ⟨h.1, h.2.symm⟩)
    repeat still_step
    try refine wpStill_nil ?_
    change wpList _ _ _ _ _ W.drew
    go_wp2
    all_goals go_ret
    all_goals (refine ⟨rfl, ⟨?_, Row.far (w := W) HI.out.2.1 (p := ⟨q1, 0, none⟩) (by simp; omega) _, ((HI.out.2.2.setCell (p := ⟨q1, 0, none⟩) hqw _).drew)⟩, by simp [World.setCell], Below.heap_setCell W ⟨q1, 0, none⟩ _ sb (show sb ≠ q1 by omega), Below.heap_setCell W ⟨q1, 0, none⟩ _ gx (show gx ≠ q1 by omega), Below.heap_setCell W ⟨q1, 0, none⟩ _ gy (show gy ≠ q1 by omega)⟩)
    · have h2 := HI.out.1.set 0 (.int .i64 (wrap64 (wcnt N + 1)))
      have h3 : cnL (fun L => nthI L p == (p : Int)) (C ++ [L]) = N + 1 := by have := HN.out; rw [if_pos (by simpa using ‹nthI L p = (p : Int)›)] at this; exact this
      rw [h3]
      exact h2
    · have h2 := HI.out.1.set 0 (.int .i64 (wrap64 (wcnt N)))
      have h3 : cnL (fun L => nthI L p == (p : Int)) (C ++ [L]) = N := by have := HN.out; rw [if_neg (by simpa using ‹¬nthI L p = (p : Int)›)] at this; exact this
      have h4 : wrap64 (wcnt N) = wcnt N := by
        cases N with
        | zero => rw [← wrap_is]; rfl
        | succ N => show wrap64 (wrap64 (wcnt N + 1)) = wrap64 (wcnt N + 1); rw [← wrap_is, ← wrap_is, wrap_twice]
      rw [h3]
      rw [h4] at h2 ⊢
      exact h2

theorem implStab_any (v : Int) (A : Option Addr) (c : Nat) (xs : List Blk) (p : Int) (w : World) (hA : Bl w A xs) (hl : xs.length ≤ 1048576) :
    Calls Try.prog 21 #[.agg #[.int .i64 v, .slice A xs.length c], .int .i64 p] w fun e w' => e = .returned (.tuple #[.int .i64 (stabR v xs p).1, .int .i64 (stabR v xs p).2]) ∧ Below w.heap.size w w' := by
  have HWW := Lib.hid (below_up (below_alloc w (.cells #[.int .i64 v, .slice A xs.length c] 30)) (below_alloc _ (.cells #[.int .i64 p] 2)))
  cases hs : isSysB v xs
  · have HN : Hid (stabR v xs p = (0, 1)) := by unfold Hid stabR; simp [hs]
    generalize stabR v xs p = R at *
    have HA := Lib.hid (hA.below HWW.out)
    clear hA
    go_enter Try.func21, Try.ntmps21
    go_wp2_with fail
    refine (IsSystem_any v A c xs _ HA.out hl).mono ?_
    rw [hs]
    rintro e w_ ⟨rfl, hb⟩
    have HW := Lib.hid (below_up HWW.out hb)
    clear hb
    go_wp2
    go_ret2
    exact ⟨by rw [HN.out]; rfl, HW.out⟩
  · have hsy := isSysB_iff.1 hs
    have hv := hsy.1
    have HS := Lib.hid hsy
    clear hsy
    have HA := Lib.hid (hA.below HWW.out)
    have HR := Lib.hid ((Row.box w 30 (.int .i64 v) (.slice A xs.length c)).below (below_alloc _ (.cells #[.int .i64 p] 2)))
    have HM := Lib.hid (Row.new (w.alloc (.cells #[.int .i64 v, .slice A xs.length c] 30)) 2 #[.int .i64 p])
    rw [World.size_alloc] at HM
    have HSY := Lib.hid hs
    clear hA
    by_cases hk : 0 ≤ p ∧ p ≤ v - 1
    · obtain ⟨n, rfl⟩ := Int.eq_ofNat_of_zero_le (by omega : 0 ≤ v)
      obtain ⟨q, rfl⟩ := Int.eq_ofNat_of_zero_le hk.1
      have hqn : q < n := by omega
      have HRR : Hid (stabR n xs q = (wcnt (cnL (fun L => nthI L q == (q : Int)) (autL (fun _ => true) n xs)), fcode n xs)) := by
        unfold Hid stabR autL fcode
        rw [if_pos hs, if_pos hk, if_pos hs]
        cases hf : fullB n xs
        · rw [if_neg (by simp), if_neg (by simp), if_neg (by decide)]; rfl
        · rw [if_pos rfl, if_pos rfl, if_pos rfl, runE_all (fun _ => rfl), List.nil_append]
          have h1 := lead_bd HS.out HS.out hf hf
          have h2 := cnL_le (fun L => nthI L q == (q : Int)) (leadL n xs xs)
          show (((cnL (fun L => nthI L q == (q : Int)) (leadL n xs xs) : Nat) : Int), (0 : Int)) = (wcnt (cnL (fun L => nthI L q == (q : Int)) (leadL n xs xs)), 0)
          rw [wcnt_is _ (by omega)]
      have HD := Lib.hid (decide_eq_true hk)
      generalize stabR n xs q = R at *
      clear hk
      go_enter Try.func21, Try.ntmps21
      go_wp2_with fail
      refine (IsSystem_any n A c xs _ HA.out hl).mono ?_
      rw [hs]
      rintro e w_ ⟨rfl, hb⟩
      have HW := Lib.hid (below_up HWW.out hb)
      replace HA := Lib.hid (HA.out.below hb); replace HR := Lib.hid (HR.out.below hb); replace HM := Lib.hid (HM.out.below hb)
      clear hb hs
      obtain ⟨c0, c1⟩ := HR.out.c2
      have c2 := HM.out.cell 0
      go_wp2_with fail
      refine (isPoint_any n A c xs.length q _ ⟨by omega, hv.2⟩).mono ?_
      rw [HD.out]
      rintro e w2 ⟨rfl, hb⟩
      replace HW := Lib.hid (below_up HW.out hb)
      replace HA := Lib.hid (HA.out.below hb); replace HR := Lib.hid (HR.out.below hb); replace HM := Lib.hid (HM.out.below hb)
      clear hb c0 c1 c2
      obtain ⟨c0, c1⟩ := HR.out.c2
      have hlt := HR.out.lt
      have hlm := HM.out.lt
      go_wp2_with fail
      have HAL := Lib.hid (below_alloc w2 (.cells #[.int .i64 0] 2))
      have HRN := Lib.hid (Row.new w2 2 #[.int .i64 0])
      have hws := HW.out.size
      refine (autos_any n A c xs 62 #[] #[.pointer (some ⟨w2.heap.size, 0, none⟩), .pointer (some ⟨w.heap.size + 1, 0, none⟩)] (fun _ => true) (SInv w w2.heap.size (w.heap.size + 1) q) _ (HA.out.below HAL.out) hl ⟨HRN.out, HM.out.below HAL.out, below_up HW.out HAL.out⟩ (fun a b h1 h2 _ => ⟨(h2.block _ (by simp)).trans h1.1, (h2.block _ (by simp; omega)).trans h1.2.1, h1.2.2.trans (h2.mono (by simp; omega))⟩) (fun _ _ sb gx gy h1 h2 h3 _ _ => stabCl_any sb _ gx gy _ _ _ _ (by simpa using hqn) (by simp; omega) w (by simp at h1; omega) (by simp at h2; omega) (by simp at h3; omega) (by simp at h1; omega) hws (by omega))).mono ?_
      rintro e w3 ⟨rfl, hI, hz⟩
      have HB := Lib.hid hI.2.2
      have d0 := hI.1.cell 0
      have hl1 := hI.1.lt
      clear hI hz
      go_wp2
      go_ret2
      exact ⟨by rw [HRR.out]; rfl, HB.out⟩
    · have HN : Hid (stabR v xs p = (0, 2)) := by unfold Hid stabR; rw [if_pos hs, if_neg hk]
      have HD := Lib.hid (decide_eq_false hk)
      generalize stabR v xs p = R at *
      clear hk
      go_enter Try.func21, Try.ntmps21
      go_wp2_with fail
      refine (IsSystem_any v A c xs _ HA.out hl).mono ?_
      rw [hs]
      rintro e w_ ⟨rfl, hb⟩
      have HW := Lib.hid (below_up HWW.out hb)
      replace HR := Lib.hid (HR.out.below hb); replace HM := Lib.hid (HM.out.below hb)
      clear hb hs
      obtain ⟨c0, c1⟩ := HR.out.c2
      have c2 := HM.out.cell 0
      go_wp2_with fail
      refine (isPoint_any v A c xs.length p _ ⟨by omega, hv.2⟩).mono ?_
      rw [HD.out]
      rintro e w2 ⟨rfl, hb⟩
      replace HW := Lib.hid (below_up HW.out hb)
      clear hb c0 c1 c2
      go_wp2
      go_ret2
      exact ⟨by rw [HN.out]; rfl, HW.out⟩

end Go.Proofs.Ytgbkonnmjmlalaa

/- Contracts of the search for a renumbering of one system to another one; conditions: stated in each. -/
namespace Go.Proofs.Ytgbkonnmjmlalaa
open Go.RowKit
set_option maxHeartbeats 1000000
set_option maxRecDepth 100000
set_option linter.unusedSimpArgs false
set_option linter.unusedVariables false

theorem codeP_two (v : Int) (xs : List Blk) (u : Int) (ys : List Blk) : codeP [(v, xs), (u, ys)] = code2 v xs u ys := by
  have key : ∀ P : Int → List Blk → Prop, (∀ k, k < [(v, xs), (u, ys)].length → P (nthP [(v, xs), (u, ys)] k).1 (nthP [(v, xs), (u, ys)] k).2) ↔ (P v xs ∧ P u ys) := by
    intro P
    constructor
    · intro h; exact ⟨h 0 (by simp), h 1 (by simp)⟩
    · rintro ⟨h0, h1⟩ k hk
      simp at hk
      have : k = 0 ∨ k = 1 := by omega
      rcases this with rfl | rfl
      · exact h0
      · exact h1
  have h1 : (sysAll [(v, xs), (u, ys)] = true) ↔ (isSysB v xs = true ∧ isSysB u ys = true) := by
    rw [sysAll_iff]; exact key fun v xs => isSysB v xs = true
  have h2 : (fullAll [(v, xs), (u, ys)] = true) ↔ (fullB v xs = true ∧ fullB u ys = true) := by
    rw [fullAll_iff]; exact key fun v xs => fullB v xs = true
  unfold codeP code2
  simp only [h1, h2]
theorem code_two (v : Int) (A : Option Addr) (c : Nat) (xs : List Blk) (u : Int) (B : Option Addr) (d : Nat) (ys : List Blk) (W : World) (g : Nat) (hg : W.heap.size = g) (hA : Bl W A xs) (hl : xs.length ≤ 1048576) (hB : Bl W B ys) (hlb : ys.length ≤ 1048576) :
    Calls Try.prog 51 #[.slice (some ⟨g, 0, none⟩) 2 2] (W.alloc (.cells #[.int .i64 v, .slice A xs.length c, .int .i64 u, .slice B ys.length d] 30)) fun e w' => e = .returned (.int .i64 (code2 v xs u ys)) ∧ Below W.heap.size W w' := by
  subst hg
  have hx : ∀ k, k < [(v, xs), (u, ys)].length → (nthP [(v, xs), (u, ys)] k).2.length ≤ 1048576 := by
    intro k hk
    simp at hk
    have : k = 0 ∨ k = 1 := by omega
    rcases this with rfl | rfl
    · exact hl
    · exact hlb
  have h := l06Code_any (some ⟨W.heap.size, 0, none⟩) 2 [(v, xs), (u, ys)] _ (sl_two W v A c xs u B d ys 30 hA hB) (by simp) hx
  rw [codeP_two] at h
  exact h.mono fun e w' ⟨h1, h2⟩ => ⟨h1, below_up (below_alloc _ _) h2⟩

theorem specFind_any (v : Int) (A : Option Addr) (c : Nat) (xs : List Blk) (u : Int) (B : Option Addr) (d : Nat) (ys : List Blk) (w : World) (hA : Bl w A xs) (hl : xs.length ≤ 1048576) (hB : Bl w B ys) (hlb : ys.length ≤ 1048576) :
    Calls Try.prog 24 #[.agg #[.int .i64 v, .slice A xs.length c], .agg #[.int .i64 u, .slice B ys.length d]] w (LP w (findR v xs u ys).1 (findR v xs u ys).2) := by
  have HN0 : Hid (findR v xs u ys = if code2 v xs u ys = 0 then (if v = u ∧ leadL v.toNat xs ys ≠ [] then (fstL (leadL v.toNat xs ys), 0) else ([], 4)) else ([], code2 v xs u ys)) := rfl
  generalize findR v xs u ys = R at *
  by_cases hc : code2 v xs u ys = 0
  · obtain ⟨⟨k1, k2⟩, k3, k4⟩ := code2_zero hc
    have hs := isSysB_iff.1 k1
    have ht := isSysB_iff.1 k2
    have HC := Lib.hid hc
    by_cases hvu : v = u
    · subst hvu
      have hv := hs.1
      obtain ⟨n, rfl⟩ := Int.eq_ofNat_of_zero_le (by omega : 0 ≤ v)
      have HS := Lib.hid hs; have HT := Lib.hid ht; have HF := Lib.hid k3; have HG := Lib.hid k4
      have HBT := Lib.hid (btw_false n xs ys 1)
      have HN : Hid (R = if leadL n xs ys ≠ [] then (fstL (leadL n xs ys), 0) else ([], 4)) := by
        unfold Hid; rw [HN0.out, if_pos hc]
        simp only [Int.toNat_natCast, true_and]
      clear hc k1 k2 k3 k4 hs ht HN0
      have HW := Lib.hid (below_up (below_alloc w (.cells #[.int .i64 n, .slice A xs.length c] 30)) (below_alloc _ (.cells #[.int .i64 n, .slice B ys.length d] 30))); have HA := Lib.hid (hA.below HW.out); have HB := Lib.hid (hB.below HW.out); clear hA hB; have HR := Lib.hid ((Row.box w 30 (.int .i64 n) (.slice A xs.length c)).below (below_alloc _ (.cells #[.int .i64 n, .slice B ys.length d] 30))); have HQ := Lib.hid (Row.box (w.alloc (.cells #[.int .i64 n, .slice A xs.length c] 30)) 30 (.int .i64 n) (.slice B ys.length d)); rw [World.size_alloc] at HQ; replace HW : Hid (Since w _) := HW; go_enter Try.func24, Try.ntmps24; go_wp2_with fail
      refine (code_two n A c xs n B d ys _ _ (by simp) HA.out hl HB.out hlb).mono ?_
      rw [HC.out]
      rintro e w1 ⟨rfl, hb⟩
      replace HA := Lib.hid (HA.out.below hb); replace HB := Lib.hid (HB.out.below hb); replace HW := Lib.hid (HW.out.below hb); replace HR := Lib.hid (HR.out.below hb); replace HQ := Lib.hid (HQ.out.below hb); clear hb; (try clear c0 c1); obtain ⟨c0, c1⟩ := HR.out.c2; (try clear d0 d1); obtain ⟨d0, d1⟩ := HQ.out.c2
      go_wp2_with fail
      refine (l06Between_any n A c xs B d ys 1 false _ HA.out hl HB.out hlb HS.out HT.out HF.out HG.out (by omega) (by omega)).mono ?_
      rintro r w3 ⟨u3, rfl, hL, hb⟩
      rw [HBT.out] at hL
      obtain ⟨B3, d3, rfl⟩ := hL.slice
      have HL := Lib.hid (LLq.base hL HW.out.size)
      have HW3 := Lib.hid (HW.out.below hb)
      clear hL hb c0 c1 d0 d1
      rcases hfl : leadL n xs ys with _ | ⟨L, Ls⟩
      · rw [hfl] at HL HN
        have HN2 : Hid (R = ([], 4)) := by unfold Hid; rw [HN.out, if_neg (by simp)]
        have e0 : (List.take 1 ([] : List (List Int))).length = 0 := rfl
        rw [e0]
        clear e0 hfl
        go_wp2
        go_ret2
        exact LP.nil (by rw [HN2.out]) (by rw [HN2.out]) HW3.out
      · rw [hfl] at HL HN
        have HN2 : Hid (R = (L, 0)) := by unfold Hid; rw [HN.out, if_pos (by simp)]; rfl
        obtain ⟨g, r, hB, hg, hcell, hR⟩ := HL.out.at_ (k := 0) (by simp)
        subst hB
        have e1 : nthLL (List.take 1 (L :: Ls)) 0 = L := rfl
        rw [e1] at hR
        obtain ⟨C, f, rfl⟩ := own_slice hR
        have HR2 := Lib.hid hR
        have e0 : (List.take 1 (L :: Ls)).length = 1 := rfl
        rw [e0]
        clear e0 e1 hR hfl
        go_wp2
        go_ret2
        exact LP.mk HR2.out (by rw [HN2.out]) (by rw [HN2.out]) HW3.out
    · have hvu' : (v != u) = true := by simpa using hvu
      have HN : Hid (R = ([], 4)) := by
        unfold Hid; rw [HN0.out, if_pos hc, if_neg (fun h => hvu h.1)]
      clear hc k1 k2 k3 k4 hs ht HN0
      have HW := Lib.hid (below_up (below_alloc w (.cells #[.int .i64 v, .slice A xs.length c] 30)) (below_alloc _ (.cells #[.int .i64 u, .slice B ys.length d] 30))); have HA := Lib.hid (hA.below HW.out); have HB := Lib.hid (hB.below HW.out); clear hA hB; have HR := Lib.hid ((Row.box w 30 (.int .i64 v) (.slice A xs.length c)).below (below_alloc _ (.cells #[.int .i64 u, .slice B ys.length d] 30))); have HQ := Lib.hid (Row.box (w.alloc (.cells #[.int .i64 v, .slice A xs.length c] 30)) 30 (.int .i64 u) (.slice B ys.length d)); rw [World.size_alloc] at HQ; replace HW : Hid (Since w _) := HW; go_enter Try.func24, Try.ntmps24; go_wp2_with fail
      refine (code_two v A c xs u B d ys _ _ (by simp) HA.out hl HB.out hlb).mono ?_
      rw [HC.out]
      rintro e w1 ⟨rfl, hb⟩
      replace HA := Lib.hid (HA.out.below hb); replace HB := Lib.hid (HB.out.below hb); replace HW := Lib.hid (HW.out.below hb); replace HR := Lib.hid (HR.out.below hb); replace HQ := Lib.hid (HQ.out.below hb); clear hb; (try clear c0 c1); obtain ⟨c0, c1⟩ := HR.out.c2; (try clear d0 d1); obtain ⟨d0, d1⟩ := HQ.out.c2
      go_wp2
      go_ret2
      exact LP.nil (by rw [HN.out]) (by rw [HN.out]) HW.out
  · have hne : (code2 v xs u ys != 0) = true := by simpa using hc
    have HN : Hid (R = ([], code2 v xs u ys)) := by unfold Hid; rw [HN0.out, if_neg hc]
    clear HN0 hc
    have HW := Lib.hid (below_up (below_alloc w (.cells #[.int .i64 v, .slice A xs.length c] 30)) (below_alloc _ (.cells #[.int .i64 u, .slice B ys.length d] 30))); have HA := Lib.hid (hA.below HW.out); have HB := Lib.hid (hB.below HW.out); clear hA hB; have HR := Lib.hid ((Row.box w 30 (.int .i64 v) (.slice A xs.length c)).below (below_alloc _ (.cells #[.int .i64 u, .slice B ys.length d] 30))); have HQ := Lib.hid (Row.box (w.alloc (.cells #[.int .i64 v, .slice A xs.length c] 30)) 30 (.int .i64 u) (.slice B ys.length d)); rw [World.size_alloc] at HQ; replace HW : Hid (Since w _) := HW; go_enter Try.func24, Try.ntmps24; go_wp2_with fail
    refine (code_two v A c xs u B d ys _ _ (by simp) HA.out hl HB.out hlb).mono ?_
    rintro e w1 ⟨rfl, hb⟩
    replace HA := Lib.hid (HA.out.below hb); replace HB := Lib.hid (HB.out.below hb); replace HW := Lib.hid (HW.out.below hb); replace HR := Lib.hid (HR.out.below hb); replace HQ := Lib.hid (HQ.out.below hb); clear hb; (try clear c0 c1); obtain ⟨c0, c1⟩ := HR.out.c2; (try clear d0 d1); obtain ⟨d0, d1⟩ := HQ.out.c2
    go_wp2
    go_ret2
    exact LP.nil (by rw [HN.out]) (by rw [HN.out]) HW.out

theorem specIso_any (v : Int) (A : Option Addr) (c : Nat) (xs : List Blk) (u : Int) (B : Option Addr) (d : Nat) (ys : List Blk) (w : World) (hA : Bl w A xs) (hl : xs.length ≤ 1048576) (hB : Bl w B ys) (hlb : ys.length ≤ 1048576) :
    Calls Try.prog 22 #[.agg #[.int .i64 v, .slice A xs.length c], .agg #[.int .i64 u, .slice B ys.length d]] w fun e w' => e = .returned (.tuple #[.bool (isoR v xs u ys).1, .int .i64 (isoR v xs u ys).2]) ∧ Below w.heap.size w w' := by
  have HN0 : Hid (isoR v xs u ys = if code2 v xs u ys = 0 then (if v = u ∧ leadL v.toNat xs ys ≠ [] then (true, 0) else (false, 0)) else (false, code2 v xs u ys)) := rfl
  generalize isoR v xs u ys = R at *
  by_cases hc : code2 v xs u ys = 0
  · obtain ⟨⟨k1, k2⟩, k3, k4⟩ := code2_zero hc
    have hs := isSysB_iff.1 k1
    have ht := isSysB_iff.1 k2
    have HC := Lib.hid hc
    by_cases hvu : v = u
    · subst hvu
      have hv := hs.1
      obtain ⟨n, rfl⟩ := Int.eq_ofNat_of_zero_le (by omega : 0 ≤ v)
      have HS := Lib.hid hs; have HT := Lib.hid ht; have HF := Lib.hid k3; have HG := Lib.hid k4
      have HBT := Lib.hid (btw_false n xs ys 1)
      have HN : Hid (R = if leadL n xs ys ≠ [] then (true, 0) else (false, 0)) := by
        unfold Hid; rw [HN0.out, if_pos hc]
        simp only [Int.toNat_natCast, true_and]
      clear hc k1 k2 k3 k4 hs ht HN0
      have HW := Lib.hid (below_up (below_alloc w (.cells #[.int .i64 n, .slice A xs.length c] 30)) (below_alloc _ (.cells #[.int .i64 n, .slice B ys.length d] 30))); have HA := Lib.hid (hA.below HW.out); have HB := Lib.hid (hB.below HW.out); clear hA hB; have HR := Lib.hid ((Row.box w 30 (.int .i64 n) (.slice A xs.length c)).below (below_alloc _ (.cells #[.int .i64 n, .slice B ys.length d] 30))); have HQ := Lib.hid (Row.box (w.alloc (.cells #[.int .i64 n, .slice A xs.length c] 30)) 30 (.int .i64 n) (.slice B ys.length d)); rw [World.size_alloc] at HQ; replace HW : Hid (Since w _) := HW; go_enter Try.func22, Try.ntmps22; go_wp2_with fail
      refine (code_two n A c xs n B d ys _ _ (by simp) HA.out hl HB.out hlb).mono ?_
      rw [HC.out]
      rintro e w1 ⟨rfl, hb⟩
      replace HA := Lib.hid (HA.out.below hb); replace HB := Lib.hid (HB.out.below hb); replace HW := Lib.hid (HW.out.below hb); replace HR := Lib.hid (HR.out.below hb); replace HQ := Lib.hid (HQ.out.below hb); clear hb; (try clear c0 c1); obtain ⟨c0, c1⟩ := HR.out.c2; (try clear d0 d1); obtain ⟨d0, d1⟩ := HQ.out.c2
      go_wp2_with fail
      refine (l06Between_any n A c xs B d ys 1 false _ HA.out hl HB.out hlb HS.out HT.out HF.out HG.out (by omega) (by omega)).mono ?_
      rintro r w3 ⟨u3, rfl, hL, hb⟩
      rw [HBT.out] at hL
      obtain ⟨B3, d3, rfl⟩ := hL.slice
      have HL := Lib.hid (LLq.base hL HW.out.size)
      have HW3 := Lib.hid (HW.out.below hb)
      clear hL hb c0 c1 d0 d1
      rcases hfl : leadL n xs ys with _ | ⟨L, Ls⟩
      · rw [hfl] at HL HN
        have HN2 : Hid (R = (false, 0)) := by unfold Hid; rw [HN.out, if_neg (by simp)]
        have e0 : (List.take 1 ([] : List (List Int))).length = 0 := rfl
        rw [e0]
        clear e0 hfl
        go_wp2
        go_ret2
        exact ⟨by rw [HN2.out]; rfl, HW3.out⟩
      · rw [hfl] at HL HN
        have HN2 : Hid (R = (true, 0)) := by unfold Hid; rw [HN.out, if_pos (by simp)]
        have e0 : (List.take 1 (L :: Ls)).length = 1 := rfl
        rw [e0]
        clear e0 hfl
        go_wp2
        go_ret2
        exact ⟨by rw [HN2.out]; rfl, HW3.out⟩
    · have hvu' : (v != u) = true := by simpa using hvu
      have hvu2 : (v == u) = false := by simpa using hvu
      have HN : Hid (R = (false, 0)) := by
        unfold Hid; rw [HN0.out, if_pos hc, if_neg (fun h => hvu h.1)]
      clear hc k1 k2 k3 k4 hs ht HN0
      have HW := Lib.hid (below_up (below_alloc w (.cells #[.int .i64 v, .slice A xs.length c] 30)) (below_alloc _ (.cells #[.int .i64 u, .slice B ys.length d] 30))); have HA := Lib.hid (hA.below HW.out); have HB := Lib.hid (hB.below HW.out); clear hA hB; have HR := Lib.hid ((Row.box w 30 (.int .i64 v) (.slice A xs.length c)).below (below_alloc _ (.cells #[.int .i64 u, .slice B ys.length d] 30))); have HQ := Lib.hid (Row.box (w.alloc (.cells #[.int .i64 v, .slice A xs.length c] 30)) 30 (.int .i64 u) (.slice B ys.length d)); rw [World.size_alloc] at HQ; replace HW : Hid (Since w _) := HW; go_enter Try.func22, Try.ntmps22; go_wp2_with fail
      refine (code_two v A c xs u B d ys _ _ (by simp) HA.out hl HB.out hlb).mono ?_
      rw [HC.out]
      rintro e w1 ⟨rfl, hb⟩
      replace HA := Lib.hid (HA.out.below hb); replace HB := Lib.hid (HB.out.below hb); replace HW := Lib.hid (HW.out.below hb); replace HR := Lib.hid (HR.out.below hb); replace HQ := Lib.hid (HQ.out.below hb); clear hb; (try clear c0 c1); obtain ⟨c0, c1⟩ := HR.out.c2; (try clear d0 d1); obtain ⟨d0, d1⟩ := HQ.out.c2
      go_wp2
      go_ret2
      exact ⟨by rw [HN.out]; rfl, HW.out⟩
  · have hne : (code2 v xs u ys != 0) = true := by simpa using hc
    have HN : Hid (R = (false, code2 v xs u ys)) := by unfold Hid; rw [HN0.out, if_neg hc]
    clear HN0 hc
    have HW := Lib.hid (below_up (below_alloc w (.cells #[.int .i64 v, .slice A xs.length c] 30)) (below_alloc _ (.cells #[.int .i64 u, .slice B ys.length d] 30))); have HA := Lib.hid (hA.below HW.out); have HB := Lib.hid (hB.below HW.out); clear hA hB; have HR := Lib.hid ((Row.box w 30 (.int .i64 v) (.slice A xs.length c)).below (below_alloc _ (.cells #[.int .i64 u, .slice B ys.length d] 30))); have HQ := Lib.hid (Row.box (w.alloc (.cells #[.int .i64 v, .slice A xs.length c] 30)) 30 (.int .i64 u) (.slice B ys.length d)); rw [World.size_alloc] at HQ; replace HW : Hid (Since w _) := HW; go_enter Try.func22, Try.ntmps22; go_wp2_with fail
    refine (code_two v A c xs u B d ys _ _ (by simp) HA.out hl HB.out hlb).mono ?_
    rintro e w1 ⟨rfl, hb⟩
    replace HA := Lib.hid (HA.out.below hb); replace HB := Lib.hid (HB.out.below hb); replace HW := Lib.hid (HW.out.below hb); replace HR := Lib.hid (HR.out.below hb); replace HQ := Lib.hid (HQ.out.below hb); clear hb; (try clear c0 c1); obtain ⟨c0, c1⟩ := HR.out.c2; (try clear d0 d1); obtain ⟨d0, d1⟩ := HQ.out.c2
    go_wp2
    go_ret2
    exact ⟨by rw [HN.out]; rfl, HW.out⟩

end Go.Proofs.Ytgbkonnmjmlalaa

/- Contracts of the program's search for a renumbering of one system to another one; conditions: stated in each. -/
namespace Go.Proofs.Ytgbkonnmjmlalaa
open Go.RowKit
set_option maxHeartbeats 1000000
set_option maxRecDepth 100000
set_option linter.unusedSimpArgs false
set_option linter.unusedVariables false

/-- the last list in its box -/
def FInv (w0 : World) (q n : Nat) (C : List (List Int)) (a : World) : Prop :=
  ∃ u, Row a q 39 #[u] ∧ Ro a w0.heap.size u (C.getLastD []) ∧ Below w0.heap.size w0 a ∧ (C = [] → u = .slice none 0 0)
theorem findCl_any (sb n gx gy q : Nat) (V : List Int → Prop) (hn : 0 < n) (h15 : n ≤ 15) (w0 : World) (hq : q < sb) (hqx : q < gx) (hqy : q < gy) (hqw : w0.heap.size ≤ q) : EachOk sb n gx gy 103 #[] #[.pointer (some ⟨q, 0, none⟩)] (fun _ => false) (FInv w0 q n) V := by
  refine ⟨fun args w => by kernel_rfl, fun C a b hI hT hg => ?_, fun C L W to us kgx kgy hV _ hI hS hL hto => ?_⟩
  · obtain ⟨u, h1, h2, h3, h5⟩ := hI
    exact ⟨u, h1.grown hg (by simp; omega), h2.grown hg (fun b e e2 => h2.typed hT (by rw [e]; exact e2.symm ▸ rfl)), h3.grown hg h3.size (fun k hk => by simp at hk; omega), h5⟩
  · have hgx : gx < W.heap.size := by obtain ⟨G, h⟩ := kgx; exact h.lt
    have hgy : gy < W.heap.size := by obtain ⟨G, h⟩ := kgy; exact h.lt
    clear kgx kgy
    obtain ⟨u, h1, h2, h3, h5⟩ := hI
    have HR := Lib.hid h1; have HB := Lib.hid h3
    have HIL := Lib.hid (hS.il (L := L) (by omega) (fun k hk => hto k (by omega)))
    have hsb := hS.lt
    have HXYZ := Lib.hid (And.intro hsb (And.intro hgx hgy))
    have hlt := h1.lt
    have c0 := h1.cell 0
    have f0 := h1.frozen 0
    clear h1 h2 h3 h5 hS hV hto hgx hgy hsb
    subst hL
    go_enter Try.func103, Try.ntmps103
    go_wp2_with fail
    refine (cloneIl_any (some ⟨sb, 3, none⟩) 15 L _ HIL.out hn (by omega)).mono ?_
    rintro e w1 ⟨r, rfl, hr, hb⟩
    obtain ⟨A2, d2, rfl⟩ := own_slice hr
    have HRO := Lib.hid hr; have HB1 := Lib.hid hb
    have HR1 := Lib.hid (HR.out.below hb)
    clear c0 f0 hr hb
    have c0 := HR1.out.cell 0
    have f0 := HR1.out.frozen 0
    have hlt1 := HR1.out.lt
    have HQ : Hid (∀ b, (Value.slice A2 L.length d2).ownBlock = some b → some q ≠ some b) := fun b e e2 => by
      have := (HRO.out.lt b e).1
      simp only [Option.some.injEq] at e2; omega
    go_wp2
    go_ret
    have hg := grown_set (grown_refl w1 (some q)) 0 (.slice A2 L.length d2)
    refine ⟨rfl, ⟨_, HR1.out.set 0 _, ?_, (HB.out.trans (HB1.out.mono HB.out.size)).setCell (p := ⟨q, 0, none⟩) hqw _, fun h => by simp at h⟩, ?_, ?_, ?_, ?_⟩
    · have e : (C ++ [L]).getLastD [] = L := by simp
      rw [e]; exact (show Ro w1 w0.heap.size (.slice A2 L.length d2) L from own_base HRO.out HB.out.size).grown hg HQ.out
    · have := HB1.out.size; simpa [World.setCell] using this
    · exact (Below.heap_setCell _ _ _ _ (by simp; omega)).trans (HB1.out.block _ HXYZ.out.1)
    · exact (Below.heap_setCell _ _ _ _ (by simp; omega)).trans (HB1.out.block _ HXYZ.out.2.1)
    · exact (Below.heap_setCell _ _ _ _ (by simp; omega)).trans (HB1.out.block _ HXYZ.out.2.2)

theorem findN_any (v : Int) (A : Option Addr) (c : Nat) (xs : List Blk) (u : Int) (B : Option Addr) (d : Nat) (ys : List Blk) (w : World) (hA : Bl w A xs) (hB : Bl w B ys) (hl : xs.length ≤ 1048576) (hlb : ys.length ≤ 1048576) :
    Calls Try.prog 65 #[.agg #[.int .i64 v, .slice A xs.length c], .agg #[.int .i64 u, .slice B ys.length d]] w (LP w (findR v xs u ys).1 (findR v xs u ys).2) := by
  have HN0 : Hid (findR v xs u ys = if code2 v xs u ys = 0 then (if v = u ∧ leadL v.toNat xs ys ≠ [] then (fstL (leadL v.toNat xs ys), 0) else ([], 4)) else ([], code2 v xs u ys)) := rfl
  have HCD : Hid (code2 v xs u ys = if isSysB v xs = true ∧ isSysB u ys = true then (if fullB v xs = true ∧ fullB u ys = true then 0 else 5) else 1) := rfl
  generalize findR v xs u ys = R at *
  cases hs : isSysB v xs
  · have HN : Hid (R = ([], 1)) := by unfold Hid; rw [HN0.out, HCD.out, hs]; simp
    clear HN0 HCD
    have HW := Lib.hid (below_up (below_alloc w (.cells #[.int .i64 v, .slice A xs.length c] 30)) (below_alloc _ (.cells #[.int .i64 u, .slice B ys.length d] 30))); have HA := Lib.hid (hA.below HW.out); have HB := Lib.hid (hB.below HW.out); clear hA hB; have HR := Lib.hid ((Row.box w 30 (.int .i64 v) (.slice A xs.length c)).below (below_alloc _ (.cells #[.int .i64 u, .slice B ys.length d] 30))); have HQ := Lib.hid (Row.box (w.alloc (.cells #[.int .i64 v, .slice A xs.length c] 30)) 30 (.int .i64 u) (.slice B ys.length d)); rw [World.size_alloc] at HQ; replace HW : Hid (Since w _) := HW; go_enter Try.func65, Try.ntmps65; go_wp2_with fail
    refine (IsSystem_any v A c xs _ HA.out hl).mono ?_; rw [hs]; rintro e w_ ⟨rfl, hb⟩; replace HW := Lib.hid (HW.out.below hb); clear hb
    go_wp2
    go_ret2
    exact LP.nil (by rw [HN.out]) (by rw [HN.out]) HW.out
  · cases ht : isSysB u ys
    · have HN : Hid (R = ([], 1)) := by unfold Hid; rw [HN0.out, HCD.out, ht]; simp
      clear HN0 HCD
      have HW := Lib.hid (below_up (below_alloc w (.cells #[.int .i64 v, .slice A xs.length c] 30)) (below_alloc _ (.cells #[.int .i64 u, .slice B ys.length d] 30))); have HA := Lib.hid (hA.below HW.out); have HB := Lib.hid (hB.below HW.out); clear hA hB; have HR := Lib.hid ((Row.box w 30 (.int .i64 v) (.slice A xs.length c)).below (below_alloc _ (.cells #[.int .i64 u, .slice B ys.length d] 30))); have HQ := Lib.hid (Row.box (w.alloc (.cells #[.int .i64 v, .slice A xs.length c] 30)) 30 (.int .i64 u) (.slice B ys.length d)); rw [World.size_alloc] at HQ; replace HW : Hid (Since w _) := HW; go_enter Try.func65, Try.ntmps65; go_wp2_with fail
      refine (IsSystem_any v A c xs _ HA.out hl).mono ?_; rw [hs]; rintro e w_ ⟨rfl, hb⟩; replace HB := Lib.hid (HB.out.below hb); replace HW := Lib.hid (HW.out.below hb); replace HR := Lib.hid (HR.out.below hb); replace HQ := Lib.hid (HQ.out.below hb); clear hb; (try clear c0 c1); obtain ⟨c0, c1⟩ := HR.out.c2; (try clear d0 d1); obtain ⟨d0, d1⟩ := HQ.out.c2
      go_wp2_with fail
      refine (IsSystem_any u B d ys _ HB.out hlb).mono ?_; rw [ht]; rintro e w_ ⟨rfl, hb⟩; replace HW := Lib.hid (HW.out.below hb); clear hb
      go_wp2
      go_ret2
      exact LP.nil (by rw [HN.out]) (by rw [HN.out]) HW.out
    · have HS := Lib.hid (isSysB_iff.1 hs); have HT := Lib.hid (isSysB_iff.1 ht)
      have hv := HS.out.1; have hu := HT.out.1
      cases hf : fullB v xs
      · have HN : Hid (R = ([], 5)) := by unfold Hid; rw [HN0.out, HCD.out, hs, ht, hf]; simp
        clear HN0 HCD
        have HW := Lib.hid (below_up (below_alloc w (.cells #[.int .i64 v, .slice A xs.length c] 30)) (below_alloc _ (.cells #[.int .i64 u, .slice B ys.length d] 30))); have HA := Lib.hid (hA.below HW.out); have HB := Lib.hid (hB.below HW.out); clear hA hB; have HR := Lib.hid ((Row.box w 30 (.int .i64 v) (.slice A xs.length c)).below (below_alloc _ (.cells #[.int .i64 u, .slice B ys.length d] 30))); have HQ := Lib.hid (Row.box (w.alloc (.cells #[.int .i64 v, .slice A xs.length c] 30)) 30 (.int .i64 u) (.slice B ys.length d)); rw [World.size_alloc] at HQ; replace HW : Hid (Since w _) := HW; go_enter Try.func65, Try.ntmps65; go_wp2_with fail
        refine (IsSystem_any v A c xs _ HA.out hl).mono ?_; rw [hs]; rintro e w_ ⟨rfl, hb⟩; replace HA := Lib.hid (HA.out.below hb); replace HB := Lib.hid (HB.out.below hb); replace HW := Lib.hid (HW.out.below hb); replace HR := Lib.hid (HR.out.below hb); replace HQ := Lib.hid (HQ.out.below hb); clear hb; (try clear c0 c1); obtain ⟨c0, c1⟩ := HR.out.c2; (try clear d0 d1); obtain ⟨d0, d1⟩ := HQ.out.c2
        go_wp2_with fail
        refine (IsSystem_any u B d ys _ HB.out hlb).mono ?_; rw [ht]; rintro e w_ ⟨rfl, hb⟩; replace HA := Lib.hid (HA.out.below hb); replace HB := Lib.hid (HB.out.below hb); replace HW := Lib.hid (HW.out.below hb); replace HR := Lib.hid (HR.out.below hb); replace HQ := Lib.hid (HQ.out.below hb); clear hb; (try clear c0 c1); obtain ⟨c0, c1⟩ := HR.out.c2; (try clear d0 d1); obtain ⟨d0, d1⟩ := HQ.out.c2
        go_wp2_with fail
        refine (isFull_any v A c xs _ hl ⟨by omega, hv.2⟩).mono ?_; rw [hf]; rintro e w_ ⟨rfl, hb⟩; replace HW := Lib.hid (HW.out.below hb); clear hb
        go_wp2
        go_ret2
        exact LP.nil (by rw [HN.out]) (by rw [HN.out]) HW.out
      · cases hg : fullB u ys
        · have HN : Hid (R = ([], 5)) := by unfold Hid; rw [HN0.out, HCD.out, hs, ht, hg]; simp
          clear HN0 HCD
          have HW := Lib.hid (below_up (below_alloc w (.cells #[.int .i64 v, .slice A xs.length c] 30)) (below_alloc _ (.cells #[.int .i64 u, .slice B ys.length d] 30))); have HA := Lib.hid (hA.below HW.out); have HB := Lib.hid (hB.below HW.out); clear hA hB; have HR := Lib.hid ((Row.box w 30 (.int .i64 v) (.slice A xs.length c)).below (below_alloc _ (.cells #[.int .i64 u, .slice B ys.length d] 30))); have HQ := Lib.hid (Row.box (w.alloc (.cells #[.int .i64 v, .slice A xs.length c] 30)) 30 (.int .i64 u) (.slice B ys.length d)); rw [World.size_alloc] at HQ; replace HW : Hid (Since w _) := HW; go_enter Try.func65, Try.ntmps65; go_wp2_with fail
          refine (IsSystem_any v A c xs _ HA.out hl).mono ?_; rw [hs]; rintro e w_ ⟨rfl, hb⟩; replace HA := Lib.hid (HA.out.below hb); replace HB := Lib.hid (HB.out.below hb); replace HW := Lib.hid (HW.out.below hb); replace HR := Lib.hid (HR.out.below hb); replace HQ := Lib.hid (HQ.out.below hb); clear hb; (try clear c0 c1); obtain ⟨c0, c1⟩ := HR.out.c2; (try clear d0 d1); obtain ⟨d0, d1⟩ := HQ.out.c2
          go_wp2_with fail
          refine (IsSystem_any u B d ys _ HB.out hlb).mono ?_; rw [ht]; rintro e w_ ⟨rfl, hb⟩; replace HA := Lib.hid (HA.out.below hb); replace HB := Lib.hid (HB.out.below hb); replace HW := Lib.hid (HW.out.below hb); replace HR := Lib.hid (HR.out.below hb); replace HQ := Lib.hid (HQ.out.below hb); clear hb; (try clear c0 c1); obtain ⟨c0, c1⟩ := HR.out.c2; (try clear d0 d1); obtain ⟨d0, d1⟩ := HQ.out.c2
          go_wp2_with fail
          refine (isFull_any v A c xs _ hl ⟨by omega, hv.2⟩).mono ?_; rw [hf]; rintro e w_ ⟨rfl, hb⟩; replace HA := Lib.hid (HA.out.below hb); replace HB := Lib.hid (HB.out.below hb); replace HW := Lib.hid (HW.out.below hb); replace HR := Lib.hid (HR.out.below hb); replace HQ := Lib.hid (HQ.out.below hb); clear hb; (try clear c0 c1); obtain ⟨c0, c1⟩ := HR.out.c2; (try clear d0 d1); obtain ⟨d0, d1⟩ := HQ.out.c2
          go_wp2_with fail
          refine (isFull_any u B d ys _ hlb ⟨by omega, hu.2⟩).mono ?_; rw [hg]; rintro e w_ ⟨rfl, hb⟩; replace HW := Lib.hid (HW.out.below hb); clear hb
          go_wp2
          go_ret2
          exact LP.nil (by rw [HN.out]) (by rw [HN.out]) HW.out
        · have HC : Hid (code2 v xs u ys = 0) := by unfold Hid; rw [HCD.out, hs, ht, hf, hg]; rfl
          by_cases hvu : v = u
          · subst hvu
            obtain ⟨n, rfl⟩ := Int.eq_ofNat_of_zero_le (by omega : 0 ≤ v)
            have HF := Lib.hid hf; have HG := Lib.hid hg
            have HN : Hid (R = if leadL n xs ys ≠ [] then (fstL (leadL n xs ys), 0) else ([], 4)) := by
              unfold Hid; rw [HN0.out, if_pos HC.out]
              simp only [Int.toNat_natCast, true_and]
            have HONE : Hid ((runE (fun _ => false) (leadL n xs ys) []).1 = (leadL n xs ys).take 1) := runE_one _
            clear HN0 HCD hu
            have HW := Lib.hid (below_up (below_alloc w (.cells #[.int .i64 n, .slice A xs.length c] 30)) (below_alloc _ (.cells #[.int .i64 n, .slice B ys.length d] 30))); have HA := Lib.hid (hA.below HW.out); have HB := Lib.hid (hB.below HW.out); clear hA hB; have HR := Lib.hid ((Row.box w 30 (.int .i64 n) (.slice A xs.length c)).below (below_alloc _ (.cells #[.int .i64 n, .slice B ys.length d] 30))); have HQ := Lib.hid (Row.box (w.alloc (.cells #[.int .i64 n, .slice A xs.length c] 30)) 30 (.int .i64 n) (.slice B ys.length d)); rw [World.size_alloc] at HQ; replace HW : Hid (Since w _) := HW; go_enter Try.func65, Try.ntmps65; go_wp2_with fail
            refine (IsSystem_any n A c xs _ HA.out hl).mono ?_; rw [hs]; rintro e w_ ⟨rfl, hb⟩; replace HA := Lib.hid (HA.out.below hb); replace HB := Lib.hid (HB.out.below hb); replace HW := Lib.hid (HW.out.below hb); replace HR := Lib.hid (HR.out.below hb); replace HQ := Lib.hid (HQ.out.below hb); clear hb; (try clear c0 c1); obtain ⟨c0, c1⟩ := HR.out.c2; (try clear d0 d1); obtain ⟨d0, d1⟩ := HQ.out.c2
            go_wp2_with fail
            refine (IsSystem_any n B d ys _ HB.out hlb).mono ?_; rw [ht]; rintro e w_ ⟨rfl, hb⟩; replace HA := Lib.hid (HA.out.below hb); replace HB := Lib.hid (HB.out.below hb); replace HW := Lib.hid (HW.out.below hb); replace HR := Lib.hid (HR.out.below hb); replace HQ := Lib.hid (HQ.out.below hb); clear hb; (try clear c0 c1); obtain ⟨c0, c1⟩ := HR.out.c2; (try clear d0 d1); obtain ⟨d0, d1⟩ := HQ.out.c2
            go_wp2_with fail
            refine (isFull_any n A c xs _ hl ⟨by omega, hv.2⟩).mono ?_; rw [hf]; rintro e w_ ⟨rfl, hb⟩; replace HA := Lib.hid (HA.out.below hb); replace HB := Lib.hid (HB.out.below hb); replace HW := Lib.hid (HW.out.below hb); replace HR := Lib.hid (HR.out.below hb); replace HQ := Lib.hid (HQ.out.below hb); clear hb; (try clear c0 c1); obtain ⟨c0, c1⟩ := HR.out.c2; (try clear d0 d1); obtain ⟨d0, d1⟩ := HQ.out.c2
            go_wp2_with fail
            refine (isFull_any n B d ys _ hlb ⟨by omega, hv.2⟩).mono ?_; rw [hg]; rintro e w_ ⟨rfl, hb⟩; replace HA := Lib.hid (HA.out.below hb); replace HB := Lib.hid (HB.out.below hb); replace HW := Lib.hid (HW.out.below hb); replace HR := Lib.hid (HR.out.below hb); replace HQ := Lib.hid (HQ.out.below hb); clear hb; (try clear c0 c1); obtain ⟨c0, c1⟩ := HR.out.c2; (try clear d0 d1); obtain ⟨d0, d1⟩ := HQ.out.c2
            clear hs ht hf hg
            have hlr := HR.out.lt; have hlq := HQ.out.lt
            go_wp2_with fail
            have HAL := Lib.hid (below_alloc w_ (.cells #[.slice none 0 0] 39))
            have HRN := Lib.hid (Row.new w_ 39 #[.slice none 0 0])
            have HSZ := Lib.hid HW.out.size
            have hwsz := HW.out.size
            refine (lead_any n A c xs B d ys 103 #[] #[.pointer (some ⟨w_.heap.size, 0, none⟩)] (fun _ => false) (FInv w w_.heap.size n) _ (HA.out.below HAL.out) hl (HB.out.below HAL.out) hlb HS.out HT.out HF.out HG.out ⟨_, HRN.out, World.ownsRow_nil _ _ _ _, HW.out.below HAL.out, fun _ => rfl⟩ (fun a b h1 h2 _ => ?_) (fun sb gx gy h1 h2 h3 _ _ => findCl_any sb _ gx gy _ _ (by omega) (by omega) w (by simp at h1; omega) (by simp at h2; omega) (by simp at h3; omega) HSZ.out)).mono ?_
            · obtain ⟨u, k1, k2, k3, k5⟩ := h1
              obtain rfl := k5 rfl
              exact ⟨.slice none 0 0, (h2.block _ (by simp)).trans k1, World.ownsRow_nil _ _ _ _, k3.trans (h2.mono (by simp; omega)), k5⟩
            rintro e w3 ⟨rfl, hI, hz⟩
            rw [HONE.out] at hI
            obtain ⟨u, k1, k2, k3, k5⟩ := hI
            have HO := Lib.hid k2; have HB3 := Lib.hid k3
            have e0 := k1.cell 0
            have hlt := k1.lt
            have HU := Lib.hid k5
            have HLL := Lib.hid (fun M hM => lead_len HS.out HT.out HF.out HG.out (M := M) hM)
            obtain ⟨B3, d3, rfl⟩ := own_slice k2
            clear k1 k2 k3 k5 hz c0 c1 d0 d1
            rcases hfl : leadL n xs ys with _ | ⟨L, Ls⟩
            · rw [hfl] at HN e0
              have HN2 : Hid (R = ([], 4)) := by unfold Hid; rw [HN.out, if_neg (by simp)]
              have e1 : ((List.take 1 ([] : List (List Int))).getLastD []).length = 0 := rfl
              rw [e1] at e0
              clear hfl e1
              go_wp2
              go_ret2
              exact LP.nil (by rw [HN2.out]) (by rw [HN2.out]) HB3.out
            · have hlen := HLL.out L (by rw [hfl]; simp)
              rw [hfl] at HN e0 HO
              have HN2 : Hid (R = (L, 0)) := by unfold Hid; rw [HN.out, if_pos (by simp)]; rfl
              have e1 : (List.take 1 (L :: Ls)).getLastD [] = L := rfl
              rw [e1] at e0 HO
              have hp : 0 < L.length := by omega
              have hp2 : L.length ≤ 15 := by omega
              clear hfl e1 hlen
              go_wp2
              go_ret2
              exact LP.mk HO.out (by rw [HN2.out]) (by rw [HN2.out]) HB3.out
          · have hvu' : (v == u) = false := by simpa using hvu
            have HN : Hid (R = ([], 4)) := by
              unfold Hid; rw [HN0.out, if_pos HC.out, if_neg (fun h => hvu h.1)]
            clear HN0 HCD
            have HW := Lib.hid (below_up (below_alloc w (.cells #[.int .i64 v, .slice A xs.length c] 30)) (below_alloc _ (.cells #[.int .i64 u, .slice B ys.length d] 30))); have HA := Lib.hid (hA.below HW.out); have HB := Lib.hid (hB.below HW.out); clear hA hB; have HR := Lib.hid ((Row.box w 30 (.int .i64 v) (.slice A xs.length c)).below (below_alloc _ (.cells #[.int .i64 u, .slice B ys.length d] 30))); have HQ := Lib.hid (Row.box (w.alloc (.cells #[.int .i64 v, .slice A xs.length c] 30)) 30 (.int .i64 u) (.slice B ys.length d)); rw [World.size_alloc] at HQ; replace HW : Hid (Since w _) := HW; go_enter Try.func65, Try.ntmps65; go_wp2_with fail
            refine (IsSystem_any v A c xs _ HA.out hl).mono ?_; rw [hs]; rintro e w_ ⟨rfl, hb⟩; replace HA := Lib.hid (HA.out.below hb); replace HB := Lib.hid (HB.out.below hb); replace HW := Lib.hid (HW.out.below hb); replace HR := Lib.hid (HR.out.below hb); replace HQ := Lib.hid (HQ.out.below hb); clear hb; (try clear c0 c1); obtain ⟨c0, c1⟩ := HR.out.c2; (try clear d0 d1); obtain ⟨d0, d1⟩ := HQ.out.c2
            go_wp2_with fail
            refine (IsSystem_any u B d ys _ HB.out hlb).mono ?_; rw [ht]; rintro e w_ ⟨rfl, hb⟩; replace HA := Lib.hid (HA.out.below hb); replace HB := Lib.hid (HB.out.below hb); replace HW := Lib.hid (HW.out.below hb); replace HR := Lib.hid (HR.out.below hb); replace HQ := Lib.hid (HQ.out.below hb); clear hb; (try clear c0 c1); obtain ⟨c0, c1⟩ := HR.out.c2; (try clear d0 d1); obtain ⟨d0, d1⟩ := HQ.out.c2
            go_wp2_with fail
            refine (isFull_any v A c xs _ hl ⟨by omega, hv.2⟩).mono ?_; rw [hf]; rintro e w_ ⟨rfl, hb⟩; replace HA := Lib.hid (HA.out.below hb); replace HB := Lib.hid (HB.out.below hb); replace HW := Lib.hid (HW.out.below hb); replace HR := Lib.hid (HR.out.below hb); replace HQ := Lib.hid (HQ.out.below hb); clear hb; (try clear c0 c1); obtain ⟨c0, c1⟩ := HR.out.c2; (try clear d0 d1); obtain ⟨d0, d1⟩ := HQ.out.c2
            go_wp2_with fail
            refine (isFull_any u B d ys _ hlb ⟨by omega, hu.2⟩).mono ?_; rw [hg]; rintro e w_ ⟨rfl, hb⟩; replace HA := Lib.hid (HA.out.below hb); replace HB := Lib.hid (HB.out.below hb); replace HW := Lib.hid (HW.out.below hb); replace HR := Lib.hid (HR.out.below hb); replace HQ := Lib.hid (HQ.out.below hb); clear hb; (try clear c0 c1); obtain ⟨c0, c1⟩ := HR.out.c2; (try clear d0 d1); obtain ⟨d0, d1⟩ := HQ.out.c2
            have hlr := HR.out.lt; have hlq := HQ.out.lt
            go_wp2
            go_ret2
            exact LP.nil (by rw [HN.out]) (by rw [HN.out]) (HW.out.below (below_alloc _ _))

theorem implFind_any (v : Int) (A : Option Addr) (c : Nat) (xs : List Blk) (u : Int) (B : Option Addr) (d : Nat) (ys : List Blk) (w : World) (hA : Bl w A xs) (hl : xs.length ≤ 1048576) (hB : Bl w B ys) (hlb : ys.length ≤ 1048576) :
    Calls Try.prog 25 #[.agg #[.int .i64 v, .slice A xs.length c], .agg #[.int .i64 u, .slice B ys.length d]] w (LP w (findR v xs u ys).1 (findR v xs u ys).2) := by
  generalize hR : findR v xs u ys = R
  have HW := Lib.hid (below_up (below_alloc w (.cells #[.int .i64 v, .slice A xs.length c] 30)) (below_alloc _ (.cells #[.int .i64 u, .slice B ys.length d] 30))); have HA := Lib.hid (hA.below HW.out); have HB := Lib.hid (hB.below HW.out); clear hA hB; have HR := Lib.hid ((Row.box w 30 (.int .i64 v) (.slice A xs.length c)).below (below_alloc _ (.cells #[.int .i64 u, .slice B ys.length d] 30))); have HQ := Lib.hid (Row.box (w.alloc (.cells #[.int .i64 v, .slice A xs.length c] 30)) 30 (.int .i64 u) (.slice B ys.length d)); rw [World.size_alloc] at HQ; replace HW : Hid (Since w _) := HW; go_enter Try.func25, Try.ntmps25; go_wp2_with fail
  refine (findN_any v A c xs u B d ys _ HA.out HB.out hl hlb).mono ?_
  rw [hR]
  rintro e w1 ⟨B1, d1', rfl, ho, hb⟩
  have HO := Lib.hid (own_base ho HW.out.size)
  replace HW := Lib.hid (HW.out.below hb); clear hb
  clear ho
  go_wp2
  go_ret2
  exact ⟨B1, d1', rfl, HO.out, HW.out⟩
theorem iso_find (v : Int) (xs : List Blk) (u : Int) (ys : List Blk) : isoR v xs u ys = if (findR v xs u ys).2 = 4 then (false, 0) else (decide ((findR v xs u ys).2 = 0), (findR v xs u ys).2) := by
  unfold isoR findR
  by_cases h : code2 v xs u ys = 0
  · rw [if_pos h, if_pos h]
    by_cases h2 : v = u ∧ leadL v.toNat xs ys ≠ []
    · rw [if_pos h2, if_pos h2]; rfl
    · rw [if_neg h2, if_neg h2]; rfl
  · rw [if_neg h, if_neg h]
    have h4 : code2 v xs u ys ≠ 4 := by unfold code2; (repeat' split) <;> decide
    rw [if_neg h4]
    simp [h]
theorem implIso_any (v : Int) (A : Option Addr) (c : Nat) (xs : List Blk) (u : Int) (B : Option Addr) (d : Nat) (ys : List Blk) (w : World) (hA : Bl w A xs) (hl : xs.length ≤ 1048576) (hB : Bl w B ys) (hlb : ys.length ≤ 1048576) :
    Calls Try.prog 23 #[.agg #[.int .i64 v, .slice A xs.length c], .agg #[.int .i64 u, .slice B ys.length d]] w fun e w' => e = .returned (.tuple #[.bool (isoR v xs u ys).1, .int .i64 (isoR v xs u ys).2]) ∧ Below w.heap.size w w' := by
  have HI := Lib.hid (iso_find v xs u ys)
  generalize isoR v xs u ys = I at *
  have HBD := Lib.hid (findR_bd v xs u ys)
  generalize hR : findR v xs u ys = R at *
  by_cases h4 : R.2 = 4
  · have h4' : (R.2 == 4) = true := by simpa using h4
    have HN : Hid (I = (false, 0)) := by unfold Hid; rw [HI.out, if_pos h4]
    have HR4 := Lib.hid h4
    clear h4
    have HW := Lib.hid (below_up (below_alloc w (.cells #[.int .i64 v, .slice A xs.length c] 30)) (below_alloc _ (.cells #[.int .i64 u, .slice B ys.length d] 30))); have HA := Lib.hid (hA.below HW.out); have HB := Lib.hid (hB.below HW.out); clear hA hB; have HR := Lib.hid ((Row.box w 30 (.int .i64 v) (.slice A xs.length c)).below (below_alloc _ (.cells #[.int .i64 u, .slice B ys.length d] 30))); have HQ := Lib.hid (Row.box (w.alloc (.cells #[.int .i64 v, .slice A xs.length c] 30)) 30 (.int .i64 u) (.slice B ys.length d)); rw [World.size_alloc] at HQ; replace HW : Hid (Since w _) := HW; go_enter Try.func23, Try.ntmps23; go_wp2_with fail
    refine (findN_any v A c xs u B d ys _ HA.out HB.out hl hlb).mono ?_
    rw [hR]
    rintro e w1 ⟨B1, d1', rfl, ho, hb⟩
    replace HW := Lib.hid (HW.out.below hb); clear hb
    clear ho
    go_wp2
    go_ret2
    exact ⟨by rw [HN.out]; rfl, HW.out⟩
  · have h4' : (R.2 == 4) = false := by simpa using h4
    have HN : Hid (I = (decide (R.2 = 0), R.2)) := by unfold Hid; rw [HI.out, if_neg h4]
    clear h4
    have HW := Lib.hid (below_up (below_alloc w (.cells #[.int .i64 v, .slice A xs.length c] 30)) (below_alloc _ (.cells #[.int .i64 u, .slice B ys.length d] 30))); have HA := Lib.hid (hA.below HW.out); have HB := Lib.hid (hB.below HW.out); clear hA hB; have HR := Lib.hid ((Row.box w 30 (.int .i64 v) (.slice A xs.length c)).below (below_alloc _ (.cells #[.int .i64 u, .slice B ys.length d] 30))); have HQ := Lib.hid (Row.box (w.alloc (.cells #[.int .i64 v, .slice A xs.length c] 30)) 30 (.int .i64 u) (.slice B ys.length d)); rw [World.size_alloc] at HQ; replace HW : Hid (Since w _) := HW; go_enter Try.func23, Try.ntmps23; go_wp2_with fail
    refine (findN_any v A c xs u B d ys _ HA.out HB.out hl hlb).mono ?_
    rw [hR]
    rintro e w1 ⟨B1, d1', rfl, ho, hb⟩
    replace HW := Lib.hid (HW.out.below hb); clear hb
    clear ho
    go_wp2
    go_ret2
    refine ⟨?_, HW.out⟩
    rw [HN.out]
    exact ret_bi (by rw [Bool.eq_iff_iff]; simp) rfl

end Go.Proofs.Ytgbkonnmjmlalaa
