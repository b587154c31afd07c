/- The contract of the program's lists of sets of disjoint blocks; conditions: stated in it. -/
import Derived.Test.YtpdkkbimhhhjmaaW20
import Derived.Deep.RegionHeld3
namespace Go.Proofs.Ytpdkkbimhhhjmaa
open Go.RowKit
set_option maxHeartbeats 1000000
set_option maxRecDepth 100000
set_option linter.unusedSimpArgs false
set_option linter.unusedVariables false

theorem Ro.slot {w w' : World} {base : Nat} {u : Value} {xs : List Int} {row : Option Nat} (h : Ro w base u xs) (hg : w.grownBy w' row) (hne : ∀ b, u.ownBlock = some b → row ≠ some b) : Ro w' base u xs := h.grown hg hne
/-- u is a row of its own of the lists' headers; each list is a row of its own too -/
def LLq (w : World) (base : Nat) (u : Value) (xss : List (List Int)) : Prop :=
  ∃ vs, w.ownsRow base 34 1 u xss.length vs ∧ ∀ k, k < xss.length → ∃ h, vs[k]? = some h ∧ Ro w base h (nthLL xss k) ∧ ∀ b, h.ownBlock = some b → u.ownBlock ≠ some b
theorem LLq.nil (w : World) (base : Nat) : LLq w base (.slice none 0 0) [] := ⟨[], World.ownsRow_nil _ _ _ _, fun k hk => by simp at hk⟩
theorem LLq.below {w w' : World} {base : Nat} {u : Value} {xss : List (List Int)} (h : LLq w base u xss) (hb : Below w.heap.size w w') : LLq w' base u xss := by
  obtain ⟨vs, ho, hi⟩ := h
  refine ⟨vs, own_below ho hb, fun k hk => ?_⟩
  obtain ⟨r, h1, h2, h3⟩ := hi k hk
  exact ⟨r, h1, h2.below hb, h3⟩
theorem LLq.own_lt {w : World} {base : Nat} {u : Value} {xss : List (List Int)} (h : LLq w base u xss) : ∀ b, u.ownBlock = some b → base ≤ b ∧ b < w.heap.size := by
  obtain ⟨vs, ho, _⟩ := h
  intro b hb
  exact ho.lt b hb
theorem LLq.slice {w : World} {base : Nat} {u : Value} {xss : List (List Int)} (h : LLq w base u xss) : ∃ A c, u = .slice A xss.length c := by
  obtain ⟨vs, ho, _⟩ := h
  exact own_slice ho
theorem LLq.snoc {w w1 w2 : World} {base : Nat} {u v2 r : Value} {xss : List (List Int)} {vs : List Value} {xs : List Int}
    (hi : ∀ k, k < xss.length → ∃ h, vs[k]? = some h ∧ Ro w base h (nthLL xss k) ∧ ∀ b, h.ownBlock = some b → u.ownBlock ≠ some b) (hv : vs.length = xss.length) (hB : Ro w base r xs) (hf : ∀ b, r.ownBlock = some b → u.ownBlock ≠ some b)
    (hb : Below w.heap.size w w1) (hg : w1.grownBy w2 u.ownBlock) (ho : w2.ownsRow base 34 1 v2 (xss.length + 1) (vs ++ [r])) (hat : v2.ownBlock = u.ownBlock ∨ v2.ownBlock = some w1.heap.size) :
    LLq w2 base v2 (xss ++ [xs]) := by
  have key : ∀ {h : Value} {ys : List Int}, Ro w base h ys → (∀ b, h.ownBlock = some b → u.ownBlock ≠ some b) → Ro w2 base h ys ∧ ∀ b, h.ownBlock = some b → v2.ownBlock ≠ some b := by
    intro h ys h1 h2
    refine ⟨(h1.below hb).grown hg h2, fun b e => ?_⟩
    rcases hat with h' | h'
    · rw [h']; exact h2 b e
    · rw [h']; intro e2
      simp only [Option.some.injEq] at e2
      have := (h1.lt b e).2; have := hb.size; omega
  refine ⟨vs ++ [r], by rw [List.length_append]; exact ho, fun k hk => ?_⟩
  rw [List.length_append, List.length_singleton] at hk
  by_cases hkl : k < xss.length
  · obtain ⟨h, h1, h2, h3⟩ := hi k hkl
    have e : nthLL (xss ++ [xs]) k = nthLL xss k := by simp [nthLL, List.getElem?_append_left hkl]
    rw [e]
    exact ⟨h, by rw [List.getElem?_append_left (by omega)]; exact h1, key h2 h3⟩
  · obtain rfl : k = xss.length := by omega
    have e : nthLL (xss ++ [xs]) xss.length = xs := by simp [nthLL]
    rw [e]
    exact ⟨r, by rw [← hv]; simp, key hB hf⟩
theorem LLq.at_ {w : World} {base : Nat} {A : Option Addr} {n c : Nat} {xss : List (List Int)} (h : LLq w base (.slice A n c) xss) {k : Nat} (hk : k < xss.length) :
    ∃ g r, A = some ⟨g, 0, none⟩ ∧ g < w.heap.size ∧ w.cell? ⟨g, k, none⟩ = some r ∧ Ro w base r (nthLL xss k) := by
  obtain ⟨vs, ho, hi⟩ := h
  obtain ⟨r, h1, h2, h3⟩ := hi k hk
  rcases ho.2 with ⟨_, hn⟩ | ⟨g, cap, cur, hv, hge, hg, hnc, _, hcs, htk⟩
  · omega
  · simp only [Value.slice.injEq] at hv
    refine ⟨g, r, hv.1, Row.lt hg, ?_, h2⟩
    rw [Row.cell hg]
    rw [← htk, List.getElem?_take_of_lt (by omega), Array.getElem?_toList] at h1
    exact h1

/-- what a call leaves: u, a row of lists; but for the row of v and for new blocks all is as it was -/
def Grew (w w' : World) (v u : Value) : Prop := w.grownBy w' v.ownBlock ∧ (u.ownBlock = v.ownBlock ∨ ∃ b, u.ownBlock = some b ∧ w.heap.size ≤ b)
theorem Grew.refl (w : World) (v : Value) : Grew w w v v := ⟨grown_refl w _, .inl rfl⟩
theorem Grew.below {w a b : World} {v u : Value} (h : Grew w a v u) (hb : Below a.heap.size a b) : Grew w b v u := ⟨grown_trans h.1 (grown_below hb _), h.2⟩
theorem Grew.join {w a b : World} {v u x : Value} (h : Grew w a v u) (k : Grew a b u x) : Grew w b v x := by
  refine ⟨grown_join h.1 k.1 h.2, ?_⟩
  rcases k.2 with e | ⟨q, e, hq⟩
  · rw [e]; exact h.2
  · exact .inr ⟨q, e, Nat.le_trans h.1.size hq⟩
theorem Grew.out {w a : World} {v u : Value} {B : Nat} (h : Grew w a v u) (hB : B ≤ w.heap.size) (hv : ∀ b, v.ownBlock = some b → B ≤ b) : Below B w a := (Below.refl B w).grown h.1 hB hv
theorem Since.ofAlloc {w a : World} {o : Obj} {v u : Value} (h : Grew (w.alloc o) a v u) : Grew w a v u := by
  refine ⟨grown_trans (grown_below (below_alloc w o) _) h.1, ?_⟩
  rcases h.2 with e | ⟨q, e, hq⟩
  · exact .inl e
  · exact .inr ⟨q, e, by have : w.heap.size ≤ (w.alloc o).heap.size := by simp
                         omega⟩

theorem disjoint_zero (v : Int) (A : Option Addr) (c : Nat) (xs : List Blk) (base : Nat) (L : List (List Int)) (now : List Int) (uo un : Value) (w : World) (hb0 : base ≤ w.heap.size) (hL : LLq w base uo L) (hN : Ro w base un now) (hsep : ∀ b, un.ownBlock = some b → uo.ownBlock ≠ some b)
    (hn : now.length ≤ 5) (hlen : L.length ≤ 1000000000) :
    Calls Try.prog 57 #[.agg #[.int .i64 v, .slice A xs.length c], uo, un, .int .i64 now.length] w fun e w' => ∃ u, e = .returned u ∧ LLq w' base u (L ++ [now]) ∧ Grew w w' uo u := by
  obtain ⟨li0, hli, hli0, hli1, hli2⟩ := info_parts infoList'
  obtain ⟨An, cn, hun⟩ := own_slice hN
  subst hun
  have HB := Lib.hid (below_alloc w (.cells #[.int .i64 v, .slice A xs.length c] 30))
  have HN := Lib.hid (hN.below HB.out)
  have HL := Lib.hid (hL.below HB.out)
  have HSZ : Hid ((w.alloc (.cells #[.int .i64 v, .slice A xs.length c] 30)).heap.size = w.heap.size + 1) := World.size_alloc _ _
  clear hN hL
  go_enter Try.func57, Try.ntmps57
  go_wp2_with fail
  refine (clone_any _ base now _ HN.out (by omega)).mono ?_
  rintro e w1 ⟨r, rfl, hr, hb⟩
  have HB1 := Lib.hid (HB.out.trans (hb.mono HB.out.size))
  have HLL := Lib.hid (HL.out.below hb)
  obtain ⟨B, d, rfl⟩ := own_slice hr
  have HI : Hid (Ro w1 base (.slice B now.length d) now) := own_base hr (by have := HSZ.out; omega)
  have HF : Hid (∀ b, (Value.slice B now.length d).ownBlock = some b → uo.ownBlock ≠ some b) := by
    intro b e e2
    have := (hr.lt b e).1
    have := (HL.out.own_lt b e2).2
    omega
  have hs1 := HB1.out.size
  clear hr hb
  obtain ⟨vs_, ho_, hi_⟩ := HLL.out
  have hvl_ : vs_.length = L.length := by simpa using ho_.1
  have HOO := Lib.hid ho_; have HII := Lib.hid hi_
  clear ho_ hi_
  go_wp2_with (at_builtin; go_loud (refine wpList_append_own_at _ rfl _ _ 64 rfl base 34 li0 (.slice none 0 0) 1 24 Try.underlying64 hli hli0 hli1 hli2 rfl (by decide) _ _ vs_ rfl (HOO.out.alloc _) ⟨w1.heap.size, 0, none⟩ 1 1 [.slice B now.length d] rfl rfl (cells_newH (cw := w1) (by simp)) (by simp [Value.oneCell']) (by unfold maxLen; omega) (by omega) (by simp; omega) ?_); intro v2 w2 hown2 hg2 _ hat2)
  have HL2 := Lib.hid (LLq.snoc HII.out hvl_ HI.out HF.out (below_alloc _ _) hg2 hown2 hat2)
  have HG : Hid (Grew w w2 uo v2) := by
    refine ⟨grown_trans (grown_below HB1.out _) (grown_trans (grown_below (below_alloc _ _) _) hg2), ?_⟩
    rcases hat2 with e | e
    · exact .inl e
    · exact .inr ⟨_, e, by simp; omega⟩
  clear hown2 hg2 hat2
  go_wp2
  go_ret
  exact ⟨_, rfl, HL2.out, HG.out⟩

theorem cells_old {P w8 : World} (hb : Below P.heap.size P w8) {ad : Addr} {vs : List Value} (hlt : ad.block < P.heap.size) (h : ∀ j u, vs[j]? = some u → P.cell? (ad.add j) = some u) : ∀ j u, vs[j]? = some u → w8.cell? (ad.add j) = some u := by
  intro j u hj
  have e : (ad.add j).block = ad.block := by unfold Addr.add; split <;> rfl
  exact (hb.cell (p := ad.add j) (by rw [e]; exact hlt)).trans (h j u hj)
theorem Il.of_Ro {w : World} {base : Nat} {B : Option Addr} {n d : Nat} {xs : List Int} (h : Ro w base (.slice B n d) xs) : Il w B xs := by
  obtain ⟨B', d', e, h2, _⟩ := h.il
  simp only [Value.slice.injEq] at e
  rw [e.1]; exact h2

theorem disjoint_any (v : Int) (A : Option Addr) (c : Nat) (xs : List Blk) (hs : isSys v xs) : ∀ (d K base : Nat) (L : List (List Int)) (now : List Int) (uo un : Value) (w : World), K = now.length + d → K ≤ 5 → base ≤ w.heap.size → Bl w A xs → (∀ b, A.map Addr.block = some b → b < base ∨ xs = []) →
    LLq w base uo L → Ro w base un now → risesI now xs.length → (∀ b, un.ownBlock = some b → uo.ownBlock ≠ some b) → L.length + 35 ^ d ≤ 1000000000 →
    Calls Try.prog 57 #[.agg #[.int .i64 v, .slice A xs.length c], uo, un, .int .i64 (K : Int)] w fun e w' => ∃ u, e = .returned u ∧ LLq w' base u (L ++ disL xs d now) ∧ Grew w w' uo u := by
  intro d
  induction d with
  | zero =>
    intro K base L now uo un w hK hK5 hb0 hA hAb hL hN hr hsep hlen
    obtain rfl : K = now.length := by omega
    exact disjoint_zero v A c xs base L now uo un w hb0 hL hN hsep (by omega) (by omega)
  | succ d ih =>
    intro K base L now uo un w hK hK5 hb0 hA hAb hL hN hr hsep hlen
    have HIH := Lib.hid ih; clear ih
    obtain ⟨ni0, hni, hni0, hni1, hni2⟩ := info_parts infoInt'
    have h35 := hs.2.1
    have hv15 := hs.1.2
    have HAR : Hid (areB v xs) := hs.2.2.1
    obtain ⟨An, cn, hun⟩ := own_slice hN
    subst hun
    have HB := Lib.hid (below_alloc w (.cells #[.int .i64 v, .slice A xs.length c] 30))
    have HR := Lib.hid (Row.box w 30 (.int .i64 v) (.slice A xs.length c))
    have HA := Lib.hid (hA.below HB.out)
    have HN := Lib.hid (hN.below HB.out)
    have HL := Lib.hid (hL.below HB.out)
    have HUO : Hid (∀ b, uo.ownBlock = some b → base ≤ b ∧ b < w.heap.size) := hL.own_lt
    have HSZ : Hid ((w.alloc (.cells #[.int .i64 v, .slice A xs.length c] 30)).heap.size = w.heap.size + 1) := World.size_alloc _ _
    have HAB := Lib.hid hAb; have HSEP := Lib.hid hsep; have HRI := Lib.hid hr
    have HKD := Lib.hid hK
    have hne : ((now.length : Int) == (K : Int)) = false := by rw [beq_eq_false_iff_ne]; omega
    have hn5 : now.length ≤ 4 := by omega
    have hpw : 35 ^ (d + 1) = 35 * 35 ^ d := by rw [Nat.pow_succ, Nat.mul_comm]
    rw [hpw] at hlen
    have HPW := Lib.hid hlen
    have HD : Hid (disL xs (d + 1) now = loopL (fun i => disL xs d (now ++ [(i : Int)])) (okI xs now) (fromI now) xs.length) := rfl
    have HST : Hid (∀ i, loopL (fun i => disL xs d (now ++ [(i : Int)])) (okI xs now) (fromI now) (i + 1) = loopL (fun i => disL xs d (now ++ [(i : Int)])) (okI xs now) (fromI now) i ++ (if fromI now ≤ i ∧ okI xs now i = true then disL xs d (now ++ [(i : Int)]) else [])) := fun i => rfl
    have HNIL := Lib.hid (loopL_nil (fun i => disL xs d (now ++ [(i : Int)])) (okI xs now) (fromI now) (fromI now) (Nat.le_refl _))
    have HBD := Lib.hid (fun i => loopL_bd (f := fun i => disL xs d (now ++ [(i : Int)])) (p := okI xs now) (a := fromI now) (B := 35 ^ d) (fun i => dis_bd h35 d _) i)
    clear hA hN hL hAb hsep hr hs hK hpw hlen
    have hfn : fromI now ≤ xs.length := by
      unfold fromI; split
      · omega
      · have := (HRI.out (now.length - 1) (by omega)).1; omega
    have hfrom : (now.length = 0 ∧ fromI now = 0) ∨ (∃ m F : Nat, now.length = m + 1 ∧ fromI now = F + 1 ∧ nthI now m = (F : Int)) := by
      rcases Nat.eq_zero_or_pos now.length with h | h
      · exact .inl ⟨h, by unfold fromI; rw [if_pos h]⟩
      · refine .inr ⟨now.length - 1, (nthI now (now.length - 1)).toNat, by omega, by unfold fromI; rw [if_neg (by omega)], ?_⟩
        have := (HRI.out (now.length - 1) (by omega)).1; omega
    generalize hFR : fromI now = FR at *
    have HFR := Lib.hid hFR; clear hFR
    generalize loopL (fun i => disL xs d (now ++ [(i : Int)])) (okI xs now) FR = S at *
    rcases hfrom with ⟨hm, hF⟩ | ⟨m, F, hm, hF, hlast⟩
    all_goals
      first
      | (have HIl := Lib.hid (Il.of_Ro HN.out); obtain ⟨b0, o0, hA0, hbl0, p0⟩ := HIl.out.at_ (k := m) (by omega); subst hA0; rw [hlast] at p0; have HF := Lib.hid hF; have hF35 : F + 1 ≤ xs.length := (by omega); have hne2 : ((m : Int) + 1 == (K : Int)) = false := (by rw [beq_eq_false_iff_ne]; have := HKD.out; omega); clear HIl)
      | (have HF := Lib.hid hF; have hne2 : ((0 : Int) == (K : Int)) = false := (by rw [beq_eq_false_iff_ne]; have := HKD.out; omega))
      clear hF
      go_enter Try.func57, Try.ntmps57
      go_wp2
      clear hne hne2
      generalize hWo : w.alloc _ = W5 at *
      have HM := Lib.hid hm; clear hm
      try clear p0 hbl0
      go_loopw [1, 10] (fun u i wr => ∃ k : Nat, FR ≤ k ∧ k ≤ xs.length ∧ i = .int .i64 k ∧ Hid (Grew W5 wr uo u ∧ LLq wr base u (L ++ S k))) (fun _ i _ => xs.length - (intOf i).toNat)
      case atStart => exact ⟨FR, Nat.le_refl _, hfn, by rw [HF.out]; first | rfl | go_num, Grew.refl _ _, by rw [HNIL.out, List.append_nil]; exact HL.out⟩
      case round =>
        obtain ⟨k, hk0, hk, rfl, HC⟩ := hrel
        have HUN : Hid (uo.ownBlock ≠ some w.heap.size) := fun e => by have := (HUO.out _ e).2; omega
        have HRw := Lib.hid (HR.out.grown HC.out.1.1 HUN.out)
        have HAw := Lib.hid (HA.out.grown HC.out.1.1 (fun b e => (HAB.out b e).imp (fun h e2 => by have := (HUO.out b e2).1; omega) id))
        have HNw := Lib.hid (HN.out.grown HC.out.1.1 HSEP.out)
        have hbw : base ≤ wr.heap.size := by have := HC.out.1.1.size; have := HSZ.out; omega
        have hsw : W5.heap.size ≤ wr.heap.size := HC.out.1.1.size
        have HINw := Lib.hid (Il.of_Ro HNw.out)
        obtain ⟨c0, c1⟩ := HRw.out.c2
        have hsz := HRw.out.lt
        by_cases hlt : k < xs.length
        · obtain ⟨b1, o1, hA1, hb1, p0, p1, p2⟩ := HAw.out.at_ hlt
          subst hA1
          have HX := Lib.hid (Box.new wr (nth xs k) 72)
          have HBX := Lib.hid (below_alloc wr (.cells #[.int .i64 (nth xs k).1, .int .i64 (nth xs k).2.1, .int .i64 (nth xs k).2.2] 72))
          have HSTk := Lib.hid (HST.out k)
          go_wp2_with fail
          refine (containsFuncIn_any _ cn now 109 #[] #[.pointer (some ⟨w.heap.size, 0, none⟩), .pointer (some ⟨wr.heap.size, 0, none⟩)] (fun q => meetB (nth xs q.toNat) (nth xs k)) _ (HINw.out.below HBX.out) (by omega) (fun args w => by kernel_rfl)
            (fun W j hj hb => by
              have hrj := (HRI.out j hj).1
              obtain ⟨J, hJ⟩ := Int.eq_ofNat_of_zero_le hrj.1
              rw [hJ]
              exact disCl_any v _ c xs J (nth xs k) w.heap.size wr.heap.size W ((HAw.out.below HBX.out).below hb) ((HRw.out.below HBX.out).below hb) (HX.out.below hb) (by omega) (by omega))).mono ?_
          rw [any_ok]
          cases hok : okI xs now k
          · rintro e w7 ⟨rfl, hb⟩
            have HB7 := Lib.hid (below_up HBX.out hb); clear hb c0 c1 p0 p1 p2
            go_wp2
            go_roundw
            case rel => exact ⟨k + 1, by omega, by omega, by go_num, HC.out.1.below HB7.out, by rw [HSTk.out, if_neg (fun h => by rw [hok] at h; exact absurd h.2 (by simp)), List.append_nil]; exact HC.out.2.below HB7.out⟩
            case measure => simp [intOf]; omega
          · rintro e w7 ⟨rfl, hb⟩
            have HB7 := Lib.hid (below_up HBX.out hb); clear hb c0 c1 p0 p1 p2
            have HR7 := Lib.hid (HRw.out.below HB7.out)
            obtain ⟨c0, c1⟩ := HR7.out.c2
            have hs7 := HB7.out.size
            go_wp2
            have HKEEP := Lib.hid (And.intro c0 c1)
            clear c0 c1
            have HL7 := Lib.hid (HC.out.2.below HB7.out)
            have HN7 := Lib.hid (HNw.out.below HB7.out)
            have HA7 := Lib.hid (HAw.out.below HB7.out)
            have HU1 : Hid (∀ b, u1.ownBlock = some b → base ≤ b ∧ b < w7.heap.size) := HL7.out.own_lt
            have HU2 : Hid (u1.ownBlock ≠ some w.heap.size) := by
              intro e
              rcases HC.out.1.2 with e2 | ⟨q, e2, hq⟩
              · rw [e2] at e; exact HUN.out e
              · rw [e2] at e; simp only [Option.some.injEq] at e; have := HSZ.out; omega
            have HLE : Hid ((L ++ S k).length + 35 ^ d ≤ 1000000000) := by
              have h1 := HBD.out k
              have h2 := HPW.out
              have h3 : (k + 1) * 35 ^ d ≤ 35 * 35 ^ d := Nat.mul_le_mul_right _ (by omega)
              rw [Nat.succ_mul] at h3
              unfold Hid
              rw [List.length_append]; omega
            have HRS : Hid (risesI (now ++ [(k : Int)]) xs.length) := rises_snoc HRI.out hlt (by rw [HFR.out]; exact hk0)
            go_region_held3 (fun w' => w'.cell? ⟨w.heap.size, 0, none⟩ = some (.int .i64 v) ∧ w'.cell? ⟨w.heap.size, 1, none⟩ = some (.slice (some ⟨b1, o1, none⟩) xs.length c)) (first | exact HKEEP.out | exact (HR7.out.below (HB8.out.alloc HB8.out.size _)).c2 | exact (HR7.out.below (below_alloc _ _)).c2 | exact (HR7.out.below (below_up (below_drew _) (below_alloc _ _))).c2 | exact (HR7.out.below (below_up (below_alloc _ _) (below_drew _))).c2) (first
              | (go_at_call 107
                 refine (clone_any _ base now _ (HN7.out.below (by (repeat' (first | (with_reducible exact Below.refl _ _) | (with_reducible assumption) | (with_reducible refine below_drewN ?_ _) | (with_reducible refine Below.drew ?_) | (with_reducible refine Below.alloc ?_ ?_ _) | (with_reducible refine Below.setCell ?_ ?_ _) | go_size)))) (by omega)).mono ?_
                 rintro e w8 ⟨r, rfl, hr, hb⟩
                 have HB8 : Hid (Below w7.heap.size w7 w8) := below_up (by (repeat' (first | (with_reducible exact Below.refl _ _) | (with_reducible assumption) | (with_reducible refine below_drewN ?_ _) | (with_reducible refine Below.drew ?_) | (with_reducible refine Below.alloc ?_ ?_ _) | (with_reducible refine Below.setCell ?_ ?_ _) | go_size))) hb
                 have HO8 : Hid (w8.ownsRow w7.heap.size 2 1 r now.length (now.map (Value.int .i64))) := own_base hr (by simp)
                 replace HKEEP := Lib.hid (HR7.out.below HB8.out).c2
                 have hs8 := HB8.out.size
                 have HBP := Lib.hid hb
                 clear hb hr)
              | (refine step_append_lies _ (by rfl) _ _ 34 (by rfl) w7.heap.size 2 ni0 (.int .i64 0) 1 8 Try.underlying34 hni hni0 hni1 hni2 rfl (by decide) _ _ _ (by rfl) (HO8.out.alloc _) ⟨w8.heap.size, 0, none⟩ 1 1 [.int .i64 k] (by rfl) rfl (cells_new _ _ _) (by simp [Value.oneCell']) (by omega) (by unfold maxLen; omega) (by omega) (by simp; omega) (w8.heap.size + 1) (by simp) ?_
                 intro g cap w9 hown9 hg9 hat9 hlt9
                 have HO9 : Hid (Ro w9 w7.heap.size (.slice (some ⟨g, 0, none⟩) (now.length + 1) cap) (now ++ [(k : Int)])) := by { unfold Hid Ro; rw [List.length_append, List.map_append]; exact hown9 }
                 have HB9 : Hid (Below w7.heap.size w7 w9) := (HB8.out.alloc HB8.out.size _).grown hg9 (by simp; omega) (own_block HO8.out)
                 have hgb := (hown9.lt g rfl).1
                 replace HKEEP := Lib.hid (HR7.out.below HB9.out).c2
                 clear hown9 hg9 hat9)
              | (refine step_append_lies _ (by rfl) _ _ 34 (by rfl) w7.heap.size 2 ni0 (.int .i64 0) 1 8 Try.underlying34 hni hni0 hni1 hni2 rfl (by decide) _ _ _ (by rfl) HO8.out ⟨w7.heap.size, 0, none⟩ 1 1 [.int .i64 k] (by rfl) rfl (cells_old HBP.out (by first | (simp; done) | omega) (cells_new w7 _ _)) (by simp [Value.oneCell']) (by omega) (by unfold maxLen; omega) (by omega) (by omega) w8.heap.size rfl ?_
                 intro g cap w9 hown9 hg9 hat9 hlt9
                 have HO9 : Hid (Ro w9 w7.heap.size (.slice (some ⟨g, 0, none⟩) (now.length + 1) cap) (now ++ [(k : Int)])) := by { unfold Hid Ro; rw [List.length_append, List.map_append]; exact hown9 }
                 have HB9 : Hid (Below w7.heap.size w7 w9) := HB8.out.grown hg9 (by omega) (own_block HO8.out)
                 have hgb := (hown9.lt g rfl).1
                 replace HKEEP := Lib.hid (HR7.out.below HB9.out).c2
                 clear hown9 hg9 hat9)
              | (go_at_call 57
                 refine (HIH.out K base (L ++ S k) (now ++ [(k : Int)]) u1 (.slice (some ⟨g, 0, none⟩) (now.length + 1) cap) _ (by rw [HKD.out, List.length_append]; simp; omega) hK5 (Nat.le_trans (by omega) HB9.out.size) (HA7.out.below HB9.out) HAB.out (HL7.out.below HB9.out) (own_base HO9.out (by omega)) HRS.out (fun b e e2 => by have := (HU1.out b e2).2; simp only [Value.ownBlock, Option.some.injEq] at e; omega) HLE.out).mono ?_
                 rintro e w10 ⟨u2, rfl, hL2, hG2⟩
                 have HL2 := Lib.hid hL2; have HG2 := Lib.hid hG2
                 replace HKEEP := Lib.hid ((HR7.out.below HB9.out).grown hG2.1 HU2.out).c2
                 clear hL2 hG2))
            all_goals
              go_wp2
              go_roundw
              case rel => exact ⟨k + 1, by omega, by omega, by go_num, ((HC.out.1.below HB7.out).below HB9.out).join HG2.out, by rw [HSTk.out, if_pos ⟨hk0, hok⟩, ← List.append_assoc]; exact HL2.out⟩
              case measure => simp [intOf]; omega
        · obtain rfl : k = xs.length := by omega
          go_wp2
          go_ret
          exact ⟨_, rfl, by rw [HD.out]; exact HC.out.2, by rw [← hWo] at HC; exact Since.ofAlloc HC.out.1⟩

end Go.Proofs.Ytpdkkbimhhhjmaa
