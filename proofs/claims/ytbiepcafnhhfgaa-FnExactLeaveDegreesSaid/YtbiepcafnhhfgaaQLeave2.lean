/- Contracts for LeaveDegrees of the program; conditions: stated in each. -/
import Derived.Test.YtbiepcafnhhfgaaQLeave
namespace Go.Proofs.Ytbiepcafnhhfgaa
open Go.RowKit
set_option maxHeartbeats 400000
set_option maxRecDepth 100000
set_option linter.unusedSimpArgs false
set_option linter.unusedVariables false

theorem LLr.own_lt {w : World} {base : Nat} {u : Value} {xss : List (List Int)} (h : LLr w base u xss) : ∀ b, u.ownBlock = some b → b < w.heap.size := by
  obtain ⟨vs, ho, _⟩ := h
  intro b hb
  rcases ho.2 with ⟨rfl, _⟩ | ⟨g, cap, cur, rfl, _, hg, _⟩
  · simp [Value.ownBlock] at hb
  · simp only [Value.ownBlock, Option.some.injEq] at hb
    subst hb; exact Row.lt hg
theorem LLr.fresh {w w' : World} {base : Nat} {u : Value} {xss : List (List Int)} (h : LLr w base u xss) {g : Nat} (hg : w.heap.size ≤ g) (hlt : g < w'.heap.size) (hbg : base ≤ g) : Free w' base u (some ⟨g, 0, none⟩) := by
  intro b hb
  simp only [Option.map_some, Option.some.injEq] at hb
  subst hb
  refine ⟨hlt, fun e => ?_, hbg⟩
  have := h.own_lt _ e
  omega
theorem LLr.slice {w : World} {base : Nat} {u : Value} {xss : List (List Int)} (h : LLr w base u xss) : ∃ A c, u = .slice A xss.length c := by
  obtain ⟨vs, ho, _⟩ := h
  exact own_slice ho

theorem pairsLeft_any (n : Nat) (A : Option Addr) (c : Nat) (xs : List Blk) (w : World) (hA : Bl w A xs) (hl : xs.length ≤ 1048576) (hs : isSys n xs) :
    Calls Try.prog 89 #[.agg #[.int .i64 n, .slice A xs.length c]] w fun e w' => ∃ u, e = .returned u ∧ LLr w' w.heap.size u (prA (gridN xs xs.length) n n) ∧ Below w.heap.size w w' := by
  obtain ⟨li0, hli, hli0, hli1, hli2⟩ := info_parts infoList
  have hv := hs.1
  have hn : n ≤ 15 := by omega
  have HS := Lib.hid hs
  have HA := Lib.hid (hA.below (below_alloc w (.cells #[.int .i64 n, .slice A xs.length c] 30)))
  have HR := Lib.hid (Row.box w 30 (.int .i64 n) (.slice A xs.length c))
  have HW : Hid (Since w _) := Lib.hid (below_alloc w (.cells #[.int .i64 n, .slice A xs.length c] 30))
  clear hA hs
  go_enter Try.func89, Try.ntmps89
  go_wp2_with fail
  refine (grid_any n A c xs _ HA.out hl HS.out).mono ?_
  rintro e w_ ⟨g, rfl, hle, hGr, hb⟩
  have HGr := Lib.hid hGr; clear hGr hle
  generalize hGG : gridN xs xs.length = G at *
  replace HW := Lib.hid (HW.out.below hb); replace HR := Lib.hid (HR.out.below hb); clear hb; (try clear c0 c1); obtain ⟨c0, c1⟩ := HR.out.c2
  go_wp2
  have HL := Lib.hid HR.out.lt
  clear c0 c1
  go_loopw [4, 11] (fun u i wr => ∃ k : Nat, k ≤ n ∧ i = .int .i64 k ∧ Hid (Below w_.heap.size w_ wr ∧ LLr wr w_.heap.size u (prA G n k))) (fun _ i _ => n - (intOf i).toNat)
  case atStart => exact ⟨0, by omega, rfl, Below.refl _ _, LLr.nil _ _⟩
  case round =>
    obtain ⟨k, hk, rfl, HC⟩ := hrel
    by_cases hlt : k < n
    · go_wp2
      obtain ⟨wo, rfl⟩ : ∃ wo : World, wo = wr := ⟨_, rfl⟩
      go_loopw [4, 6] (fun u i wr => ∃ j : Nat, k + 1 ≤ j ∧ j ≤ n ∧ i = .int .i64 j ∧ Hid (Below w_.heap.size w_ wr ∧ LLr wr w_.heap.size u (prA G n k ++ prs G k j))) (fun _ i _ => n - (intOf i).toNat)
      case atStart => exact ⟨k + 1, by omega, by omega, by go_num, HC.out.1, by rw [prs_nil G k _ (Nat.le_refl _), List.append_nil]; exact HC.out.2⟩
      case round =>
        obtain ⟨j, hj1, hj2, rfl, HC⟩ := hrel
        obtain ⟨c0, c1⟩ := (HR.out.below HC.out.1).c2
        have hsz := (HR.out.below HC.out.1).lt
        have HN : Hid (prs G k (j + 1) = prs G k j ++ (if k < j ∧ G (k * 15 + j) = -1 then [[(k : Int), (j : Int)]] else [])) := rfl
        by_cases hlt2 : j < n
        · have hgl := (HGr.out.below HC.out.1).lt
          have p1 := (HGr.out.below HC.out.1).cell (i := k * 15 + j) (by omega)
          cases hq : (G (k * 15 + j) == -1)
          · have HQ : Hid (¬ G (k * 15 + j) = -1) := Lib.hid (by simpa using hq)
            go_wp2
            go_roundw
            case rel => exact ⟨j + 1, by omega, by omega, by go_num, HC.out.1, by rw [HN.out, if_neg (fun h => HQ.out h.2), List.append_nil]; exact HC.out.2⟩
            case measure => simp [intOf]; omega
          · have HQ : Hid (G (k * 15 + j) = -1) := Lib.hid (by simpa using hq)
            have hlen : (prA G n k ++ prs G k j).length ≤ 1000 := by
              have h1 := prA_len G hn k; have h2 := prs_len G k j
              simp only [List.length_append]; omega
            have HAL := Lib.hid (below_alloc wr (.cells #[.int .i64 (k : Int), .int .i64 (j : Int)] 2))
            have HB2 : Hid (Below w_.heap.size w_ (wr.alloc (.cells #[.int .i64 (k : Int), .int .i64 (j : Int)] 2))) := below_up HC.out.1 HAL.out
            have HLL : Hid (LLr (wr.alloc (.cells #[.int .i64 (k : Int), .int .i64 (j : Int)] 2)) w_.heap.size u4 (prA G n k ++ prs G k j)) := HC.out.2.below HAL.out
            have HI : Hid (Il (wr.alloc (.cells #[.int .i64 (k : Int), .int .i64 (j : Int)] 2)) (some ⟨wr.heap.size, 0, none⟩) [(k : Int), (j : Int)]) := Il.new wr [(k : Int), (j : Int)] 2
            have HF : Hid (Free (wr.alloc (.cells #[.int .i64 (k : Int), .int .i64 (j : Int)] 2)) w_.heap.size u4 (some ⟨wr.heap.size, 0, none⟩)) := HC.out.2.fresh (Nat.le_refl _) (by simp) HC.out.1.size
            obtain ⟨vs_, ho_, hi_⟩ := HLL.out; have hvl_ : vs_.length = (prA G n k ++ prs G k j).length := (by simpa using ho_.1); have HOO_ := Lib.hid ho_; have HII_ := Lib.hid hi_; clear ho_ hi_; have hbw_ := HB2.out.size; (try simp only [World.size_alloc] at hbw_); go_wp2_with (at_builtin; go_loud (refine wpList_append_own_at _ rfl _ _ 75 rfl (w_).heap.size 42 li0 (.slice none 0 0) 1 24 Try.underlying75 hli hli0 hli1 hli2 rfl (by decide) _ _ vs_ rfl (HOO_.out.alloc _) ⟨wr.heap.size + 1, 0, none⟩ 1 1 [.slice (some ⟨wr.heap.size, 0, none⟩) (2) (2)] rfl rfl (cells_newH (cw := wr.alloc (.cells #[.int .i64 (k : Int), .int .i64 (j : Int)] 2)) (by simp)) (by simp [Value.oneCell']) (by unfold maxLen; omega) (by omega) (by simp; omega) ?_); intro v2 w2 hown2 hg2 _ hat2); have HL2 := Lib.hid (LLr.snoc HII_.out hvl_ HI.out HF.out (below_alloc _ _) hg2 hown2 hat2); have HB3 : Hid (Below (w_).heap.size (w_) w2) := (HB2.out.alloc HB2.out.size _).grown hg2 (by simp; omega) (own_block HOO_.out); clear hown2 hg2 hat2 hbw_
            go_wp2
            go_roundw
            case rel => exact ⟨j + 1, by omega, by omega, by go_num, HB3.out, by rw [HN.out, if_pos ⟨by omega, HQ.out⟩, ← List.append_assoc]; exact HL2.out⟩
            case measure => simp [intOf]; omega
        · obtain rfl : j = n := by omega
          go_wp2
          go_roundw
          case rel => exact ⟨k + 1, by omega, by go_num, HC.out.1, by rw [prA]; exact HC.out.2⟩
          case measure => simp [intOf]; omega
    · obtain rfl : k = n := by omega
      go_wp2
      go_ret
      exact ⟨u4, rfl, by rw [hGG]; exact HC.out.2.base HW.out.size, HW.out.below HC.out.1⟩

theorem implLeave_any (v : Int) (A : Option Addr) (c : Nat) (xs : List Blk) (w : World) (hA : Bl w A xs) (hl : xs.length ≤ 1048576) :
    Calls Try.prog 47 #[.agg #[.int .i64 v, .slice A xs.length c]] w (LP w (leaveR v xs).1 (leaveR v xs).2) := by
  obtain ⟨ni0, hni, hni0, hni1, hni2⟩ := info_parts infoInt'
  cases hs : isSysB v xs
  · have HN : Hid (leaveR v xs = ([], 1)) := by unfold Hid leaveR; simp [hs]
    have HA := Lib.hid hA; clear hA; have HR := Lib.hid (Row.box w 30 (.int .i64 v) (.slice A xs.length c)); have HW := Lib.hid (Since.refl w); go_enter Try.func47, Try.ntmps47; go_wp2_with fail; replace HA := Lib.hid (HA.out.below (below_alloc _ (.cells #[.int .i64 v, .slice A xs.length c] 30))); replace HW := Lib.hid (HW.out.below (below_alloc _ (.cells #[.int .i64 v, .slice A xs.length c] 30)))
    refine (IsSystem_any v A c xs _ HA.out hl).mono ?_; rw [hs]; rintro e w_ ⟨rfl, hb⟩; replace HW := Lib.hid (HW.out.below hb); clear hb
    go_wp2
    go_ret2
    exact LP.nil (by rw [HN.out]) (by rw [HN.out]) HW.out
  · have HN : Hid (leaveR v xs = (leL xs v.toNat v.toNat, 0)) := by unfold Hid leaveR; simp [hs]
    have HS := Lib.hid (isSysB_iff.1 hs)
    have hv := HS.out.1
    have HA := Lib.hid hA; clear hA; have HR := Lib.hid (Row.box w 30 (.int .i64 v) (.slice A xs.length c)); have HW := Lib.hid (Since.refl w); go_enter Try.func47, Try.ntmps47; go_wp2_with fail; replace HA := Lib.hid (HA.out.below (below_alloc _ (.cells #[.int .i64 v, .slice A xs.length c] 30))); replace HW := Lib.hid (HW.out.below (below_alloc _ (.cells #[.int .i64 v, .slice A xs.length c] 30)))
    refine (IsSystem_any v A c xs _ HA.out hl).mono ?_; rw [hs]; rintro e w_ ⟨rfl, hb⟩; replace HA := Lib.hid (HA.out.below hb); replace HW := Lib.hid (HW.out.below hb); replace HR := Lib.hid (HR.out.below hb); clear hb; (try clear c0 c1); obtain ⟨c0, c1⟩ := HR.out.c2
    obtain ⟨n, rfl⟩ := Int.eq_ofNat_of_zero_le (by omega : 0 ≤ v)
    have HDG : Hid (∀ i, i < n → (cntL i (prA (gridN xs xs.length) n n) : Int) = (n : Int) - 1 - 2 * ((nums (atP i) xs).length : Int)) := fun i hi => leave_deg HS.out hi
    have HME := Lib.hid (prA_mem (gridN xs xs.length) n n)
    have hpl := prA_len (gridN xs xs.length) (v := n) (by omega) n
    go_wp2_with (at_make; refine wpList_make_full _ rfl _ _ 42 rfl w_.heap.size 2 ni0 _ 1 Try.underlying42 hni hni0 hni1 .i64 .i64 _ _ n rfl rfl rfl rfl (by rw [hni2]; omega) (by unfold maxLen; omega) (Nat.le_refl _) ?_; intro w0 hown0 hgrow0; have HB0 : Hid (Below w_.heap.size w_ w0) := below_grown (Below.refl _ _) hgrow0 (fun k hk => by cases hk); have HV : Hid (Va w0 w_.heap.size n (fun _ => 0)) := Va.make hown0; clear hown0 hgrow0; obtain ⟨e0, e1⟩ := (HR.out.below HB0.out).c2)
    refine (pairsLeft_any n A c xs _ (HA.out.below HB0.out) hl HS.out).mono ?_
    rintro e w1 ⟨u, rfl, hL, hb⟩
    obtain ⟨A', c', rfl⟩ := hL.slice
    have HL1 := Lib.hid hL
    have HB1 := Lib.hid (below_up HB0.out hb)
    have HV1 := Lib.hid (HV.out.below hb)
    clear hb hL c0 c1 e0 e1
    generalize prA (gridN xs xs.length) n n = ps at *
    go_wp2
    go_loopw [16] (fun i wr => ∃ k : Nat, k ≤ ps.length ∧ i = .int .i64 k ∧ Hid (Below w_.heap.size w_ wr ∧ LLr wr w0.heap.size (.slice A' ps.length c') ps ∧ Va wr w_.heap.size n (fun i => cntL i (ps.take k)))) (fun i _ => ps.length - (intOf i).toNat)
    case atStart => exact ⟨0, by omega, rfl, HB1.out, HL1.out, HV1.out⟩
    case round =>
      obtain ⟨k, hk, rfl, HC⟩ := hrel
      by_cases hlt : k < ps.length
      · obtain ⟨a, b, hp, hab, hbn⟩ := HME.out (nthLL ps k) (by simp [nthLL, hlt])
        obtain ⟨g, B, d, hA', hgl, p0, hI, hge, hbe⟩ := HC.out.2.1.at_ hlt
        have hvl := HV.out.lt
        subst hA'
        rw [hp] at p0 hI
        obtain ⟨b1, o1, hB, hb1, q0⟩ := hI.at_ (k := 0) (by simp)
        subst hB
        have hbe1 := hbe b1 rfl
        obtain ⟨b2, o2, hB2, hb2, q1⟩ := hI.at_ (k := 1) (by simp)
        simp only [Option.some.injEq, Addr.mk.injEq] at hB2
        obtain ⟨rfl, rfl, -⟩ := hB2
        simp only [nthI, List.getD_cons_zero, List.getD_cons_succ, List.length_cons, List.length_nil, Nat.add_zero, Nat.zero_add] at q0 q1 p0
        have hga := HC.out.2.2.lt
        have f0 := HC.out.2.2.cell (i := a) (by omega)
        have f1 := HC.out.2.2.cell (i := b) (by omega)
        have z0 := HC.out.2.2.frozen a
        have z1 := HC.out.2.2.frozen b
        have l0 := cntL_le a (ps.take k); have l1 := cntL_le b (ps.take k)
        have htl : (ps.take k).length ≤ 225 := by rw [List.length_take]; omega
        have HT := Lib.hid (fun i => cntL_take hlt i)
        have HP := Lib.hid hp
        clear hp hI hbe
        have hne : (b : Nat) ≠ a := by omega
        go_wp2
        go_roundw
        case rel =>
          refine ⟨k + 1, by omega, by go_num, (HC.out.1.setCell (Nat.le_refl _) _).setCell (Nat.le_refl _) _, ?_, ?_⟩
          · exact (HC.out.2.1.far _ HV.out.lt).far _ HV.out.lt
          · refine ((HC.out.2.2.set a _).set b _).ext fun i hi => ?_
            rw [HT.out i]
            have e : ps.getD k [] = [(a : Int), (b : Int)] := HP.out
            rw [e]
            have e2 : twoI [(a : Int), (b : Int)] i = (if a = i then 1 else 0) + (if b = i then 1 else 0) := by simp [twoI, nthI, Int.natCast_inj]
            rw [e2]
            unfold upd
            by_cases h1 : i = b
            · subst h1
              rw [if_pos rfl, if_neg (by omega), if_pos rfl]; push_cast; omega
            · rw [if_neg h1]
              by_cases h2 : i = a
              · subst h2
                rw [if_pos rfl, if_pos rfl, if_neg (by omega)]; push_cast; omega
              · rw [if_neg h2, if_neg (Ne.symm h2), if_neg (Ne.symm h1)]; push_cast; omega
        case measure => simp [intOf]; omega
      · obtain rfl : k = ps.length := by omega
        go_wp2
        go_ret2
        refine LP.mk (ns := (List.range n).map (fun i => (cntL i (ps.take ps.length) : Int))) (by simpa using HC.out.2.2.own (base := w.heap.size) HW.out.size (by unfold maxLen; omega)) ?_ (by rw [HN.out]) (HW.out.below HC.out.1)
        rw [HN.out, List.take_length, Int.toNat_natCast]
        refine List.map_congr_left fun i hi => ?_
        have := List.mem_range.1 hi
        rw [HDG.out i (by simpa using this)]

end Go.Proofs.Ytbiepcafnhhfgaa
