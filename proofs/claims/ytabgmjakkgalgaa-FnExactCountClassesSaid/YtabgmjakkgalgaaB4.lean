/- Plain laws and contracts, part 4; conditions: stated in each. -/
import Derived.StillTailTactics
import Derived.Deep.AppendLies
import Derived.Deep.RegionWith
import Derived.ProofKit
import Derived.Deep.Slices
import Derived.Lib.SmallJoins
import Derived.Test.YtabgmjakkgalgaaB1
import Derived.Test.YtabgmjakkgalgaaB2
import Derived.Test.YtabgmjakkgalgaaB3
set_option linter.unusedSimpArgs false
set_option linter.unusedVariables false
/- The contract of the program's search for completions; conditions: stated in it. -/
namespace Go.Proofs.Ytabgmjakkgalgaa
open Go.RowKit
set_option maxHeartbeats 2000000
set_option maxRecDepth 100000
set_option linter.unusedSimpArgs false
set_option linter.unusedVariables false

/-- what is asked of what a search calls; C: the finds so far, S: the blocks that hold them -/
structure EachC (B cb g n : Nat) (f : Nat) (fa la : Array Value) (cont : List (List Blk) → Bool) (Inv : List (List Blk) → (Nat → Prop) → World → Prop) (V : List Blk → Prop) (N : Nat) : Prop where
  eg : ∀ args w, (callFunc f args).run Try.prog w = .ok (.enter f args) w
  stab : ∀ C S w w' row, Inv C S w → w.grownBy w' row → (∀ k, row = some k → ¬ S k ∧ B ≤ k) → Inv C S w'
  lt : ∀ C S w k, Inv C S w → S k → k < w.heap.size
  call : ∀ C S L W A c, V L → C.length < N → (C = [] ∨ cont C = true) → Inv C S W → B ≤ W.heap.size → Bl W A L → 
    Calls Try.prog f (fa ++ #[.slice A L.length c] ++ la) W fun e w' => e = .returned (.bool (cont (C ++ [L]))) ∧ ∃ S', Inv (C ++ [L]) S' w' ∧ W.heap.size ≤ w'.heap.size ∧ (∀ k, k < W.heap.size → S' k → S k) ∧ ∀ k, k < W.heap.size → B ≤ k → ¬ S k → w'.heap[k]? = W.heap[k]?

/-- what a search leaves as it was -/
structure KeptC (B : Nat) (w w' : World) (S S' : Nat → Prop) (cb g : Nat) (u u' : Value) : Prop where
  size : w.heap.size ≤ w'.heap.size
  set : ∀ k, k < w.heap.size → S' k → S k
  heap : ∀ k, k < w.heap.size → B ≤ k → ¬ S k → k ≠ cb → k ≠ g → u.ownBlock ≠ some k → w'.heap[k]? = w.heap[k]?
  row : u'.ownBlock = u.ownBlock ∨ ∃ q, u'.ownBlock = some q ∧ w.heap.size ≤ q
theorem KeptC.refl (B : Nat) (w : World) (S : Nat → Prop) (cb g : Nat) (u : Value) : KeptC B w w S S cb g u u := ⟨Nat.le_refl _, fun _ _ h => h, fun _ _ _ _ _ _ _ => rfl, .inl rfl⟩
theorem KeptC.trans {B : Nat} {w w1 w2 : World} {S S1 S2 : Nat → Prop} {cb g : Nat} {u u1 u2 : Value} (h : KeptC B w w1 S S1 cb g u u1) (k : KeptC B w1 w2 S1 S2 cb g u1 u2) : KeptC B w w2 S S2 cb g u u2 := by
  have hz := h.size
  refine ⟨Nat.le_trans h.size k.size, fun j hj hS => h.set j hj (k.set j (by omega) hS), fun j hj hB hS h1 h2 h3 => ?_, ?_⟩
  · refine (k.heap j (by omega) hB (fun e => hS (h.set j hj e)) h1 h2 ?_).trans (h.heap j hj hB hS h1 h2 h3)
    rcases h.row with e | ⟨q, e, hq⟩
    · rw [e]; exact h3
    · rw [e]; intro e2; simp only [Option.some.injEq] at e2; omega
  · rcases k.row with e | ⟨q, e, hq⟩
    · rw [e]; exact h.row
    · exact .inr ⟨q, e, by omega⟩
theorem KeptC.grown {B : Nat} {w w1 w2 : World} {S S1 : Nat → Prop} {cb g : Nat} {u u1 : Value} (h : KeptC B w w1 S S1 cb g u u1) {row : Option Nat} (k : w1.grownBy w2 row) (hr : row = none ∨ row = some cb ∨ row = some g ∨ row = u1.ownBlock) : KeptC B w w2 S S1 cb g u u1 := by
  refine h.trans ⟨k.size, fun _ _ e => e, fun j hj _ _ h1 h2 h3 => k.block j hj ?_, .inl rfl⟩
  rcases hr with rfl | rfl | rfl | rfl
  · exact fun e => by cases e
  · exact fun e => by simp only [Option.some.injEq] at e; exact h1 e
  · exact fun e => by simp only [Option.some.injEq] at e; exact h2 e
  · exact fun e => h3 e.symm
theorem OB.cut {w : World} {B : Nat} {A : Option Addr} {n c : Nat} {L : List Blk} {x : Blk} (h : OB w B (.slice A n c) (L ++ [x])) : OB w B (.slice A L.length c) L ∧ L.length + 1 ≤ c ∧ ∃ g, A = some ⟨g, 0, none⟩ := by
  unfold OB at *
  rw [cells3'_app, List.length_append, List.length_singleton] at h
  have hl := h.1
  rcases h.2 with ⟨_, hn⟩ | ⟨g, cap, cur, hv, hge, hg, hnc, hcap, hcs, htk⟩
  · omega
  · simp only [Value.slice.injEq] at hv
    obtain ⟨rfl, rfl, rfl⟩ := hv
    refine ⟨⟨cells3'_len L, .inr ⟨g, c, cur, rfl, hge, hg, by omega, hcap, hcs, ?_⟩⟩, hnc, g, rfl⟩
    have h3 : (cur.toList.take ((L.length + 1) * 3)).take (L.length * 3) = (cells3' L ++ cells3' [x]).take (L.length * 3) := by rw [htk]
    rw [List.take_take, Nat.min_eq_left (by omega), List.take_left' (cells3'_len L)] at h3
    exact h3

theorem loopG_mono {α : Type} {f : Nat → List α} {p : Nat → Bool} {a k : Nat} : ∀ n, k ≤ n → (loopG f p a k).length ≤ (loopG f p a n).length := by
  intro n
  induction n with
  | zero => intro h; obtain rfl : k = 0 := by omega
            exact Nat.le_refl _
  | succ n ih =>
    intro h
    by_cases e : k = n + 1
    · subst e; exact Nat.le_refl _
    · have := ih (by omega); rw [loopG, List.length_append]; omega
theorem runG_len {α : Type} (cont : List α → Bool) : ∀ (A C : List α), (runG cont A C).1.length ≤ C.length + A.length := by
  intro A
  induction A with
  | nil => intro C; simp [runG]
  | cons L A ih =>
    intro C
    rw [runG]
    split
    · have := ih (C ++ [L]); simp at this ⊢; omega
    · simp
theorem from_zero (B cb g n f : Nat) (fa la : Array Value) (cont : List (List Blk) → Bool) (Inv : List (List Blk) → (Nat → Prop) → World → Prop) (V : List Blk → Prop) (N : Nat) (hE : EachC B cb g n f fa la cont Inv V N) (hn : n ≤ 15) (m : Nat) (L : List Blk) (C : List (List Blk)) (S : Nat → Prop) (u : Value) (G : Nat → Int) (a0 : Nat) (w : World)
    (hc : cntC n m = 0) (ha : a0 ≤ n) (hlow : ∀ j, j < a0 * 16 → frK n m j = false) (hV : V L) (hN : C.length < N) (hgo : C = [] ∨ cont C = true) (hI : Inv C S w) (hC : Cb w cb n g u (.func (.func f) fa la)) (hG : Gr w g G) (hM : GM G m) (hO : OB w B u L) (hS1 : ¬ S cb) (hS2 : ¬ S g) (hB1 : B ≤ cb) (hB2 : B ≤ g) (hS3 : ∀ b, u.ownBlock = some b → ¬ S b) (hBw : B ≤ w.heap.size) :
    Calls Try.prog 98 #[.pointer (some ⟨cb, 0, none⟩), .int .i64 (a0 : Int)] w fun e w' => ∃ C' S' fl u' G', e = .returned (.bool fl) ∧ runG cont (enumC n 0 m L) C = (C', fl) ∧ Inv C' S' w' ∧ Cb w' cb n g u' (.func (.func f) fa la) ∧ Gr w' g G' ∧ GM G' m ∧ OB w' B u' L ∧ (∀ b, u'.ownBlock = some b → ¬ S' b) ∧ KeptC B w w' S S' cb g u u' := by
  have eg := hE.eg
  have HE := Lib.hid hE; have HI := Lib.hid hI; have HC := Lib.hid hC; have HG := Lib.hid hG; have HM := Lib.hid hM; have HO := Lib.hid hO; have HV := Lib.hid hV; have HL := Lib.hid hlow; have HNN := Lib.hid hN
  have HS := Lib.hid (And.intro hS1 (And.intro hS2 hS3))
  have HNX : Hid (nxR n m = (0, 0, false)) := by unfold Hid nxR; rw [cntC_zero.1 hc]; rfl
  clear hE hI hC hG hM hO hV hS1 hS2 hS3 hlow hN
  go_enter Try.func98, Try.ntmps98
  go_wp2_with fail
  refine (next_any cb n g u (.func (.func f) fa la) G m a0 _ HC.out HG.out HM.out hn ha HL.out).mono ?_
  rw [HNX.out]
  rintro e w1 ⟨rfl, hb⟩
  have HB1 := Lib.hid hb; clear hb
  obtain ⟨A, c, rfl⟩ := own_slice HO.out
  obtain ⟨c0, c1, c2, c3⟩ := (HC.out.below HB1.out).c4
  have hcl := (HC.out.below HB1.out).lt
  go_wp2
  go_still_tail 8, (by kernel_rfl)
  change wpList _ _ _ _ _ w1.drew
  have HB2 := Lib.hid (below_up HB1.out (below_drew w1))
  generalize w1.drew = w2 at *
  clear c0 c1 c2 c3 hcl
  obtain ⟨c0, c1, c2, c3⟩ := (HC.out.below HB2.out).c4
  have hcl := (HC.out.below HB2.out).lt
  have HI2 : Hid (Inv C S w2) := HE.out.stab _ _ _ _ none HI.out (grown_below HB2.out none) (fun k e => by cases e)
  have hz2 := HB2.out.size
  go_wp2_with fail
  refine (HE.out.call C S L w2 A c HV.out HNN.out hgo HI2.out (by omega) (OB.bl (HO.out.below HB2.out))).mono ?_
  rintro e w3 ⟨rfl, S', hI3, hs3, hss, hk3⟩
  have HI3 := Lib.hid hI3; have HSS := Lib.hid hss; have HK3 := Lib.hid hk3
  clear hI3 hss hk3
  go_wp2
  go_ret
  have hC2 := HC.out.below HB2.out
  have hG2 := HG.out.below HB2.out
  have hO2 := HO.out.below HB2.out
  refine ⟨C ++ [L], S', cont (C ++ [L]), .slice A L.length c, G, rfl, runG_one _ _ _, HI3.out, hC2.keep (HK3.out _ hC2.lt hB1 HS.out.1), (HK3.out _ hG2.lt hB2 HS.out.2.1).trans hG2, HM.out, ?_, ?_, ?_⟩
  · refine own_zone' hO2 fun k hk1 hk2 => HK3.out k hk2 (own_block hO2 k hk1) (HS.out.2.2 k hk1)
  · intro b hb hSb
    exact HS.out.2.2 b hb (HSS.out b (hO2.lt b hb).2 hSb)
  · refine ⟨by omega, fun k hk hS => HSS.out k (by omega) hS, fun k hk h1 h2 h3 h4 h5 => ?_, .inl rfl⟩
    exact (HK3.out k (by omega) h1 h2).trans (HB2.out.block k hk)

theorem Row.c3 {w : World} {g : Nat} {t : TypeId} {x y z : Value} (h : Row w g t #[x, y, z]) : w.cell? ⟨g, 0, none⟩ = some x ∧ w.cell? ⟨g, 1, none⟩ = some y ∧ w.cell? ⟨g, 2, none⟩ = some z := ⟨(Row.cell h 0).trans rfl, (Row.cell h 1).trans rfl, (Row.cell h 2).trans rfl⟩
theorem left_is {g a b p : Nat} {G : Nat → Int} {r : Bool} {w : World} (h : leftB G (blkN a b p) = r) (hab : a < b) (hbp : b < p) (hp : p < 15) (hG : Gr w g G) :
    Calls Try.prog 103 #[.pointer (some ⟨g, 0, none⟩), .agg #[.int .i64 (a : Int), .int .i64 (b : Int), .int .i64 (p : Int)]] w fun e w' => e = .returned (.bool r) ∧ Below w.heap.size w w' := h ▸ isLeft_any g G (blkN a b p) w hG (blk_good hab hbp hp)
theorem Cb.grown {w w' : World} {cb n g : Nat} {u ev : Value} {row : Option Nat} (h : Cb w cb n g u ev) (hg : w.grownBy w' row) (hne : row ≠ some cb) : Cb w' cb n g u ev := Row.grown h hg hne
theorem Gr.grown {w w' : World} {g : Nat} {G : Nat → Int} {row : Option Nat} (h : Gr w g G) (hg : w.grownBy w' row) (hne : row ≠ some g) : Gr w' g G := (hg.block g h.lt (fun e => hne e.symm)).trans h
theorem put_is (is : Bool) (g a b p : Nat) (G : Nat → Int) (w : World) (hG : Gr w g G) (hab : a < b) (hbp : b < p) (hp : p < 15) :
    Calls Try.prog 104 #[.pointer (some ⟨g, 0, none⟩), .agg #[.int .i64 (a : Int), .int .i64 (b : Int), .int .i64 (p : Int)], .bool is] w fun e w' => e = .returned (.tuple #[]) ∧ Gr w' g (putG G (blkN a b p) is) ∧ w.grownBy w' (some g) := by
  cases is
  · exact put_false g G (blkN a b p) w hG (blk_good hab hbp hp)
  · exact put_true g G (blkN a b p) w hG (blk_good hab hbp hp)
theorem from_comp (B cb g n f : Nat) (fa la : Array Value) (cont : List (List Blk) → Bool) (Inv : List (List Blk) → (Nat → Prop) → World → Prop) (V : List Blk → Prop) (N : Nat) (hE : EachC B cb g n f fa la cont Inv V N) (hn : n ≤ 15) (hcg : cb ≠ g) (hB1 : B ≤ cb) (hB2 : B ≤ g) :
    ∀ (d m : Nat) (L : List Blk) (C : List (List Blk)) (S : Nat → Prop) (u : Value) (G : Nat → Int) (a0 : Nat) (w : World), cntC n m = 3 * d → a0 ≤ n → (∀ j, j < a0 * 16 → frK n m j = false) → (∀ M ∈ enumC n d m L, V M) → C.length + (enumC n d m L).length ≤ N → L.length + d ≤ 1000 → (C = [] ∨ cont C = true) → Inv C S w → Cb w cb n g u (.func (.func f) fa la) → Gr w g G → GM G m → OB w B u L → ¬ S cb → ¬ S g → (∀ b, u.ownBlock = some b → ¬ S b) → B ≤ w.heap.size →
    Calls Try.prog 98 #[.pointer (some ⟨cb, 0, none⟩), .int .i64 (a0 : Int)] w fun e w' => ∃ C' S' fl u' G', e = .returned (.bool fl) ∧ runG cont (enumC n d m L) C = (C', fl) ∧ Inv C' S' w' ∧ Cb w' cb n g u' (.func (.func f) fa la) ∧ Gr w' g G' ∧ GM G' m ∧ OB w' B u' L ∧ (∀ b, u'.ownBlock = some b → ¬ S' b) ∧ KeptC B w w' S S' cb g u u' := by
  intro d
  induction d with
  | zero =>
    intro m L C S u G a0 w hc ha hlow hV hN hl hgo hI hC hG hM hO hS1 hS2 hS3 hBw
    exact from_zero B cb g n f fa la cont Inv V N hE hn m L C S u G a0 w (by omega) ha hlow (hV L (by rw [enumC]; simp)) (by rw [enumC, List.length_singleton] at hN; omega) hgo hI hC hG hM hO hS1 hS2 hB1 hB2 hS3 hBw
  | succ d ih =>
    intro m L C S u G a0 w hc ha hlow hV hN hl hgo hI hC hG hM hO hS1 hS2 hS3 hBw
    have HIH := Lib.hid ih; clear ih
    have hlt : nxt n m < 256 := by
      have := nxt_le n m
      by_cases e : nxt n m = 256
      · have := cntC_zero.2 e; omega
      · omega
    obtain ⟨a, b, hnx, hab, hbn, hbit⟩ := nxt_ab hn hlt
    have HNX : Hid (nxR n m = (a, b, true)) := by unfold Hid nxR; rw [if_pos hlt, hnx]; have e1 : (a * 16 + b) / 16 = a := (by omega); have e2 : (a * 16 + b) % 16 = b := (by omega); rw [e1, e2]
    have HLOW : Hid (∀ j, j < a * 16 + b → frK n m j = false) := fun j hj => nxt_min (by omega)
    have HEN : Hid (enumC n (d + 1) m L = loopG (fun p => enumC n d (m ||| prM a b p) (L ++ [blkN a b p])) (fun p => fitQ3 m a b p) (b + 1) n) := enumC_succ d L (by omega) hnx
    have HST : Hid (∀ i, loopG (fun p => enumC n d (m ||| prM a b p) (L ++ [blkN a b p])) (fun p => fitQ3 m a b p) (b + 1) (i + 1) = loopG (fun p => enumC n d (m ||| prM a b p) (L ++ [blkN a b p])) (fun p => fitQ3 m a b p) (b + 1) i ++ (if b + 1 ≤ i ∧ fitQ3 m a b i = true then enumC n d (m ||| prM a b i) (L ++ [blkN a b i]) else [])) := fun i => rfl
    have HSTOP : Hid (∀ k D, runG cont (loopG (fun p => enumC n d (m ||| prM a b p) (L ++ [blkN a b p])) (fun p => fitQ3 m a b p) (b + 1) k) C = (D, false) → k ≤ n → runG cont (loopG (fun p => enumC n d (m ||| prM a b p) (L ++ [blkN a b p])) (fun p => fitQ3 m a b p) (b + 1) n) C = (D, false)) := fun k D h hk => runG_stop h n hk
    have HZ : Hid (loopG (fun p => enumC n d (m ||| prM a b p) (L ++ [blkN a b p])) (fun p => fitQ3 m a b p) (b + 1) (b + 1) = []) := loopG_nil _ _ _ _ (Nat.le_refl _)
    have HVM : Hid (∀ p, b + 1 ≤ p → p < n → fitQ3 m a b p = true → ∀ M ∈ enumC n d (m ||| prM a b p) (L ++ [blkN a b p]), V M) := fun p h1 h2 h3 M hM => hV M (by rw [HEN.out, loopG_mem]; exact ⟨p, h1, h2, h3, hM⟩)
    have HNB : Hid (C.length + (loopG (fun p => enumC n d (m ||| prM a b p) (L ++ [blkN a b p])) (fun p => fitQ3 m a b p) (b + 1) n).length ≤ N) := by unfold Hid; rw [← HEN.out]; exact hN
    have HMONO : Hid (∀ k, k ≤ n → (loopG (fun p => enumC n d (m ||| prM a b p) (L ++ [blkN a b p])) (fun p => fitQ3 m a b p) (b + 1) k).length ≤ (loopG (fun p => enumC n d (m ||| prM a b p) (L ++ [blkN a b p])) (fun p => fitQ3 m a b p) (b + 1) n).length) := fun k hk => loopG_mono n hk
    have HCNT : Hid (∀ p, b + 1 ≤ p → p < n → fitQ3 m a b p = true → cntC n (m ||| prM a b p) = 3 * d) := fun p h1 h2 h3 => by have := cntC_put hn hab h1 h2 h3; omega
    have HE := Lib.hid hE; have HI := Lib.hid hI; have HC := Lib.hid hC; have HG := Lib.hid hG; have HM := Lib.hid hM; have HO := Lib.hid hO; have HL := Lib.hid hlow
    have HS := Lib.hid (And.intro hS1 (And.intro hS2 hS3))
    have HGO := Lib.hid hgo
    clear hE hI hC hG hM hO hS1 hS2 hS3 hlow hV hN hc hgo
    generalize loopG (fun p => enumC n d (m ||| prM a b p) (L ++ [blkN a b p])) (fun p => fitQ3 m a b p) (b + 1) = SQ at *
    have HHLT := Lib.hid hlt; have HHNX := Lib.hid hnx; have HBIT := Lib.hid hbit
    clear hlt hnx hbit
    go_enter Try.func98, Try.ntmps98
    go_wp2_with fail
    refine (next_any cb n g u (.func (.func f) fa la) G m a0 _ HC.out HG.out HM.out hn ha HL.out).mono ?_
    rw [HNX.out]
    rintro e w1 ⟨rfl, hb⟩
    have HB1 := Lib.hid hb; clear hb
    obtain ⟨A, c, rfl⟩ := own_slice HO.out
    go_wp2
    have HK0 : Hid (KeptC B w w1 S S cb g (.slice A L.length c) (.slice A L.length c)) := (KeptC.refl B w S cb g _).grown (grown_below HB1.out none) (.inl rfl)
    have HI1 : Hid (Inv C S w1) := HE.out.stab _ _ _ _ none HI.out (grown_below HB1.out none) (fun k e => by cases e)
    go_loopw [7] (fun i wr => ∃ (k : Nat) (C' : List (List Blk)) (S' : Nat → Prop) (u' : Value) (G' : Nat → Int), b + 1 ≤ k ∧ k ≤ n ∧ i = .int .i64 k ∧ Hid (runG cont (SQ k) C = (C', true) ∧ Inv C' S' wr ∧ Cb wr cb n g u' (.func (.func f) fa la) ∧ Gr wr g G' ∧ GM G' m ∧ OB wr B u' L ∧ (∀ b, u'.ownBlock = some b → ¬ S' b) ∧ KeptC B w wr S S' cb g (.slice A L.length c) u')) (fun i _ => n - (intOf i).toNat)
    case atStart => exact ⟨b + 1, C, S, _, G, by omega, by omega, by go_num, by rw [HZ.out]; rfl, HI1.out, HC.out.below HB1.out, HG.out.below HB1.out, HM.out, HO.out.below HB1.out, HS.out.2.2, HK0.out⟩
    case round =>
      obtain ⟨k, C', S', u', G', hk1, hk2, rfl, HD⟩ := hrel
      obtain ⟨hrun, hI, hC, hG, hM, hO, hS3, hK⟩ := HD.out
      have HRUN := Lib.hid hrun; have HIw := Lib.hid hI; have HCw := Lib.hid hC; have HGw := Lib.hid hG; have HMw := Lib.hid hM; have HOw := Lib.hid hO; have HSw := Lib.hid hS3; have HKw := Lib.hid hK
      obtain ⟨c0, c1, c2, c3⟩ := hC.c4
      have hcl := hC.lt
      clear hrun hI hC hG hM hO hS3 hK HD
      by_cases hkn : k < n
      · obtain ⟨A', c', rfl⟩ := own_slice HOw.out
        have HBX := Lib.hid (Row.new wr 80 #[.int .i64 (a : Int), .int .i64 (b : Int), .int .i64 (k : Int)])
        have HBa := Lib.hid (below_alloc wr (.cells #[.int .i64 (a : Int), .int .i64 (b : Int), .int .i64 (k : Int)] 80))
        have HZW : Hid ((wr.alloc (.cells #[.int .i64 (a : Int), .int .i64 (b : Int), .int .i64 (k : Int)] 80)).heap.size = wr.heap.size + 1) := World.size_alloc _ _
        go_wp2
        clear c0 c1 c2 c3 hcl
        generalize wr.alloc _ = w2 at *
        obtain ⟨c0, c1, c2, c3⟩ := (HCw.out.below HBa.out).c4
        obtain ⟨x0, x1, x2⟩ := HBX.out.c3
        have hxl := HBX.out.lt
        have hcl := (HCw.out.below HBa.out).lt
        have HFIT := Lib.hid (HMw.out.left hab (by omega : b < k) (by omega : k < 15))
        have hkb : b + 1 ≤ k := hk1
        cases hf : fitQ3 m a b k
        · rw [hf] at HFIT
          refine wp_region_ge_lit (by kernel_rfl) (by kernel_rfl) ?_; (repeat (go_big_quiet_step ((go_at_call 103; exact ge_call (left_is HFIT.out (by omega) (by omega) (by omega) (HGw.out.below (below_up HBa.out (ge_below _ _)))))))); refine wpQuiet_nil ?_
          rintro w3 ⟨x, rfl⟩
          have HB3 := Lib.hid (below_up HBa.out (ge_below w2 x))
          go_wp2
          go_roundw
          case rel =>
            refine ⟨k + 1, C', S', _, G', by omega, by omega, by go_num, ?_, ?_, HCw.out.below HB3.out, HGw.out.below HB3.out, HMw.out, HOw.out.below HB3.out, HSw.out, HKw.out.grown (grown_below HB3.out none) (.inl rfl)⟩
            · rw [HST.out k, if_neg (by rw [hf]; simp), List.append_nil]; exact HRUN.out
            · exact HE.out.stab _ _ _ _ none HIw.out (grown_below HB3.out none) (fun k e => by cases e)
          case measure => simp [intOf]; omega
        · rw [hf] at HFIT
          refine wp_region_ge_lit (by kernel_rfl) (by kernel_rfl) ?_; (repeat (go_big_quiet_step ((go_at_call 103; exact ge_call (left_is HFIT.out (by omega) (by omega) (by omega) (HGw.out.below (below_up HBa.out (ge_below _ _)))))))); refine wpQuiet_nil ?_
          rintro w3 ⟨x, rfl⟩
          have HB3 := Lib.hid (below_up HBa.out (ge_below w2 x))
          have HBX3 := Lib.hid (HBX.out.below (ge_below w2 x))
          have HZ3 := Lib.hid (ge_below w2 x).size
          generalize ge w2 x = w3 at *
          clear c0 c1 c2 c3 x0 x1 x2 hxl hcl
          obtain ⟨c0, c1, c2, c3⟩ := (HCw.out.below HB3.out).c4
          obtain ⟨x0, x1, x2⟩ := HBX3.out.c3
          have hxl := HBX3.out.lt
          have hcl := (HCw.out.below HB3.out).lt
          have HI3 : Hid (Inv C' S' w3) := HE.out.stab _ _ _ _ none HIw.out (grown_below HB3.out none) (fun k e => by cases e)
          have HLT := Lib.hid (fun k h => HE.out.lt _ _ _ k HIw.out h)
          have HK3 := Lib.hid (HKw.out.grown (grown_below HB3.out none) (.inl rfl))
          have HC3 := Lib.hid (HCw.out.below HB3.out); have HG3 := Lib.hid (HGw.out.below HB3.out); have HO3 := Lib.hid (HOw.out.below HB3.out)
          have HGLT := Lib.hid HGw.out.lt
          have HOLT : Hid (∀ b, (Value.slice A' L.length c').ownBlock = some b → b < wr.heap.size) := fun b e => (HOw.out.lt b e).2
          have HCLT := Lib.hid HCw.out.lt
          have HNS : Hid (¬ S' cb ∧ ¬ S' g) := ⟨fun h => HS.out.1 (HKw.out.set _ HC.out.lt h), fun h => HS.out.2.1 (HKw.out.set _ HG.out.lt h)⟩
          obtain ⟨q, hq⟩ : ∃ q, q = wr.heap.size := ⟨_, rfl⟩
          rw [← hq] at x0 x1 x2 hxl HBX3 HZW HLT HGLT HCLT HOLT
          have HQ : Hid (B ≤ q) := by have := HCLT.out; unfold Hid; omega
          rw [← hq]
          clear HIw HCw HGw HOw HKw HBX HBa HB3 hq HZ3 HZW
          go_wp2
          go_still_tail 5, (by kernel_rfl)
          change wpList _ _ _ _ _ w3.drew
          replace HK3 := Lib.hid (HK3.out.grown (grown_below (below_drew w3) none) (.inl rfl))
          replace HI3 : Hid (Inv C' S' w3.drew) := HE.out.stab _ _ _ _ none HI3.out (grown_below (below_drew w3) none) (fun k e => by cases e)
          replace HC3 := Lib.hid (HC3.out.below (below_drew w3)); replace HG3 := Lib.hid (HG3.out.below (below_drew w3)); replace HO3 := Lib.hid (HO3.out.below (below_drew w3)); replace HBX3 := Lib.hid (HBX3.out.below (below_drew w3))
          generalize w3.drew = w4 at *
          go_wp2_with fail
          refine (put_is true g a b k G' w4 HG3.out (by omega) (by omega) (by omega)).mono ?_
          rintro e w5 ⟨rfl, hG5, hg5⟩
          have HG5 := Lib.hid hG5; have HGR5 := Lib.hid hg5
          have HK5 := Lib.hid (HK3.out.grown hg5 (.inr (.inr (.inl rfl))))
          have HI5 : Hid (Inv C' S' w5) := HE.out.stab _ _ _ _ _ HI3.out hg5 (fun k e => by simp only [Option.some.injEq] at e; subst e; exact ⟨HNS.out.2, hB2⟩)
          have HC5 : Hid (Cb w5 cb n g (.slice A' L.length c') (.func (.func f) fa la)) := Row.grown HC3.out hg5 (fun e => by simp only [Option.some.injEq] at e; exact hcg e.symm)
          have HX5 := Lib.hid (Row.grown HBX3.out hg5 (fun e => by simp only [Option.some.injEq] at e; have := HGLT.out; omega))
          have HO5 : Hid (OB w5 B (.slice A' L.length c') L) := World.ownsRow.kept HO3.out hg5 (.inr (own_typed HO3.out ⟨gcells G', (HG3.out : Row w4 g 138 _)⟩ (by decide)))
          clear hG5 hg5 c0 c1 c2 c3 x0 x1 x2 hxl hcl
          obtain ⟨c0, c1, c2, c3⟩ := HC5.out.c4
          obtain ⟨x0, x1, x2⟩ := HX5.out.c3
          have hxl := HX5.out.lt
          have hcl := HC5.out.lt
          have cf := HC5.out.frozen 2
          go_wp2
          obtain ⟨bi0, hbi, hbi0, hbi1, hbi2⟩ := info_parts infoBlk'
          have HROW : Hid ((Value.slice A' L.length c').ownBlock ≠ some cb ∧ (Value.slice A' L.length c').ownBlock ≠ some g ∧ (Value.slice A' L.length c').ownBlock ≠ some q) := ⟨own_typed HO5.out ⟨_, HC5.out⟩ (by decide), own_typed HO5.out ⟨gcells (putG G' (blkN a b k) true), (HG5.out : Row w5 g 138 _)⟩ (by decide), fun e => Nat.lt_irrefl _ (HOLT.out _ e)⟩
          refine wp_region_noPanic ?_
          refine AnyBut.begin (N := 10) (S := (fun w' => w'.cell? ⟨cb, 2, none⟩ = some (.slice A' L.length c') ∧ w'.cell? ⟨q, 0, none⟩ = some (.int .i64 (a : Int)) ∧ w'.cell? ⟨q, 1, none⟩ = some (.int .i64 (b : Int)) ∧ w'.cell? ⟨q, 2, none⟩ = some (.int .i64 (k : Int)))) (by kernel_rfl) ?_
          have hS0 : (fun w' => w'.cell? ⟨cb, 2, none⟩ = some (.slice A' L.length c') ∧ w'.cell? ⟨q, 0, none⟩ = some (.int .i64 (a : Int)) ∧ w'.cell? ⟨q, 1, none⟩ = some (.int .i64 (b : Int)) ∧ w'.cell? ⟨q, 2, none⟩ = some (.int .i64 (k : Int))) w5.drew := ⟨c2, x0, x1, x2⟩
          refine AnyBut.take (i := 0) (v := ?_) rfl rfl (by decide) (by kernel_rfl) (by kernel_rfl) (by kernel_rfl) (by kernel_rfl) (fun _ _ _ h => h) (Or.inl ⟨by rfl, ?_⟩) hS0 ?_; rotate_left; (focus (intro W hSw; (try dsimp only at hSw); obtain ⟨z0, z1, z2, z3⟩ := hSw; go_simp; (try with_reducible rfl))); (try simp only [Act.put, List.setIfInBounds_toArray, List.set_cons_zero, List.set_cons_succ]); refine AnyBut.take (i := 1) (v := ?_) rfl rfl (by decide) (by kernel_rfl) (by kernel_rfl) (by kernel_rfl) (by kernel_rfl) (fun _ _ _ h => h) (Or.inl ⟨by rfl, ?_⟩) hS0 ?_; rotate_left; (focus (intro W hSw; (try dsimp only at hSw); obtain ⟨z0, z1, z2, z3⟩ := hSw; go_simp; (try with_reducible rfl))); (try simp only [Act.put, List.setIfInBounds_toArray, List.set_cons_zero, List.set_cons_succ]); refine AnyBut.take (i := 2) (v := ?_) rfl rfl (by decide) (by kernel_rfl) (by kernel_rfl) (by kernel_rfl) (by kernel_rfl) (fun _ _ _ h => h) (Or.inl ⟨by rfl, ?_⟩) hS0 ?_; rotate_left; (focus (intro W hSw; (try dsimp only at hSw); obtain ⟨z0, z1, z2, z3⟩ := hSw; go_simp; (try with_reducible rfl))); (try simp only [Act.put, List.setIfInBounds_toArray, List.set_cons_zero, List.set_cons_succ]); refine AnyBut.take (i := 3) (v := ?_) rfl rfl (by decide) (by kernel_rfl) (by kernel_rfl) (by kernel_rfl) (by kernel_rfl) (fun _ _ _ h => h) (Or.inl ⟨by rfl, ?_⟩) hS0 ?_; rotate_left; (focus (intro W hSw; (try dsimp only at hSw); obtain ⟨z0, z1, z2, z3⟩ := hSw; go_simp; (try with_reducible rfl))); (try simp only [Act.put, List.setIfInBounds_toArray, List.set_cons_zero, List.set_cons_succ]); refine AnyBut.take (i := 4) (v := ?_) rfl rfl (by decide) (by kernel_rfl) (by kernel_rfl) (by kernel_rfl) (by kernel_rfl) (fun _ _ _ h => h) (Or.inl ⟨by rfl, ?_⟩) hS0 ?_; rotate_left; (focus (intro W hSw; (try dsimp only at hSw); obtain ⟨z0, z1, z2, z3⟩ := hSw; go_simp; (try with_reducible rfl))); (try simp only [Act.put, List.setIfInBounds_toArray, List.set_cons_zero, List.set_cons_succ]); refine AnyBut.take (i := 5) (v := ?_) rfl rfl (by decide) (by kernel_rfl) (by kernel_rfl) (by kernel_rfl) (by kernel_rfl) (fun _ _ _ h => h) (Or.inl ⟨by rfl, ?_⟩) hS0 ?_; rotate_left; (focus (intro W hSw; (try dsimp only at hSw); obtain ⟨z0, z1, z2, z3⟩ := hSw; go_simp; (try with_reducible rfl))); (try simp only [Act.put, List.setIfInBounds_toArray, List.set_cons_zero, List.set_cons_succ])
          have HX5d := Lib.hid (HX5.out.below (below_drew w5)); have HC5d := Lib.hid (HC5.out.below (below_drew w5)); have HO5d := Lib.hid (HO5.out.below (below_drew w5)); have HG5d := Lib.hid (HG5.out.below (below_drew w5))
          have HK5d := Lib.hid (HK5.out.grown (grown_below (below_drew w5) none) (.inl rfl))
          have HI5d : Hid (Inv C' S' w5.drew) := HE.out.stab _ _ _ _ none HI5.out (grown_below (below_drew w5) none) (fun k e => by cases e)
          have HSX : Hid (∀ w', w5.drew.grownBy w' (Value.slice A' L.length c').ownBlock → w'.cell? ⟨cb, 2, none⟩ = some (.slice A' L.length c') ∧ w'.cell? ⟨q, 0, none⟩ = some (.int .i64 (a : Int)) ∧ w'.cell? ⟨q, 1, none⟩ = some (.int .i64 (b : Int)) ∧ w'.cell? ⟨q, 2, none⟩ = some (.int .i64 (k : Int))) := fun w' hg => ⟨(HC5d.out.grown hg HROW.out.1).c4.2.2.1, (Row.grown HX5d.out hg HROW.out.2.2).c3⟩
          clear hS0 c0 c1 c2 c3 x0 x1 x2
          generalize w5.drew = w6 at *
          refine AnyBut.ready (rs := [6]) (by kernel_rfl) (by simp) ?_; refine AllBut.cons rfl (fun K hK => ?_) AllBut.nil
          go_simp
          refine hK.out _ _ (fun _ => ?_) ?_
          · exact HSX.out _ (grown_below (below_alloc w6 _) _)
          clear hK K
          (try simp only [Act.put, List.setIfInBounds_toArray, List.set_cons_zero, List.set_cons_succ])
          refine AnyBut.ready (rs := [7]) (by kernel_rfl) (by simp) ?_; refine AllBut.cons rfl (fun K hK => ?_) AllBut.nil
          have HO6 : Hid (w6.ownsRow B 80 3 (.slice A' L.length c') L.length (cells3' L)) := HO5d.out
          have hB6 : B ≤ w6.heap.size := by have := HC5d.out.lt; omega
          refine step_append_lies _ (by rfl) _ _ 28 (by rfl) B 80 bi0 (.agg #[.int .i64 0, .int .i64 0, .int .i64 0]) 3 24 Try.underlying28 hbi hbi0 hbi1 hbi2 rfl (by decide) _ _ _ (by rfl) (HO6.out.alloc _) ⟨w6.heap.size, 0, none⟩ 1 1 [.int .i64 (a : Int), .int .i64 (b : Int), .int .i64 (k : Int)] (by rfl) rfl (cells_new _ _ _) (by simp [Value.oneCell']) (by omega) (by unfold maxLen; omega) (by omega) (by simp; omega) (w6.heap.size + 1) (by simp) ?_
          intro g7 cap7 w7 hO7 hg7 hat7 hlt7
          have hgr7 : w6.grownBy w7 (Value.slice A' L.length c').ownBlock := grown_trans (grown_below (below_alloc w6 _) _) hg7
          have HGR7 := Lib.hid hgr7
          have HO7 : Hid (OB w7 B (.slice (some ⟨g7, 0, none⟩) (L.length + 1) cap7) (L ++ [blkN a b k])) := OB.snoc (b := blkN a b k) hO7
          have HAT7 : Hid ((Value.slice (some ⟨g7, 0, none⟩) (L.length + 1) cap7).ownBlock = (Value.slice A' L.length c').ownBlock ∨ ∃ q, (Value.slice (some ⟨g7, 0, none⟩) (L.length + 1) cap7).ownBlock = some q ∧ w6.heap.size ≤ q) := by
            rcases hat7 with h | h
            · exact .inl h.symm
            · exact .inr ⟨g7, rfl, by omega⟩
          clear hO7 hg7 hat7 hgr7
          refine hK.out _ _ (fun _ => HSX.out _ HGR7.out) ?_
          clear hK K
          have HC7 := Lib.hid (HC5d.out.grown HGR7.out HROW.out.1)
          obtain ⟨c0, c1, c2, c3⟩ := HC7.out.c4
          have cf7 := HC7.out.frozen 2
          have hcl7 := HC7.out.lt
          (try simp only [Act.put, List.setIfInBounds_toArray, List.set_cons_zero, List.set_cons_succ])
          refine AnyBut.ready (rs := [8]) (by kernel_rfl) (by simp) ?_; refine AllBut.cons rfl (fun K hK => ?_) AllBut.nil
          go_simp
          refine hK.out _ _ (fun _ => HSX.out _ HGR7.out) ?_
          clear hK K
          (try simp only [Act.put, List.setIfInBounds_toArray, List.set_cons_zero, List.set_cons_succ])
          refine AnyBut.ready (rs := [9]) (by kernel_rfl) (by simp) ?_; refine AllBut.cons rfl (fun K hK => ?_) AllBut.nil
          go_simp
          refine hK.out _ _ (fun _ => HSX.out _ HGR7.out) ?_
          clear hK K
          (try simp only [Act.put, List.setIfInBounds_toArray, List.set_cons_zero, List.set_cons_succ])
          refine AnyBut.ready (rs := [10]) (by kernel_rfl) (by simp) ?_; refine AllBut.cons rfl (fun K hK => ?_) AllBut.nil
          go_simp
          refine hK.out _ _ (fun h => absurd rfl h) ?_
          clear hK K
          (try simp only [Act.put, List.setIfInBounds_toArray, List.set_cons_zero, List.set_cons_succ])
          refine AnyBut.done (by kernel_rfl) ?_ _
          refine NoPanic.normal ?_
          have HC8 := Lib.hid (HC7.out.set (.slice (some ⟨g7, 0, none⟩) (L.length + 1) cap7))
          have HG8 := Lib.hid ((HG5d.out.grown HGR7.out HROW.out.2.1).far (p := ⟨cb, 2, none⟩) hcg (.slice (some ⟨g7, 0, none⟩) (L.length + 1) cap7))
          have HX8 := Lib.hid ((Row.grown HX5d.out HGR7.out HROW.out.2.2).far (p := ⟨cb, 2, none⟩) (by have := HCLT.out; simp; omega) (.slice (some ⟨g7, 0, none⟩) (L.length + 1) cap7))
          have HO8 : Hid (OB (w7.setCell ⟨cb, 2, none⟩ (.slice (some ⟨g7, 0, none⟩) (L.length + 1) cap7)) B (.slice (some ⟨g7, 0, none⟩) (L.length + 1) cap7) (L ++ [blkN a b k])) := World.ownsRow.kept HO7.out (grown_set (grown_refl w7 (some cb)) 2 _) (.inr (own_typed HO7.out ⟨_, HC7.out⟩ (by decide)))
          have HI8 : Hid (Inv C' S' (w7.setCell ⟨cb, 2, none⟩ (.slice (some ⟨g7, 0, none⟩) (L.length + 1) cap7))) := HE.out.stab _ _ _ _ _ (HE.out.stab _ _ _ _ _ HI5d.out HGR7.out (fun k e => ⟨HSw.out k e, own_block HO6.out k e⟩)) (grown_set (grown_refl w7 (some cb)) 2 _) (fun k e => by simp only [Option.some.injEq] at e; subst e; exact ⟨HNS.out.1, hB1⟩)
          have HS8 : Hid (∀ b, (Value.slice (some ⟨g7, 0, none⟩) (L.length + 1) cap7).ownBlock = some b → ¬ S' b) := fun b0 e => by
            rcases HAT7.out with h | ⟨q0, h, hq0⟩
            · exact HSw.out b0 (h ▸ e)
            · rw [h] at e; simp only [Option.some.injEq] at e
              intro hS; have h1 := HLT.out _ hS; have h2 := HX5d.out.lt; omega
          have HK8 : Hid (KeptC B w (w7.setCell ⟨cb, 2, none⟩ (.slice (some ⟨g7, 0, none⟩) (L.length + 1) cap7)) S S' cb g (.slice A L.length c) (.slice (some ⟨g7, 0, none⟩) (L.length + 1) cap7)) := by
            refine KeptC.trans (w1 := w6) HK5d.out ?_
            refine ⟨by have := HGR7.out.size; simpa [World.setCell] using this, fun _ _ e => e, fun j hj _ _ h1 h2 h3 => ?_, HAT7.out⟩
            exact (Below.heap_setCell w7 ⟨cb, 2, none⟩ _ j h1).trans (HGR7.out.block j hj (fun e => h3 e.symm))
          generalize hw8 : w7.setCell ⟨cb, 2, none⟩ (.slice (some ⟨g7, 0, none⟩) (L.length + 1) cap7) = w8 at *
          clear hw8 c0 c1 c2 c3 cf7 hcl7 hlt7 hB6 hbi hbi0 hbi1 hbi2 cf hxl hcl
          have HCALL := Lib.hid (HIH.out (m ||| prM a b k) (L ++ [blkN a b k]) C' S' _ _ a w8 (HCNT.out k (by omega) hkn hf) (by omega) (fun j hj => by
            have h1 := HLOW.out j (by omega)
            rw [← Bool.not_eq_true] at h1 ⊢
            intro h2; apply h1
            unfold frK at h2 ⊢
            rw [Nat.testBit_or] at h2
            simp only [Bool.and_eq_true, Bool.not_eq_true', Bool.or_eq_false_iff] at h2 ⊢
            exact ⟨h2.1, h2.2.1⟩) (HVM.out k (by omega) hkn hf) (by
            have h1 : C'.length ≤ C.length + (SQ k).length := by have h := runG_len cont (SQ k) C; rw [HRUN.out] at h; exact h
            have h2 := HMONO.out (k + 1) (by omega)
            rw [HST.out k, if_pos ⟨hkb, hf⟩, List.length_append] at h2
            have h3 := HNB.out
            omega) (by simp; omega) (runG_go HRUN.out HGO.out) HI8.out HC8.out HG8.out (HMw.out.put hab (by omega) (by omega)) HO8.out HNS.out.1 HNS.out.2 HS8.out (by have := HC8.out.lt; omega))
          go_wp2_with fail
          refine HCALL.out.mono ?_
          rintro e w9 ⟨C2, S2, fl, u2, G2, rfl, hrun, hI9, hC9, hG9, hM9, hO9, hs9, hk9⟩
          have HRUN2 : Hid (runG cont (SQ (k + 1)) C = (C2, fl)) := by
            unfold Hid
            rw [HST.out, if_pos ⟨hkb, hf⟩, runG_app, HRUN.out, if_pos rfl]; exact hrun
          obtain ⟨A2, e2, hu2⟩ := own_slice hO9
          rw [List.length_append, List.length_singleton] at hu2
          subst hu2
          obtain ⟨hcut, hcap2, g2, hA2⟩ := OB.cut hO9
          subst hA2
          have HI9 := Lib.hid hI9; have HC9 := Lib.hid hC9; have HG9 := Lib.hid hG9; have HM9 := Lib.hid hM9; have HO9 := Lib.hid hcut; have HS9 := Lib.hid hs9; have HK9 := Lib.hid hk9
          have HX9 : Hid (Row w9 q 80 #[.int .i64 (a : Int), .int .i64 (b : Int), .int .i64 (k : Int)]) := by
            refine (hk9.heap q HX8.out.lt HQ.out (fun h => Nat.lt_irrefl _ (HLT.out _ h)) (by have := HCLT.out; omega) (by have := HGLT.out; omega) ?_).trans HX8.out
            rcases HAT7.out with h | ⟨q0, h, hq0⟩
            · rw [h]; exact HROW.out.2.2
            · rw [h]; intro e; simp only [Option.some.injEq] at e; have := HX5d.out.lt; omega
          have HKA : Hid (KeptC B w w9 S S2 cb g (.slice A L.length c) (.slice (some ⟨g2, 0, none⟩) (L.length + 1) e2)) := HK8.out.trans HK9.out
          have HNS2 : Hid (¬ S2 cb ∧ ¬ S2 g) := ⟨fun h => HS.out.1 (HKA.out.set _ HC.out.lt h), fun h => HS.out.2.1 (HKA.out.set _ HG.out.lt h)⟩
          clear hrun hI9 hC9 hG9 hM9 hO9 hs9 hk9 hcut HCALL HK8 HC8 HG8 HX8 HO8 HI8 HS8 HK5d HI5d HG5d HC5d HX5d HO5d HSX HK5 HI5 HC5 HX5 HO5 HG5 HI3 HC3 HG3 HO3 HK3 HBX3 HO7 HO6 HGR7 HC7
          obtain ⟨c0, c1, c2, c3⟩ := HC9.out.c4
          obtain ⟨x0, x1, x2⟩ := HX9.out.c3
          have hxl := HX9.out.lt
          have hcl := HC9.out.lt
          go_wp2
          go_still_tail 5, (by kernel_rfl)
          change wpList _ _ _ _ _ w9.drew
          replace HKA := Lib.hid (HKA.out.grown (grown_below (below_drew w9) none) (.inl rfl))
          replace HI9 : Hid (Inv C2 S2 w9.drew) := HE.out.stab _ _ _ _ none HI9.out (grown_below (below_drew w9) none) (fun k e => by cases e)
          replace HC9 := Lib.hid (HC9.out.below (below_drew w9)); replace HG9 := Lib.hid (HG9.out.below (below_drew w9)); replace HO9 := Lib.hid (HO9.out.below (below_drew w9))
          generalize w9.drew = w10 at *
          go_wp2_with fail
          refine (put_is false g a b k G2 w10 HG9.out (by omega) (by omega) (by omega)).mono ?_
          rintro e w11 ⟨rfl, hG11, hg11⟩
          have HG11 := Lib.hid hG11
          have HK11 := Lib.hid (HKA.out.grown hg11 (.inr (.inr (.inl rfl))))
          have HI11 : Hid (Inv C2 S2 w11) := HE.out.stab _ _ _ _ _ HI9.out hg11 (fun k e => by simp only [Option.some.injEq] at e; subst e; exact ⟨HNS2.out.2, hB2⟩)
          have HC11 := Lib.hid (HC9.out.grown hg11 (fun e => by simp only [Option.some.injEq] at e; exact hcg e.symm))
          have HO11 : Hid (OB w11 B (.slice (some ⟨g2, 0, none⟩) L.length e2) L) := World.ownsRow.kept HO9.out hg11 (.inr (own_typed HO9.out ⟨gcells G2, (HG9.out : Row w10 g 138 _)⟩ (by decide)))
          clear hG11 hg11 HKA HI9 HC9 HG9 HO9 c0 c1 c2 c3 x0 x1 x2 hxl hcl HX9
          obtain ⟨c0, c1, c2, c3⟩ := HC11.out.c4
          have cf := HC11.out.frozen 2
          have hcl := HC11.out.lt
          have i9 : (L.length : Int) ≤ (e2 : Int) := by omega
          have j9 : L.length ≤ e2 := by omega
          have hwr : IntKind.i64.wrap (L.length : Int) = (L.length : Int) := by first | go_unwrap | go_num
          go_wp2
          go_still_tail 12, (by kernel_rfl)
          change wpList _ _ _ _ _ w11.drew
          replace HK11 := Lib.hid (HK11.out.grown (grown_below (below_drew w11) none) (.inl rfl))
          replace HI11 : Hid (Inv C2 S2 w11.drew) := HE.out.stab _ _ _ _ none HI11.out (grown_below (below_drew w11) none) (fun k e => by cases e)
          replace HC11 := Lib.hid (HC11.out.below (below_drew w11)); replace HG11 := Lib.hid (HG11.out.below (below_drew w11)); replace HO11 := Lib.hid (HO11.out.below (below_drew w11))
          clear c0 c1 c2 c3 cf hcl
          generalize w11.drew = w12 at *
          obtain ⟨c0, c1, c2, c3⟩ := HC11.out.c4
          have cf := HC11.out.frozen 2
          have hcl := HC11.out.lt
          have HC13 := Lib.hid (HC11.out.set (.slice (some ⟨g2, 0, none⟩) L.length e2))
          have HG13 := Lib.hid (HG11.out.far (p := ⟨cb, 2, none⟩) hcg (.slice (some ⟨g2, 0, none⟩) L.length e2))
          have HO13 : Hid (OB (w12.setCell ⟨cb, 2, none⟩ (.slice (some ⟨g2, 0, none⟩) L.length e2)) B (.slice (some ⟨g2, 0, none⟩) L.length e2) L) := World.ownsRow.kept HO11.out (grown_set (grown_refl w12 (some cb)) 2 _) (.inr (own_typed HO11.out ⟨_, HC11.out⟩ (by decide)))
          have HI13 : Hid (Inv C2 S2 (w12.setCell ⟨cb, 2, none⟩ (.slice (some ⟨g2, 0, none⟩) L.length e2))) := HE.out.stab _ _ _ _ _ HI11.out (grown_set (grown_refl w12 (some cb)) 2 _) (fun k e => by simp only [Option.some.injEq] at e; subst e; exact ⟨HNS2.out.1, hB1⟩)
          have HK13 : Hid (KeptC B w (w12.setCell ⟨cb, 2, none⟩ (.slice (some ⟨g2, 0, none⟩) L.length e2)) S S2 cb g (.slice A L.length c) (.slice (some ⟨g2, 0, none⟩) L.length e2)) := by
            refine KeptC.trans (w1 := w12) HK11.out ?_
            exact ⟨by simp [World.setCell], fun _ _ e => e, fun j hj _ _ h1 h2 h3 => Below.heap_setCell w12 ⟨cb, 2, none⟩ _ j h1, .inl rfl⟩
          have HS13 : Hid (∀ b, (Value.slice (some ⟨g2, 0, none⟩) L.length e2).ownBlock = some b → ¬ S2 b) := fun b0 e => HS9.out b0 e
          have HM13 := Lib.hid (HM9.out.take hf hab (by omega) (by omega))
          generalize hw13 : w12.setCell ⟨cb, 2, none⟩ (.slice (some ⟨g2, 0, none⟩) L.length e2) = w13 at *
          cases fl
          · go_wp2
            go_ret
            exact ⟨C2, S2, false, _, _, rfl, by rw [HEN.out]; exact HSTOP.out (k + 1) C2 HRUN2.out (by omega), HI13.out, HC13.out, HG13.out, HM13.out, HO13.out, HS13.out, HK13.out⟩
          · go_wp2
            go_roundw
            case rel => exact ⟨k + 1, C2, S2, _, _, by omega, by omega, by go_num, HRUN2.out, HI13.out, HC13.out, HG13.out, HM13.out, HO13.out, HS13.out, HK13.out⟩
            case measure => simp [intOf]; omega
      · obtain rfl : k = n := by omega
        go_wp2
        go_ret
        exact ⟨C', S', true, u', G', rfl, by rw [HEN.out]; exact HRUN.out, HIw.out, HCw.out, HGw.out, HMw.out, HOw.out, HSw.out, HKw.out⟩

end Go.Proofs.Ytabgmjakkgalgaa

/- Plain laws of completions of a system. Conditions: stated in each. -/
namespace Go.Proofs.Ytabgmjakkgalgaa
set_option linter.unusedSimpArgs false
set_option linter.unusedVariables false

/-- the pairs of the first blocks, as digits -/
def mskN (xs : List Blk) : Nat → Nat
  | 0 => 0
  | k + 1 => mskN xs k ||| prM (nth xs k).1.toNat (nth xs k).2.1.toNat (nth xs k).2.2.toNat
theorem good_nat {v : Int} {b : Blk} (h : goodB v b = true) : ∃ x y z : Nat, b = blkN x y z ∧ x < y ∧ y < z ∧ (z : Int) < v ∧ b.1.toNat = x ∧ b.2.1.toNat = y ∧ b.2.2.toNat = z := by
  have hb := good_bd h
  refine ⟨b.1.toNat, b.2.1.toNat, b.2.2.toNat, ?_, by omega, by omega, by omega, rfl, rfl, rfl⟩
  unfold blkN
  rw [Int.toNat_of_nonneg (by omega), Int.toNat_of_nonneg (by omega), Int.toNat_of_nonneg (by omega)]
theorem mskN_gm {v : Int} {xs : List Blk} (hv : v ≤ 15) (ha : areB v xs) : ∀ k, k ≤ xs.length → GM (gridN xs k) (mskN xs k) := by
  intro k
  induction k with
  | zero => intro _ x y _ _; simp [gridN, mskN]
  | succ k ih =>
    intro hk
    obtain ⟨x, y, z, e, h1, h2, h3, e1, e2, e3⟩ := good_nat (good_mono (ha k (by omega)).1 hv)
    have hput := (ih (by omega)).put h1 h2 (by omega : z < 15)
    have e4 : gridN xs (k + 1) = putG (gridN xs k) (blkN x y z) true := by rw [← e]; rfl
    have e5 : mskN xs (k + 1) = mskN xs k ||| prM x y z := by rw [← e1, ← e2, ← e3]; rfl
    rw [e4, e5]; exact hput
theorem msk_fit {v : Int} {xs : List Blk} (hs : isSys v xs) {k : Nat} (hk : k < xs.length) : fitQ3 (mskN xs k) (nth xs k).1.toNat (nth xs k).2.1.toNat (nth xs k).2.2.toNat = true := by
  have hg : ∀ j, j < xs.length → goodB 15 (nth xs j) = true := fun j hj => good_mono (hs.2.2.1 j hj).1 hs.1.2
  obtain ⟨x, y, z, e, h1, h2, h3, e1, e2, e3⟩ := good_nat (hg k hk)
  have hl := (mskN_gm hs.1.2 hs.2.2.1 k (by omega)).left h1 h2 (by omega : z < 15)
  rw [e1, e2, e3, ← hl, ← e, left_iff (fun j hj => hg j (by omega)) (hg k hk)]
  exact fun j hj => hs.2.2.2 k hk j hj
theorem msk_cnt {n : Nat} {xs : List Blk} (hs : isSys n xs) : ∀ k, k ≤ xs.length → cntC n (mskN xs k) + 3 * k = cntC n 0 := by
  intro k
  induction k with
  | zero => intro _; rw [mskN, Nat.mul_zero, Nat.add_zero]
  | succ k ih =>
    intro hk
    have hf := msk_fit hs (k := k) (by omega)
    obtain ⟨x, y, z, e, h1, h2, h3, e1, e2, e3⟩ := good_nat (hs.2.2.1 k (by omega)).1
    rw [e1, e2, e3] at hf
    have hv := hs.1.2
    have hput := cntC_put (v := n) (by omega) h1 h2 (by omega) hf
    have := ih (by omega)
    rw [mskN, e1, e2, e3]
    omega
theorem msk_bits {n : Nat} {xs : List Blk} (hs : isSys n xs) : ∀ k, k ≤ xs.length → ∀ j, j < k → ∃ x y z : Nat, nth xs j = blkN x y z ∧ x < y ∧ y < z ∧ z < n ∧ (mskN xs k).testBit (x * 16 + y) = true := by
  intro k
  induction k with
  | zero => intro _ j hj; omega
  | succ k ih =>
    intro hk j hj
    by_cases e : j < k
    · obtain ⟨x, y, z, h1, h2, h3, h4, h5⟩ := ih (by omega) j e
      exact ⟨x, y, z, h1, h2, h3, h4, by rw [mskN, Nat.testBit_or, h5]; rfl⟩
    · obtain rfl : j = k := by omega
      obtain ⟨x, y, z, e, h1, h2, h3, e1, e2, e3⟩ := good_nat (hs.2.2.1 j (by omega)).1
      exact ⟨x, y, z, e, h1, h2, by omega, by rw [mskN, e1, e2, e3, Nat.testBit_or, prM_bit]; simp⟩
theorem cntC_told : cntC 3 0 = 3 ∧ cntC 7 0 = 21 ∧ cntC 9 0 = 36 ∧ cntC 13 0 = 78 ∧ cntC 15 0 = 105 := by decide +kernel
/-- the blocks that a full system has more -/
def misN (n : Nat) (xs : List Blk) : Nat := n * (n - 1) / 6 - xs.length
theorem mis_cnt {n : Nat} {xs : List Blk} (hs : isSys n xs) (ht : n = 3 ∨ n = 7 ∨ n = 9 ∨ n = 13 ∨ n = 15) : cntC n (mskN xs xs.length) = 3 * misN n xs ∧ xs.length + misN n xs = n * (n - 1) / 6 := by
  have h := msk_cnt hs xs.length (Nat.le_refl _)
  have ht0 := cntC_told
  unfold misN
  rcases ht with rfl | rfl | rfl | rfl | rfl <;> simp only [Nat.reduceMul, Nat.reduceSub, Nat.reduceDiv] <;> omega
/-- all completions, as lists of the blocks that are put in, in order -/
def addC (n : Nat) (xs : List Blk) : List (List Blk) := enumC n (misN n xs) (mskN xs xs.length) []
theorem enumC_pre (v : Nat) : ∀ d u X L, enumC v d u (X ++ L) = (enumC v d u L).map (fun M => X ++ M) := by
  intro d
  induction d with
  | zero => intro u X L; simp [enumC]
  | succ d ih =>
    intro u X L
    rw [enumC, enumC]
    have key : ∀ k, loopG (fun p => enumC v d (u ||| prM (nxt v u / 16) (nxt v u % 16) p) (X ++ L ++ [blkN (nxt v u / 16) (nxt v u % 16) p])) (fun p => fitQ3 u (nxt v u / 16) (nxt v u % 16) p) (nxt v u % 16 + 1) k
        = (loopG (fun p => enumC v d (u ||| prM (nxt v u / 16) (nxt v u % 16) p) (L ++ [blkN (nxt v u / 16) (nxt v u % 16) p])) (fun p => fitQ3 u (nxt v u / 16) (nxt v u % 16) p) (nxt v u % 16 + 1) k).map (fun M => X ++ M) := by
      intro k
      induction k with
      | zero => rfl
      | succ k ihk =>
        rw [loopG, loopG, ihk, List.map_append]
        congr 1
        split
        · rw [List.append_assoc, ih]
        · rfl
    exact key v
theorem enum_add (n : Nat) (xs : List Blk) : enumC n (misN n xs) (mskN xs xs.length) xs = (addC n xs).map (fun M => xs ++ M) := by
  have := enumC_pre n (misN n xs) (mskN xs xs.length) xs []
  rw [List.append_nil] at this; exact this
/-- completions in order -/
theorem add_pair {n : Nat} {xs : List Blk} (hs : isSys n xs) (ht : n = 3 ∨ n = 7 ∨ n = 9 ∨ n = 13 ∨ n = 15) : (addC n xs).Pairwise (fun M N => befL (srtL (xs ++ N)) (srtL (xs ++ M)) = false) := by
  have hv := hs.1.2
  refine enumC_pair (by omega) xs _ _ [] (mis_cnt hs ht).1 fun s hs' => ?_
  rw [List.append_nil] at hs'
  obtain ⟨k, hk, e⟩ := mem_nth hs'
  rw [← e]; exact msk_bits hs xs.length (Nat.le_refl _) k hk
theorem add_len {n : Nat} {xs : List Blk} (hs : isSys n xs) (ht : n = 3 ∨ n = 7 ∨ n = 9 ∨ n = 13 ∨ n = 15) {M : List Blk} (hM : M ∈ addC n xs) : M.length = misN n xs := by
  have hv := hs.1.2
  obtain ⟨T, e, hl, _⟩ := enumC_mem (by omega) _ _ _ _ (mis_cnt hs ht).1 hM
  rw [e]; simpa using hl

/-- the first completions, as sorted blocks -/
def cplL (n : Nat) (xs : List Blk) (most : Nat) : List (List Blk) := ((addC n xs).take most).map fun M => srtL (xs ++ M)
theorem cplL_len (n : Nat) (xs : List Blk) (most : Nat) : (cplL n xs most).length ≤ most := by unfold cplL; rw [List.length_map, List.length_take]; omega
theorem cplL_run {n : Nat} {xs : List Blk} {most : Nat} (hm : 0 < most) : ((runG (fun C => decide (C.length < most)) ((addC n xs).map fun M => xs ++ M) []).1).map srtL = cplL n xs most := by
  rw [runG_cap most _ [] (by simpa using hm)]
  unfold takeG cplL
  simp [List.map_take, Function.comp_def]

end Go.Proofs.Ytabgmjakkgalgaa

/- The contract of the program's walk through all completions; conditions: stated in it. -/
namespace Go.Proofs.Ytabgmjakkgalgaa
open Go.RowKit
set_option maxHeartbeats 2000000
set_option maxRecDepth 100000
set_option linter.unusedSimpArgs false
set_option linter.unusedVariables false

theorem complete_any (n : Nat) (A : Option Addr) (c : Nat) (xs : List Blk) (f : Nat) (fa la : Array Value) (cont : List (List Blk) → Bool) (Inv : List (List Blk) → (Nat → Prop) → World → Prop) (V : List Blk → Prop) (N : Nat) (w : World)
    (hA : Bl w A xs) (hs : isSys n xs) (ht : n = 3 ∨ n = 7 ∨ n = 9 ∨ n = 13 ∨ n = 15) (hV : ∀ M ∈ addC n xs, V (xs ++ M)) (hN : (addC n xs).length ≤ N) (hI : Inv [] (fun _ => False) w)
    (hE : ∀ cb g, w.heap.size ≤ cb → w.heap.size ≤ g → EachC w.heap.size cb g n f fa la cont Inv V N) :
    Calls Try.prog 72 #[.agg #[.int .i64 n, .slice A xs.length c], .func (.func f) fa la] w fun e w' => e = .returned (.tuple #[]) ∧ ∃ S', Inv (runG cont ((addC n xs).map fun M => xs ++ M) []).1 S' w' := by
  have HI := Lib.hid hI; have HE := Lib.hid hE; have HS := Lib.hid hs; have HV := Lib.hid hV; have HT := Lib.hid ht; have HNN := Lib.hid hN
  have hl : xs.length ≤ 1048576 := by have := hs.2.1; omega
  have hl35 := hs.2.1
  have hv := hs.1
  have HW := Lib.hid (below_alloc w (.cells #[.int .i64 n, .slice A xs.length c] 30))
  have HA := Lib.hid (hA.below HW.out)
  have HR := Lib.hid (Row.box w 30 (.int .i64 n) (.slice A xs.length c))
  clear hA hI hE hs hV ht hN
  go_enter Try.func72, Try.ntmps72
  obtain ⟨c0, c1⟩ := HR.out.c2
  go_wp2
  generalize hWo : w.alloc _ = w5 at *
  have HKEEP := Lib.hid (And.intro c0 c1)
  clear c0 c1
  go_region_held3 (fun w' => w'.cell? ⟨w.heap.size, 0, none⟩ = some (.int .i64 n) ∧ w'.cell? ⟨w.heap.size, 1, none⟩ = some (.slice A xs.length c)) (first | exact HKEEP.out | exact ⟨(HRz.out.below (below_alloc _ _)).c2.1, (HRz.out.below (below_alloc _ _)).c2.2⟩) (first
    | (go_at_call 45
       refine (grid_any n A c xs _ (HA.out.below (below_drew _)) hl HS.out).mono ?_
       rintro e6 w6 ⟨gx, rfl, hle, hGr, hb⟩
       have HGx := Lib.hid hGr
       have HB6 := Lib.hid (below_up (below_drew w5) hb)
       have HL6 : Hid (w5.heap.size ≤ gx) := hle
       have HR6 := Lib.hid (HR.out.below HB6.out)
       replace HKEEP := Lib.hid (And.intro HR6.out.c2.1 HR6.out.c2.2)
       clear hb hGr hle)
    | (go_at_call 97
       refine (cloneB_any A c xs _ (HA.out.below HB6.out) hl).mono ?_
       rintro e7 w7 ⟨u7, rfl, hO, hb⟩
       obtain ⟨A7, d7, rfl⟩ := own_slice hO
       have HO7 := Lib.hid hO
       have HGx2 := Lib.hid (HGx.out.below hb)
       have HB7 := Lib.hid (below_up HB6.out hb)
       have HSB : Hid (w5.heap.size ≤ w6.heap.size) := HB6.out.size
       have HRz := Lib.hid (HR.out.below HB7.out)
       replace HKEEP := Lib.hid (And.intro HRz.out.c2.1 HRz.out.c2.2)
       clear hb hO))
  have HB8 := Lib.hid (below_alloc w7 (.cells #[.int .i64 n, .pointer (some ⟨gx, 0, none⟩), .slice A7 xs.length d7, .func (.func f) fa la] 116))
  have HC8 : Hid (Cb (w7.alloc (.cells #[.int .i64 n, .pointer (some ⟨gx, 0, none⟩), .slice A7 xs.length d7, .func (.func f) fa la] 116)) w7.heap.size n gx (.slice A7 xs.length d7) (.func (.func f) fa la)) := Row.new w7 _ _
  have hgx := HGx2.out.lt
  have HX8 := Lib.hid (HGx2.out.below HB8.out)
  have HO8 : Hid (OB (w7.alloc (.cells #[.int .i64 n, .pointer (some ⟨gx, 0, none⟩), .slice A7 xs.length d7, .func (.func f) fa la] 116)) w.heap.size (.slice A7 xs.length d7) xs) := OB.base (HO7.out.below HB8.out) (Nat.le_trans HW.out.size HSB.out)
  have HBW : Hid (Below w.heap.size w (w7.alloc (.cells #[.int .i64 n, .pointer (some ⟨gx, 0, none⟩), .slice A7 xs.length d7, .func (.func f) fa la] 116))) := below_up HW.out (below_up HB7.out HB8.out)
  have HZ8 : Hid (w.heap.size ≤ w7.heap.size) := Nat.le_trans HW.out.size HB7.out.size
  have HE8 := Lib.hid (HE.out w7.heap.size gx HZ8.out (Nat.le_trans HW.out.size HL6.out))
  have HI8 := Lib.hid (HE8.out.stab _ _ _ _ none HI.out (grown_below HBW.out none) (fun k e => by cases e))
  have hmc := mis_cnt HS.out HT.out
  have hm35 : xs.length + misN n xs ≤ 1000 := by
    rw [hmc.2]
    have : n * (n - 1) ≤ 15 * 15 := Nat.mul_le_mul (by omega) (by omega)
    omega
  have HMC := Lib.hid hmc.1
  clear hmc
  go_wp2_with fail
  refine (from_comp w.heap.size w7.heap.size gx n f fa la cont Inv V N HE8.out (by omega) (by omega) HZ8.out (Nat.le_trans HW.out.size HL6.out) (misN n xs) (mskN xs xs.length) xs [] (fun _ => False) _ (gridN xs xs.length) 0 _ HMC.out (by omega) (fun j hj => by omega) (fun M hM => by rw [enum_add, List.mem_map] at hM; obtain ⟨N, h1, h2⟩ := hM; rw [← h2]; exact HV.out N h1) (by rw [enum_add, List.length_map]; simpa using HNN.out) hm35 (.inl rfl) HI8.out HC8.out HX8.out (mskN_gm (by omega) HS.out.2.2.1 _ (Nat.le_refl _)) HO8.out (fun h => h) (fun h => h) (fun b _ h => h) HBW.out.size).mono ?_
  rintro e w9 ⟨C', S', fl, u', G', rfl, hrun, hI9, _⟩
  have HI9 : Hid (Inv (runG cont ((addC n xs).map fun M => xs ++ M) []).1 S' w9) := by unfold Hid; rw [← enum_add, hrun]; exact hI9
  clear hrun hI9
  go_wp2
  go_end0
  exact ⟨rfl, S', HI9.out⟩

end Go.Proofs.Ytabgmjakkgalgaa

/- Contracts: slices.Index, slices.Contains over numbers; conditions: stated in each. -/
namespace Go.Proofs.Ytabgmjakkgalgaa
open Go.RowKit
set_option maxHeartbeats 400000

theorem idxFrom_step {xs : List Int} {x : Int} {k : Nat} (h : k < xs.length) : idxFrom xs x (xs.length - k) k = if x = nthI xs k then (k : Int) else idxFrom xs x (xs.length - (k + 1)) (k + 1) := by
  rw [show xs.length - k = (xs.length - (k + 1)) + 1 by omega, idxFrom]

theorem slicesIndex_any (A : Option Addr) (c : Nat) (xs : List Int) (x : Int) (w : World) (hA : Il w A xs) (hl : xs.length ≤ 1048576) :
    Calls Try.prog 118 #[.slice A xs.length c, .int .i64 x] w fun e w' => e = .returned (.int .i64 (idxI xs x)) ∧ w = w' := by
  have HA := Lib.hid hA; clear hA
  go_enter Try.func118, Try.ntmps118
  go_wp2
  go_loop [8] (fun i => ∃ k : Nat, k ≤ xs.length ∧ i = .int .i64 k ∧ Hid (idxI xs x = idxFrom xs x (xs.length - k) k)) (fun i => xs.length - (intOf i).toNat)
  case atStart => exact ⟨0, by omega, rfl, rfl⟩
  case round =>
    obtain ⟨k, hk, rfl, HC⟩ := hrel
    by_cases hlt : k < xs.length
    · obtain ⟨b1, o1, hA1, hb1, p0⟩ := HA.out.at_ hlt
      subst hA1
      have HS : Hid _ := idxFrom_step (x := x) hlt
      by_cases he : x = nthI xs k
      · have he' : (x == nthI xs k) = true := by simpa using he
        have HE := Lib.hid he; clear he
        go_wp2
        go_ret
        refine ⟨ret_int ?_, rfl⟩
        rw [HC.out, HS.out, if_pos HE.out]
      · have he' : (x == nthI xs k) = false := by simpa using he
        have HE := Lib.hid he; clear he
        go_wp2
        go_round
        case rel => exact ⟨k + 1, by omega, by go_num, by unfold Hid; rw [HC.out, HS.out, if_neg HE.out]⟩
        case measure => simp [intOf]; omega
    · obtain rfl : k = xs.length := by omega
      go_wp2
      go_ret
      refine ⟨ret_int ?_, rfl⟩
      rw [HC.out, Nat.sub_self]; rfl

theorem slicesContains_any (A : Option Addr) (c : Nat) (xs : List Int) (x : Int) (w : World) (hA : Il w A xs) (hl : xs.length ≤ 1048576) :
    Calls Try.prog 96 #[.slice A xs.length c, .int .i64 x] w fun e w' => e = .returned (.bool (decide (idxI xs x ≥ 0))) ∧ w = w' := by
  have HA := Lib.hid hA; clear hA
  go_enter Try.func96, Try.ntmps96
  go_wp2_with (go_at_call 118; refine (slicesIndex_any A c xs x _ HA.out hl).mono ?_; rintro e w' ⟨rfl, rfl⟩)
  go_ret
  exact ⟨ret_bool rfl, rfl⟩

end Go.Proofs.Ytabgmjakkgalgaa

/- Contracts for MissingNumber, of the reference and of the program; conditions: stated in each. -/
namespace Go.Proofs.Ytabgmjakkgalgaa
open Go.RowKit
set_option maxHeartbeats 400000
set_option linter.unusedSimpArgs false
set_option linter.unusedVariables false

def told (v : Int) : Bool := decide (v = 3 ∨ v = 7 ∨ v = 9 ∨ v = 13 ∨ v = 15)
def missN (v : Int) (n : Nat) : Int := v * (v - 1) / 6 - n

theorem sq_bd {v : Int} (h0 : 3 ≤ v) (h1 : v ≤ 15) : 0 ≤ v * (v - 1) ∧ v * (v - 1) ≤ 210 := by
  obtain rfl | rfl | rfl | rfl | rfl | rfl | rfl | rfl | rfl | rfl | rfl | rfl | rfl : v = 3 ∨ v = 4 ∨ v = 5 ∨ v = 6 ∨ v = 7 ∨ v = 8 ∨ v = 9 ∨ v = 10 ∨ v = 11 ∨ v = 12 ∨ v = 13 ∨ v = 14 ∨ v = 15 := by omega
  all_goals decide

theorem l08Missing_any (v : Int) (A : Option Addr) (c n : Nat) (w : World) (h0 : 3 ≤ v) (h1 : v ≤ 15) (hn : n ≤ 1048576) :
    Calls Try.prog 68 #[.agg #[.int .i64 v, .slice A n c]] w fun e w' => e = .returned (.tuple #[.int .i64 (missN v n), .bool (told v)]) ∧ Below w.heap.size w w' := by
  obtain rfl | rfl | rfl | rfl | rfl | rfl | rfl | rfl | rfl | rfl | rfl | rfl | rfl : v = 3 ∨ v = 4 ∨ v = 5 ∨ v = 6 ∨ v = 7 ∨ v = 8 ∨ v = 9 ∨ v = 10 ∨ v = 11 ∨ v = 12 ∨ v = 13 ∨ v = 14 ∨ v = 15 := by omega
  all_goals
    clear h0 h1
    go_enter Try.func68, Try.ntmps68
    go_wp2
    go_ret2
    exact ⟨ret_ib (by simp [missN]) (by simp [told]), below_alloc _ _⟩

/-- what MissingNumber gives: a number and a code -/
noncomputable def missR (v : Int) (xs : List Blk) : Int × Int := if isSysB v xs = true then (if told v = true then (missN v xs.length, 0) else (0, 5)) else (0, 1)
theorem missR_bad {v : Int} {xs : List Blk} (h : isSysB v xs = false) : missR v xs = (0, 1) := by simp [missR, h]
theorem missR_not {v : Int} {xs : List Blk} (h : isSysB v xs = true) (ht : told v = false) : missR v xs = (0, 5) := by simp [missR, h, ht]
theorem missR_yes {v : Int} {xs : List Blk} (h : isSysB v xs = true) (ht : told v = true) : missR v xs = (missN v xs.length, 0) := by simp [missR, h, ht]

theorem missing_any (v : Int) (A : Option Addr) (c n : Nat) (w : World) (h0 : 3 ≤ v) (h1 : v ≤ 15) (hn : n ≤ 1048576) :
    Calls Try.prog 71 #[.agg #[.int .i64 v, .slice A n c]] w fun e w' => e = .returned (.tuple #[.int .i64 (if told v = true then missN v n else 0), .int .i64 (if told v = true then 0 else 5)]) ∧ Below w.heap.size w w' := by
  obtain rfl | rfl | rfl | rfl | rfl | rfl | rfl | rfl | rfl | rfl | rfl | rfl | rfl : v = 3 ∨ v = 4 ∨ v = 5 ∨ v = 6 ∨ v = 7 ∨ v = 8 ∨ v = 9 ∨ v = 10 ∨ v = 11 ∨ v = 12 ∨ v = 13 ∨ v = 14 ∨ v = 15 := by omega
  all_goals
    clear h0 h1
    go_enter Try.func71, Try.ntmps71
    go_wp2_with fail
    refine (slicesContains_any (some ⟨w.heap.size + 1, 0, none⟩) 5 [3, 7, 9, 13, 15] _ _ (Il.new1 w _ [3, 7, 9, 13, 15] 2) (by simp)).mono ?_
    rintro e w1 ⟨rfl, rfl⟩
    simp only [idxI, idxFrom, nthI, List.length_cons, List.length_nil, List.getD_cons_zero, List.getD_cons_succ, Nat.reduceAdd, Int.reduceEq, if_false, if_true, Int.reduceNeg, ge_iff_le, Int.reduceLE, decide_true, decide_false]
    go_wp2
    go_ret2
    exact ⟨ret_ii (by simp [missN, told]) (by simp [told]), by go_grown⟩

end Go.Proofs.Ytabgmjakkgalgaa

/- Contracts of what the program's walks through completions call, and of its lists of completions; conditions: stated in each. -/
namespace Go.Proofs.Ytabgmjakkgalgaa
open Go.RowKit
set_option maxHeartbeats 2000000
set_option maxRecDepth 100000
set_option linter.unusedSimpArgs false
set_option linter.unusedVariables false

/-- what is known while completions are listed -/
structure InvC (W0 : World) (B r8 r2 r3 n most : Nat) (A : Option Addr) (c : Nat) (xs : List Blk) (C : List (List Blk)) (S : Nat → Prop) (w : World) : Prop where
  below : Below W0.heap.size W0 w
  size : B ≤ w.heap.size
  x : Row w r2 30 #[.int .i64 n, .slice A xs.length c]
  m : w.cell? ⟨r3, 0, none⟩ = some (.int .i64 most) ∧ r3 < w.heap.size
  out : ∃ u, Row w r8 45 #[u] ∧ LSS S w B n u (C.map srtL)
  away : ∀ k, S k → B ≤ k
theorem compCl_any (W0 : World) (B r8 r2 r3 n most : Nat) (A : Option Addr) (c : Nat) (xs : List Blk) (hB : W0.heap.size ≤ B) (h8 : W0.heap.size ≤ r8 ∧ r8 < B) (h2 : r2 < B) (h3 : r3 < B) (hne2 : r2 ≠ r8) (hne3 : r3 ≠ r8) (hmost : most ≤ 1073741824) (N : Nat) (cb g : Nat) :
    EachC B cb g n 73 #[] #[.pointer (some ⟨r8, 0, none⟩), .pointer (some ⟨r2, 0, none⟩), .pointer (some ⟨r3, 0, none⟩)] (fun C => decide (C.length < most)) (InvC W0 B r8 r2 r3 n most A c xs) (fun L => L.length ≤ 1048576) N := by
  refine ⟨fun args w => by kernel_rfl, fun C S w w' row hI hg hr => ?_, fun C S w k hI hS => ?_, ?_⟩
  · obtain ⟨hb, hz, hx, hm, ⟨u, hu, hl⟩, haw⟩ := hI
    have hne : ∀ j, j < B → row ≠ some j := fun j hj e => by have := (hr j e).2; omega
    refine ⟨hb.grown hg hb.size (fun k e => by have := (hr k e).2; omega), Nat.le_trans hz hg.size, Row.grown hx hg (hne _ h2), ⟨(World.cell?_of_block (a := ⟨r3, 0, none⟩) (hg.block r3 hm.2 (fun e => hne _ h3 e.symm))).trans hm.1, Nat.lt_of_lt_of_le hm.2 hg.size⟩, ⟨u, Row.grown hu hg (hne _ h8.2), hl.kept hg fun k e => (hr k e).1⟩, haw⟩
  · obtain ⟨_, _, _, _, ⟨u, _, hl⟩, _⟩ := hI
    exact hl.1 k hS
  · intro C S L W A1 c1 hV _ hgo hI hBW hL
    obtain ⟨si0, hsi, hsi0, hsi1, hsi2⟩ := info_parts infoSys'
    obtain ⟨hb, hz, hx, hm, ⟨u, hu, hls⟩, haw⟩ := hI
    have HB0 : Hid (¬ S r8) := fun h => by have := haw _ h; omega
    have HAW := Lib.hid haw
    have HSU : Hid (∀ b, u.ownBlock = some b → S b) := hls.2.elim fun _ h => h.2.2.2.1
    clear haw
    have HB := Lib.hid hb; have HX := Lib.hid hx; have HM := Lib.hid hm; have HU := Lib.hid hu; have HLS := Lib.hid hls; have HL := Lib.hid hL; have HV : Hid (L.length ≤ 1048576) := hV
    have hCl : C.length < 1073741825 := by
      rcases hgo with rfl | h
      · simp
      · have : C.length < most := by simpa using h
        omega
    have HGO := Lib.hid hgo
    clear hb hx hm hu hls hL hV hgo
    obtain ⟨Au, cu, rfl⟩ := HLS.out.slice
    have hlen : (C.map srtL).length = C.length := List.length_map ..
    obtain ⟨hs, hown, hpush⟩ := HLS.out.push
    rw [hlen] at hown HU HLS hpush HSU
    have HOWN := Lib.hid hown; have HPUSH := Lib.hid hpush; have HLEN := Lib.hid hlen
    clear hown hpush hlen
    obtain ⟨x0, x1⟩ := HX.out.c2
    have u0 : W.cell? ⟨r8, 0, none⟩ = some (.slice Au C.length cu) := (Row.cell HU.out 0).trans rfl
    have m0 := HM.out.1
    have hxl := HX.out.lt
    have hul := Row.lt HU.out
    go_enter Try.func73, Try.ntmps73
    go_wp2
    refine wp_region_noPanic ?_
    refine AnyBut.begin (N := 7) (S := (fun w' => w'.cell? ⟨r8, 0, none⟩ = some (.slice Au C.length cu) ∧ w'.cell? ⟨r2, 0, none⟩ = some (.int .i64 n))) (by kernel_rfl) ?_
    have hS0 : (fun w' : World => w'.cell? ⟨r8, 0, none⟩ = some (.slice Au C.length cu) ∧ w'.cell? ⟨r2, 0, none⟩ = some (.int .i64 n)) W.drew := ⟨u0, x0⟩
    refine AnyBut.take (i := 0) (v := ?_) rfl rfl (by decide) (by kernel_rfl) (by kernel_rfl) (by kernel_rfl) (by kernel_rfl) (fun _ _ _ h => h) (Or.inl ⟨by rfl, ?_⟩) hS0 ?_; rotate_left; (focus (intro W hSw; (try dsimp only at hSw); obtain ⟨z0, z1⟩ := hSw; go_simp; (try with_reducible rfl))); (try simp only [Act.put, List.setIfInBounds_toArray, List.set_cons_zero, List.set_cons_succ]); refine AnyBut.take (i := 1) (v := ?_) rfl rfl (by decide) (by kernel_rfl) (by kernel_rfl) (by kernel_rfl) (by kernel_rfl) (fun _ _ _ h => h) (Or.inl ⟨by rfl, ?_⟩) hS0 ?_; rotate_left; (focus (intro W hSw; (try dsimp only at hSw); obtain ⟨z0, z1⟩ := hSw; go_simp; (try with_reducible rfl))); (try simp only [Act.put, List.setIfInBounds_toArray, List.set_cons_zero, List.set_cons_succ]); refine AnyBut.take (i := 2) (v := ?_) rfl rfl (by decide) (by kernel_rfl) (by kernel_rfl) (by kernel_rfl) (by kernel_rfl) (fun _ _ _ h => h) (Or.inl ⟨by rfl, ?_⟩) hS0 ?_; rotate_left; (focus (intro W hSw; (try dsimp only at hSw); obtain ⟨z0, z1⟩ := hSw; go_simp; (try with_reducible rfl))); (try simp only [Act.put, List.setIfInBounds_toArray, List.set_cons_zero, List.set_cons_succ]); refine AnyBut.take (i := 3) (v := ?_) rfl rfl (by decide) (by kernel_rfl) (by kernel_rfl) (by kernel_rfl) (by kernel_rfl) (fun _ _ _ h => h) (Or.inl ⟨by rfl, ?_⟩) hS0 ?_; rotate_left; (focus (intro W hSw; (try dsimp only at hSw); obtain ⟨z0, z1⟩ := hSw; go_simp; (try with_reducible rfl))); (try simp only [Act.put, List.setIfInBounds_toArray, List.set_cons_zero, List.set_cons_succ])
    have HSX : Hid (∀ w', Below W.heap.size W w' → w'.cell? ⟨r8, 0, none⟩ = some (.slice Au C.length cu) ∧ w'.cell? ⟨r2, 0, none⟩ = some (.int .i64 n)) := fun w' hb => ⟨(Row.cell (Row.below HU.out hb) 0).trans rfl, (HX.out.below hb).c2.1⟩
    clear hS0
    refine AnyBut.ready (rs := [4]) (by kernel_rfl) (by simp) ?_; refine AllBut.cons rfl (fun K hK => ?_) AllBut.nil
    rw [if_pos (by rfl)]
    go_simp
    refine (system_any n A1 c1 L _ (HL.out.below (below_drew W)) HV.out).mono ?_
    rintro e w1 ⟨r, rfl, hO, hb1⟩
    obtain ⟨Br, dr, rfl⟩ := own_slice hO
    have HB1 : Hid (Below W.heap.size W w1) := below_up (below_drew W) hb1
    have HO1 : Hid (OB w1 B (.slice Br (srtL L).length dr) (srtL L)) := OB.base hO hBW
    have HF1 : Hid (∀ b, (Value.slice Br (srtL L).length dr).ownBlock = some b → W.heap.size ≤ b) := fun b e => own_block hO b e
    clear hO hb1
    refine hK.out _ _ (fun _ => HSX.out _ HB1.out) ?_
    clear hK K
    (try simp only [Act.put, List.setIfInBounds_toArray, List.set_cons_zero, List.set_cons_succ])
    refine AnyBut.ready (rs := [5]) (by kernel_rfl) (by simp) ?_; refine AllBut.cons rfl (fun K hK => ?_) AllBut.nil
    go_simp
    refine hK.out _ _ (fun _ => HSX.out _ ?_) ?_
    · exact below_up HB1.out (below_alloc w1 _)
    clear hK K
    (try simp only [Act.put, List.setIfInBounds_toArray, List.set_cons_zero, List.set_cons_succ])
    refine AnyBut.ready (rs := [6]) (by kernel_rfl) (by simp) ?_; refine AllBut.cons rfl (fun K hK => ?_) AllBut.nil
    have HOW1 : Hid (w1.ownsRow B 30 2 (.slice Au C.length cu) C.length (hdS n hs C.length)) := own_below HOWN.out HB1.out
    have hz1 := HB1.out.size
    refine step_append_lies _ (by rfl) _ _ 45 (by rfl) B 30 si0 (.agg #[.int .i64 0, .slice none 0 0]) 2 32 Try.underlying45 hsi hsi0 hsi1 hsi2 rfl (by decide) _ _ _ (by rfl) (HOW1.out.alloc _) ⟨w1.heap.size, 0, none⟩ 1 1 [.int .i64 (n : Int), .slice Br (srtL L).length dr] (by rfl) rfl (cells_new _ _ _) (by simp [Value.oneCell']) (by omega) (by unfold maxLen; omega) (by omega) (by simp; omega) (w1.heap.size + 1) (by simp) ?_
    intro g7 cap7 w7 hO7 hg7 hat7 hlt7
    have HAT7 : Hid ((Value.slice (some ⟨g7, 0, none⟩) (C.length + 1) cap7).ownBlock = (Value.slice Au C.length cu).ownBlock ∨ ∃ q, (Value.slice (some ⟨g7, 0, none⟩) (C.length + 1) cap7).ownBlock = some q ∧ W.heap.size ≤ q) := by
      rcases hat7 with h | h
      · exact .inl h.symm
      · exact .inr ⟨g7, rfl, by omega⟩
    have HLS7 := Lib.hid (HPUSH.out w1 _ w7 _ _ (srtL L) HB1.out HO1.out HF1.out (below_alloc w1 _) hg7 hO7 HAT7.out)
    have HGR7 : Hid (W.grownBy w7 (Value.slice Au C.length cu).ownBlock) := grown_trans (grown_below (below_up HB1.out (below_alloc w1 _)) _) hg7
    have HOB : Hid (∀ b, (Value.slice Au C.length cu).ownBlock = some b → B ≤ b) := own_block HOWN.out
    have HNE : Hid ((Value.slice Au C.length cu).ownBlock ≠ some r8 ∧ (Value.slice Au C.length cu).ownBlock ≠ some r2 ∧ (Value.slice Au C.length cu).ownBlock ≠ some r3) := ⟨fun e => by have := HOB.out _ e; omega, fun e => by have := HOB.out _ e; omega, fun e => by have := HOB.out _ e; omega⟩
    clear hO7 hg7 hat7
    have HSX7 : Hid (w7.cell? ⟨r8, 0, none⟩ = some (.slice Au C.length cu) ∧ w7.cell? ⟨r2, 0, none⟩ = some (.int .i64 n)) := ⟨(Row.cell (Row.grown HU.out HGR7.out HNE.out.1) 0).trans rfl, (Row.grown HX.out HGR7.out HNE.out.2.1).c2.1⟩
    refine hK.out _ _ (fun _ => HSX7.out) ?_
    clear hK K x0 x1 u0 m0 hxl hul
    have HU7 := Lib.hid (Row.grown HU.out HGR7.out HNE.out.1)
    have u0 : w7.cell? ⟨r8, 0, none⟩ = some (.slice Au C.length cu) := (Row.cell HU7.out 0).trans rfl
    have hul := Row.lt HU7.out
    have uf := Row.frozen HU7.out 0
    (try simp only [Act.put, List.setIfInBounds_toArray, List.set_cons_zero, List.set_cons_succ])
    refine AnyBut.ready (rs := [7]) (by kernel_rfl) (by simp) ?_; refine AllBut.cons rfl (fun K hK => ?_) AllBut.nil
    go_simp
    refine hK.out _ _ (fun h => absurd rfl h) ?_
    clear hK K
    (try simp only [Act.put, List.setIfInBounds_toArray, List.set_cons_zero, List.set_cons_succ])
    refine AnyBut.done (by kernel_rfl) ?_ _
    refine NoPanic.normal ?_
    have HU8 : Hid (Row (w7.setCell ⟨r8, 0, none⟩ (.slice (some ⟨g7, 0, none⟩) (C.length + 1) cap7)) r8 45 #[.slice (some ⟨g7, 0, none⟩) (C.length + 1) cap7]) := Row.set HU7.out 0 _
    have HX8 := Lib.hid ((Row.grown HX.out HGR7.out HNE.out.2.1).far (p := ⟨r8, 0, none⟩) (Ne.symm hne2) (.slice (some ⟨g7, 0, none⟩) (C.length + 1) cap7))
    have HM8 : Hid ((w7.setCell ⟨r8, 0, none⟩ (.slice (some ⟨g7, 0, none⟩) (C.length + 1) cap7)).cell? ⟨r3, 0, none⟩ = some (.int .i64 most) ∧ r3 < (w7.setCell ⟨r8, 0, none⟩ (.slice (some ⟨g7, 0, none⟩) (C.length + 1) cap7)).heap.size) := by
      refine ⟨(World.cell?_of_block (a := ⟨r3, 0, none⟩) (Below.heap_setCell w7 ⟨r8, 0, none⟩ _ r3 hne3)).trans ((World.cell?_of_block (a := ⟨r3, 0, none⟩) (HGR7.out.block r3 HM.out.2 (fun e => HNE.out.2.2 e.symm))).trans HM.out.1), ?_⟩
      have h1 := HM.out.2; have h2 := HGR7.out.size; simp [World.setCell]; omega
    have HNS : Hid (¬ (S r8 ∨ (W.heap.size ≤ r8 ∧ r8 < w7.heap.size))) := by
      rintro (h | h)
      · have h1 := HB0.out; exact h1 h
      · omega
    have HLS8 := Lib.hid (HLS7.out.kept (row := some r8) (grown_set (grown_refl w7 (some r8)) 0 (.slice (some ⟨g7, 0, none⟩) (C.length + 1) cap7)) (fun k e => by simp only [Option.some.injEq] at e; subst e; exact HNS.out))
    have HB8 : Hid (Below W0.heap.size W0 (w7.setCell ⟨r8, 0, none⟩ (.slice (some ⟨g7, 0, none⟩) (C.length + 1) cap7))) := (HB.out.grown HGR7.out HB.out.size (fun k e => Nat.le_trans hB (HOB.out k e))).setCell h8.1 _
    have HK8 : Hid (W.heap.size ≤ (w7.setCell ⟨r8, 0, none⟩ (.slice (some ⟨g7, 0, none⟩) (C.length + 1) cap7)).heap.size ∧ ∀ k, k < W.heap.size → B ≤ k → ¬ S k → (w7.setCell ⟨r8, 0, none⟩ (.slice (some ⟨g7, 0, none⟩) (C.length + 1) cap7)).heap[k]? = W.heap[k]?) := by
      refine ⟨by have := HGR7.out.size; simpa [World.setCell] using this, fun k hk hBk hSk => ?_⟩
      exact (Below.heap_setCell w7 ⟨r8, 0, none⟩ _ k (by simp; omega)).trans (HGR7.out.block k hk fun e => hSk (HSU.out k e.symm))
    generalize hw8 : w7.setCell ⟨r8, 0, none⟩ (.slice (some ⟨g7, 0, none⟩) (C.length + 1) cap7) = w8 at *
    have hul8 := Row.lt HU8.out
    have v0 : w8.cell? ⟨r8, 0, none⟩ = some (.slice (some ⟨g7, 0, none⟩) (C.length + 1) cap7) := (Row.cell HU8.out 0).trans rfl
    have m0 := HM8.out.1
    clear u0 hul uf
    go_wp2
    go_ret
    refine ⟨ret_bool ?_, fun b => S b ∨ (W.heap.size ≤ b ∧ b < w7.heap.size), ⟨HB8.out, Nat.le_trans hBW HK8.out.1, HX8.out, HM8.out, ⟨_, HU8.out, ?_⟩, fun k h => ?_⟩, HK8.out.1, fun k hk h => ?_, HK8.out.2⟩
    · rw [Bool.eq_iff_iff, decide_eq_true_eq, decide_eq_true_eq, List.length_append, List.length_singleton]; omega
    · rw [List.map_append]; exact HLS8.out
    · rcases h with h | h
      · exact HAW.out k h
      · omega
    · rcases h with h | h
      · exact h
      · omega

end Go.Proofs.Ytabgmjakkgalgaa

/- The contract of the program's list of completions; conditions: stated in it. -/
namespace Go.Proofs.Ytabgmjakkgalgaa
open Go.RowKit
set_option maxHeartbeats 2000000
set_option maxRecDepth 100000
set_option linter.unusedSimpArgs false
set_option linter.unusedVariables false

/-- the first completions and a code -/
noncomputable def cmpR (v : Int) (xs : List Blk) (most : Nat) : List (List Blk) × Int := if isSysB v xs = true then (if told v = true then (if misN v.toNat xs ≤ 12 then (cplL v.toNat xs most, 0) else ([], 3)) else ([], 5)) else ([], 1)
theorem cmpR_bad {v : Int} {xs : List Blk} {most : Nat} (h : isSysB v xs = false) : cmpR v xs most = ([], 1) := by simp [cmpR, h]
theorem cmpR_not {v : Int} {xs : List Blk} {most : Nat} (h : isSysB v xs = true) (ht : told v = false) : cmpR v xs most = ([], 5) := by simp [cmpR, h, ht]
theorem cmpR_many {v : Int} {xs : List Blk} {most : Nat} (h : isSysB v xs = true) (ht : told v = true) (hm : ¬ misN v.toNat xs ≤ 12) : cmpR v xs most = ([], 3) := by simp [cmpR, h, ht, hm]
theorem cmpR_yes {v : Int} {xs : List Blk} {most : Nat} (h : isSysB v xs = true) (ht : told v = true) (hm : misN v.toNat xs ≤ 12) : cmpR v xs most = (cplL v.toNat xs most, 0) := by simp [cmpR, h, ht, hm]
theorem told_nat {n : Nat} (h : told n = true) : n = 3 ∨ n = 7 ∨ n = 9 ∨ n = 13 ∨ n = 15 := by unfold told at h; simp only [decide_eq_true_eq] at h; omega
theorem mis_int {n : Nat} {xs : List Blk} (hs : isSys n xs) (ht : told n = true) : missN n xs.length = (misN n xs : Nat) := by
  have h := (mis_cnt hs (told_nat ht)).2
  unfold missN
  rcases told_nat ht with rfl | rfl | rfl | rfl | rfl <;> simp only [Nat.reduceMul, Nat.reduceSub, Nat.reduceDiv] at h <;> omega
theorem completions_any (v : Int) (A : Option Addr) (c : Nat) (xs : List Blk) (most : Nat) (w : World) (hA : Bl w A xs) (hl : xs.length ≤ 1048576) (hm0 : 0 < most) (hm1 : most ≤ 1073741824) :
    Calls Try.prog 40 #[.agg #[.int .i64 v, .slice A xs.length c], .int .i64 most] w fun e w' => ∃ A' c' S, e = .returned (.tuple #[.slice A' (cmpR v xs most).1.length c', .int .i64 (cmpR v xs most).2]) ∧ LSS S w' w.heap.size v.toNat (.slice A' (cmpR v xs most).1.length c') (cmpR v xs most).1 ∧ Below w.heap.size w w' := by
  have HW := Lib.hid (below_up (below_alloc w (.cells #[.int .i64 v, .slice A xs.length c] 30)) (below_alloc _ (.cells #[.int .i64 most] 3)))
  have HA := Lib.hid (hA.below HW.out); clear hA
  have HR := Lib.hid ((Row.box w 30 (.int .i64 v) (.slice A xs.length c)).below (below_alloc _ (.cells #[.int .i64 most] 3)))
  have HQ := Lib.hid (Row.new (w.alloc (.cells #[.int .i64 v, .slice A xs.length c] 30)) 3 #[.int .i64 most])
  rw [World.size_alloc] at HQ
  cases hs : isSysB v xs
  · have HN : Hid (cmpR v xs most = ([], 1)) := cmpR_bad hs
    generalize cmpR v xs most = R at *
    go_enter Try.func40, Try.ntmps40
    obtain ⟨c0, c1⟩ := HR.out.c2
    go_wp2_with fail
    refine (IsSystem_any v A c xs _ HA.out hl).mono ?_
    rw [hs]
    rintro e w1 ⟨rfl, hb⟩
    have HB1 := Lib.hid (below_up HW.out hb)
    clear hb
    go_wp2
    go_ret2
    exact ⟨none, 0, fun _ => False, by rw [HN.out]; rfl, by rw [HN.out]; exact LSS.nil _ _ _, HB1.out⟩
  · have HS := Lib.hid (isSysB_iff.1 hs)
    have hv := HS.out.1
    obtain ⟨n, rfl⟩ := Int.eq_ofNat_of_zero_le (by omega : 0 ≤ v)
    cases ht : told n
    · have HN : Hid (cmpR n xs most = ([], 5)) := cmpR_not hs ht
      generalize cmpR n xs most = R at *
      have HT := Lib.hid ht; clear ht
      go_enter Try.func40, Try.ntmps40
      obtain ⟨c0, c1⟩ := HR.out.c2
      go_wp2_with fail
      refine (IsSystem_any n A c xs _ HA.out hl).mono ?_
      rw [hs]
      rintro e w1 ⟨rfl, hb⟩
      have HB1 := Lib.hid (below_up HW.out hb)
      have HR1 := Lib.hid (HR.out.below hb)
      clear hb
      obtain ⟨c0, c1⟩ := HR1.out.c2
      go_wp2_with fail
      refine (missing_any n A c xs.length _ hv.1 hv.2 hl).mono ?_
      rw [HT.out]
      simp only [if_neg Bool.false_ne_true]
      rintro e w2 ⟨rfl, hb⟩
      have HB2 := Lib.hid (below_up HB1.out hb)
      clear hb
      go_wp2
      go_ret2
      exact ⟨none, 0, fun _ => False, by rw [HN.out]; rfl, by rw [HN.out]; exact LSS.nil _ _ _, HB2.out⟩
    · have HT := Lib.hid ht
      have HMI := Lib.hid (mis_int HS.out ht)
      by_cases hm12 : misN n xs ≤ 12
      · have HN : Hid (cmpR n xs most = (cplL n xs most, 0)) := cmpR_yes hs ht hm12
        have hln := cplL_len n xs most
        generalize cmpR n xs most = R at *
        clear ht
        generalize hmn : misN n xs = MN at *
        have HMN := Lib.hid hmn; clear hmn
        go_enter Try.func40, Try.ntmps40
        obtain ⟨c0, c1⟩ := HR.out.c2
        go_wp2_with fail
        refine (IsSystem_any n A c xs _ HA.out hl).mono ?_
        rw [hs]
        rintro e w1 ⟨rfl, hb⟩
        have HB1 := Lib.hid (below_up HW.out hb)
        have HR1 := Lib.hid (HR.out.below hb)
        have HQ1 := Lib.hid (Row.below HQ.out hb)
        have HA1 := Lib.hid (HA.out.below hb)
        clear hb
        obtain ⟨c0, c1⟩ := HR1.out.c2
        go_wp2_with fail
        refine (missing_any n A c xs.length _ hv.1 hv.2 hl).mono ?_
        rw [HT.out, HMI.out]
        simp only [if_true]
        rintro e w2 ⟨rfl, hb⟩
        have HB2 := Lib.hid (below_up HB1.out hb)
        have HR2 := Lib.hid (HR1.out.below hb)
        have HQ2 := Lib.hid (Row.below HQ1.out hb)
        have HA2 := Lib.hid (HA1.out.below hb)
        clear hb
        have hb3 := below_alloc w2 (.cells #[.slice none 0 0] 45)
        have HB3 := Lib.hid (below_up HB2.out hb3)
        have HR3 := Lib.hid (HR2.out.below hb3)
        have HQ3 := Lib.hid (Row.below HQ2.out hb3)
        have HA3 := Lib.hid (HA2.out.below hb3)
        have HU3 := Lib.hid (Row.new w2 45 #[.slice none 0 0])
        have HZ3 : Hid ((w2.alloc (.cells #[.slice none 0 0] 45)).heap.size = w2.heap.size + 1) := World.size_alloc _ _
        clear hb3 c0 c1
        obtain ⟨c0, c1⟩ := HR2.out.c2
        have hrl := HR2.out.lt
        have hql := Row.lt HQ2.out
        have hz2 := HB2.out.size
        go_wp2_with fail
        have hl35 := HS.out.2.1
        generalize hw3 : w2.alloc (.cells #[.slice none 0 0] 45) = w3 at *
        have hz3 := HZ3.out
        clear hw3 c0 c1
        have HINV : Hid (InvC w w3.heap.size w2.heap.size w.heap.size (w.heap.size + 1) n most A c xs [] (fun _ => False) w3) := ⟨HB3.out, Nat.le_refl _, HR3.out, ⟨(Row.cell HQ3.out 0).trans rfl, Row.lt HQ3.out⟩, ⟨_, HU3.out, LSS.nil _ _ _⟩, fun _ h => h.elim⟩
        refine (complete_any n A c xs 73 #[] #[.pointer (some ⟨w2.heap.size, 0, none⟩), .pointer (some ⟨w.heap.size, 0, none⟩), .pointer (some ⟨w.heap.size + 1, 0, none⟩)] (fun C => decide (C.length < most)) (InvC w w3.heap.size w2.heap.size w.heap.size (w.heap.size + 1) n most A c xs) (fun L => L.length ≤ 1048576) (addC n xs).length w3 HA3.out HS.out (told_nat HT.out) (fun M hM => by
          rw [List.length_append, add_len HS.out (told_nat HT.out) hM, HMN.out]; omega) (Nat.le_refl _) HINV.out (fun cb g _ _ => compCl_any w w3.heap.size w2.heap.size w.heap.size (w.heap.size + 1) n most A c xs (by omega) (by omega) (by omega) (by omega) (by omega) (by omega) hm1 (addC n xs).length cb g)).mono ?_
        rintro e w4 ⟨rfl, S', hI⟩
        obtain ⟨hb4, hz4, _, _, ⟨u, hu, hls⟩, _⟩ := hI
        rw [cplL_run hm0] at hls
        obtain ⟨A', c', rfl⟩ := hls.slice
        have HB4 := Lib.hid hb4; have HLS := Lib.hid (hls.base (by omega : w.heap.size ≤ w3.heap.size))
        have u0 : w4.cell? ⟨w2.heap.size, 0, none⟩ = some (.slice A' (cplL n xs most).length c') := (Row.cell hu 0).trans rfl
        have hul := Row.lt hu
        clear hb4 hls hu
        go_wp2
        go_ret2
        exact ⟨A', c', S', by rw [HN.out]; rfl, by rw [HN.out]; exact HLS.out, HB4.out⟩
      · have HN : Hid (cmpR n xs most = ([], 3)) := cmpR_many hs ht hm12
        generalize cmpR n xs most = R at *
        clear ht
        generalize hmn : misN n xs = MN at *
        have HMN := Lib.hid hmn; clear hmn
        have hgt : 12 < MN := by omega
        go_enter Try.func40, Try.ntmps40
        obtain ⟨c0, c1⟩ := HR.out.c2
        go_wp2_with fail
        refine (IsSystem_any n A c xs _ HA.out hl).mono ?_
        rw [hs]
        rintro e w1 ⟨rfl, hb⟩
        have HB1 := Lib.hid (below_up HW.out hb)
        have HR1 := Lib.hid (HR.out.below hb)
        clear hb
        obtain ⟨c0, c1⟩ := HR1.out.c2
        go_wp2_with fail
        refine (missing_any n A c xs.length _ hv.1 hv.2 hl).mono ?_
        rw [HT.out, HMI.out]
        simp only [if_true]
        rintro e w2 ⟨rfl, hb⟩
        have HB2 := Lib.hid (below_up HB1.out hb)
        clear hb
        go_wp2
        go_ret2
        exact ⟨none, 0, fun _ => False, by rw [HN.out]; rfl, by rw [HN.out]; exact LSS.nil _ _ _, HB2.out⟩

end Go.Proofs.Ytabgmjakkgalgaa

/- Contracts of the reference's tables of pairs and of its codes of completions; conditions: stated in each. -/
namespace Go.Proofs.Ytabgmjakkgalgaa
open Go.RowKit
set_option maxHeartbeats 2000000
set_option maxRecDepth 100000
set_option linter.unusedSimpArgs false
set_option linter.unusedVariables false

/-- the number of a pair, in any order -/
def prN (a b : Nat) : Nat := min a b * 16 + max a b
theorem prN_lt {a b : Nat} (h : a < b) : prN a b = a * 16 + b := by unfold prN; rw [Nat.min_eq_left (by omega), Nat.max_eq_right (by omega)]
theorem prN_gt {a b : Nat} (h : b < a) : prN a b = b * 16 + a := by unfold prN; rw [Nat.min_eq_right (by omega), Nat.max_eq_left (by omega)]
theorem l04Pair_any (a b : Nat) (w : World) (ha : a < 15) (hb : b < 15) :
    Calls Try.prog 94 #[.int .i64 (a : Int), .int .i64 (b : Int)] w fun e w' => e = .returned (.int .i64 (prN a b : Nat)) ∧ w = w' := by
  have HP : Hid (prN a b = min a b * 16 + max a b) := rfl
  generalize prN a b = R at *
  go_enter Try.func94, Try.ntmps94
  rcases Nat.lt_or_ge a b with h | h
  · go_wp2
    go_ret
    exact ⟨ret_int (by rw [HP.out, Nat.min_eq_left (by omega), Nat.max_eq_right (by omega)]; omega), rfl⟩
  · go_wp2
    go_ret
    exact ⟨ret_int (by rw [HP.out, Nat.min_eq_right (by omega), Nat.max_eq_left (by omega)]; omega), rfl⟩
theorem pair_lt {a b : Nat} (w : World) (h : a < b) (hb : b < 15) :
    Calls Try.prog 94 #[.int .i64 (a : Int), .int .i64 (b : Int)] w fun e w' => e = .returned (.int .i64 ((a * 16 + b : Nat) : Int)) ∧ w' = w := by
  have := l04Pair_any a b w (by omega) hb
  rw [prN_lt h] at this
  exact this.mono fun _ _ ⟨h1, h2⟩ => ⟨h1, h2.symm⟩
theorem pair_gt {a b : Nat} (w : World) (h : b < a) (ha : a < 15) :
    Calls Try.prog 94 #[.int .i64 (a : Int), .int .i64 (b : Int)] w fun e w' => e = .returned (.int .i64 ((b * 16 + a : Nat) : Int)) ∧ w' = w := by
  have := l04Pair_any a b w ha (by omega)
  rw [prN_gt h] at this
  exact this.mono fun _ _ ⟨h1, h2⟩ => ⟨h1, h2.symm⟩

theorem pair_is {a b r : Nat} (h : prN a b = r) (w : World) (ha : a < 15) (hb : b < 15) :
    Calls Try.prog 94 #[.int .i64 (a : Int), .int .i64 (b : Int)] w fun e w' => e = .returned (.int .i64 (r : Int)) ∧ w' = w :=
  (h ▸ l04Pair_any a b w ha hb).mono fun _ _ ⟨h1, h2⟩ => ⟨h1, h2.symm⟩

theorem l04Pairs_any (n : Nat) (A : Option Addr) (c : Nat) (xs : List Blk) (w : World) (hA : Bl w A xs) (hs : isSys n xs) :
    Calls Try.prog 69 #[.slice A xs.length c] w fun e w' => ∃ g, e = .returned (.slice (some ⟨g, 0, none⟩) 256 256) ∧ w.heap.size ≤ g ∧ Vb w' g 256 (fun i => (mskN xs xs.length).testBit i) ∧ Below w.heap.size w w' := by
  have HA := Lib.hid hA; clear hA
  have HS := Lib.hid hs
  have hl35 := hs.2.1
  have hv := hs.1
  clear hs
  have HV0 := Lib.hid (Vb.new w 256 (fun _ => false))
  have HB0 := Lib.hid (below_alloc w (.cells (bcells 256 (fun _ => false)) 4))
  go_enter Try.func69, Try.ntmps69
  go_wp2
  go_loopw [4] (fun i wr => ∃ k : Nat, k ≤ xs.length ∧ i = .int .i64 k ∧ Hid (Vb wr w.heap.size 256 (fun i => (mskN xs k).testBit i) ∧ Below w.heap.size w wr)) (fun i _ => xs.length - (intOf i).toNat)
  case atStart => exact ⟨0, by omega, rfl, HV0.out.ext (fun i _ => by simp [mskN]), HB0.out⟩
  case round =>
    obtain ⟨k, hk, rfl, HC⟩ := hrel
    by_cases hlt : k < xs.length
    · obtain ⟨x, y, z, hb, h1, h2, h3, e1, e2, e3⟩ := good_nat (HS.out.2.2.1 k hlt).1
      obtain ⟨b1, o1, hA1, hb1, p0, p1, p2⟩ := HA.out.at_ hlt
      subst hA1
      have HM : Hid (mskN xs (k + 1) = mskN xs k ||| prM x y z) := by unfold Hid; rw [mskN, e1, e2, e3]
      rw [hb] at p0 p1 p2
      simp only [blkN] at p0 p1 p2
      have HP := Lib.hid (And.intro p0 (And.intro p1 p2))
      clear e1 e2 e3 hb p0 p1 p2
      have hz15 : z < 15 := by omega
      obtain ⟨r1, hr1⟩ : ∃ r, r = x * 16 + y := ⟨_, rfl⟩
      obtain ⟨r2, hr2⟩ : ∃ r, r = x * 16 + z := ⟨_, rfl⟩
      obtain ⟨r3, hr3⟩ : ∃ r, r = y * 16 + z := ⟨_, rfl⟩
      have Hr1 : Hid (prN x y = r1) := by rw [hr1]; exact prN_lt h1
      have Hr2 : Hid (prN x z = r2) := by rw [hr2]; exact prN_lt (by omega)
      have Hr3 : Hid (prN y z = r3) := by rw [hr3]; exact prN_lt h2
      have HRR := Lib.hid (And.intro hr1 (And.intro hr2 hr3))
      have i1 : (r1 : Int) < 256 := by omega
      have i2 : (r2 : Int) < 256 := by omega
      have i3 : (r3 : Int) < 256 := by omega
      have j1 : r1 < 256 := by omega
      have j2 : r2 < 256 := by omega
      have j3 : r3 < 256 := by omega
      clear hr1 hr2 hr3
      have HV := Lib.hid HC.out.1
      have HB := Lib.hid HC.out.2
      clear HC
      have p0 := (HB.out.cell (p := ⟨b1, o1 + k * 3, none⟩) hb1).trans HP.out.1
      have p1 := (HB.out.cell (p := ⟨b1, o1 + k * 3 + 1, none⟩) hb1).trans HP.out.2.1
      have p2 := (HB.out.cell (p := ⟨b1, o1 + k * 3 + 2, none⟩) hb1).trans HP.out.2.2
      have hgl := HV.out.lt
      have hz1 := HB.out.size
      obtain ⟨t, q0⟩ : ∃ t, wr.cell? ⟨w.heap.size, r1, none⟩ = some t := ⟨_, HV.out.cell (by omega)⟩
      have f0 := HV.out.frozen r1
      go_wp2
      go_still_tail 12, (by kernel_rfl)
      still_call (pair_is Hr1.out _ (by omega) (by omega))
      (repeat still_step)
      refine wpStill_nil ?_
      change wpList _ _ _ _ _ wr.drew
      have HVw3 := Lib.hid ((HV.out.below (below_drew wr)).set r1 true)
      have HBw3 : Hid (Below w.heap.size w (wr.drew.setCell ⟨w.heap.size, r1, none⟩ (.bool true))) := HB.out.drew.setCell (Nat.le_refl _) _
      have q1 : wr.drew.cell? ⟨w.heap.size, r1, none⟩ = some t := q0
      have f1 : wr.drew.frozen? ⟨w.heap.size, r1, none⟩ = false := f0
      have hgl1 : w.heap.size < wr.drew.heap.size := hgl
      clear p0 p1 p2 q0 f0 hgl hz1
      generalize hwd : wr.drew = wd at *
      clear hwd
      go_wp2
      clear q1 f1 hgl1
      generalize wd.setCell ⟨w.heap.size, r1, none⟩ (.bool true) = w3 at *
      have p0 := (HBw3.out.cell (p := ⟨b1, o1 + k * 3, none⟩) hb1).trans HP.out.1
      have p1 := (HBw3.out.cell (p := ⟨b1, o1 + k * 3 + 1, none⟩) hb1).trans HP.out.2.1
      have p2 := (HBw3.out.cell (p := ⟨b1, o1 + k * 3 + 2, none⟩) hb1).trans HP.out.2.2
      have hgl := HVw3.out.lt
      have hz1 := HBw3.out.size
      obtain ⟨t, q0⟩ : ∃ t, w3.cell? ⟨w.heap.size, r2, none⟩ = some t := ⟨_, HVw3.out.cell (by omega)⟩
      have f0 := HVw3.out.frozen r2
      go_wp2
      go_still_tail 12, (by kernel_rfl)
      still_call (pair_is Hr2.out _ (by omega) (by omega))
      (repeat still_step)
      refine wpStill_nil ?_
      change wpList _ _ _ _ _ w3.drew
      have HVw4 := Lib.hid ((HVw3.out.below (below_drew w3)).set r2 true)
      have HBw4 : Hid (Below w.heap.size w (w3.drew.setCell ⟨w.heap.size, r2, none⟩ (.bool true))) := HBw3.out.drew.setCell (Nat.le_refl _) _
      have q1 : w3.drew.cell? ⟨w.heap.size, r2, none⟩ = some t := q0
      have f1 : w3.drew.frozen? ⟨w.heap.size, r2, none⟩ = false := f0
      have hgl1 : w.heap.size < w3.drew.heap.size := hgl
      clear p0 p1 p2 q0 f0 hgl hz1
      generalize hwd : w3.drew = wd at *
      clear hwd
      go_wp2
      clear q1 f1 hgl1
      generalize wd.setCell ⟨w.heap.size, r2, none⟩ (.bool true) = w4 at *
      have p0 := (HBw4.out.cell (p := ⟨b1, o1 + k * 3, none⟩) hb1).trans HP.out.1
      have p1 := (HBw4.out.cell (p := ⟨b1, o1 + k * 3 + 1, none⟩) hb1).trans HP.out.2.1
      have p2 := (HBw4.out.cell (p := ⟨b1, o1 + k * 3 + 2, none⟩) hb1).trans HP.out.2.2
      have hgl := HVw4.out.lt
      have hz1 := HBw4.out.size
      obtain ⟨t, q0⟩ : ∃ t, w4.cell? ⟨w.heap.size, r3, none⟩ = some t := ⟨_, HVw4.out.cell (by omega)⟩
      have f0 := HVw4.out.frozen r3
      go_wp2
      go_still_tail 12, (by kernel_rfl)
      still_call (pair_is Hr3.out _ (by omega) (by omega))
      (repeat still_step)
      refine wpStill_nil ?_
      change wpList _ _ _ _ _ w4.drew
      have HVw5 := Lib.hid ((HVw4.out.below (below_drew w4)).set r3 true)
      have HBw5 : Hid (Below w.heap.size w (w4.drew.setCell ⟨w.heap.size, r3, none⟩ (.bool true))) := HBw4.out.drew.setCell (Nat.le_refl _) _
      have q1 : w4.drew.cell? ⟨w.heap.size, r3, none⟩ = some t := q0
      have f1 : w4.drew.frozen? ⟨w.heap.size, r3, none⟩ = false := f0
      have hgl1 : w.heap.size < w4.drew.heap.size := hgl
      clear p0 p1 p2 q0 f0 hgl hz1
      generalize hwd : w4.drew = wd at *
      clear hwd
      go_wp2
      clear q1 f1 hgl1
      generalize wd.setCell ⟨w.heap.size, r3, none⟩ (.bool true) = w5 at *
      go_roundw
      case rel =>
        refine ⟨k + 1, by omega, by go_num, HVw5.out.ext fun i hi => ?_, HBw5.out⟩
        rw [HM.out, Nat.testBit_or, prM_bit, ← HRR.out.1, ← HRR.out.2.1, ← HRR.out.2.2]
        unfold updA
        by_cases g3 : i = r3
        · simp [g3]
        · by_cases g2 : i = r2
          · simp [g2]
          · by_cases g1 : i = r1
            · simp [g1]
            · simp [g1, g2, g3]
      case measure => simp [intOf]; omega
    · obtain rfl : k = xs.length := by omega
      go_wp2
      go_ret
      exact ⟨w.heap.size, rfl, Nat.le_refl _, HC.out.1, HC.out.2⟩

theorem l08Code_any (v : Int) (A : Option Addr) (c : Nat) (xs : List Blk) (most : Nat) (w : World) (hA : Bl w A xs) (hl : xs.length ≤ 1048576) :
    Calls Try.prog 38 #[.agg #[.int .i64 v, .slice A xs.length c]] w fun e w' => e = .returned (.int .i64 (cmpR v xs most).2) ∧ Below w.heap.size w w' := by
  cases hs : isSysB v xs
  · have HN : Hid (cmpR v xs most = ([], 1)) := cmpR_bad hs
    generalize cmpR v xs most = R at *
    have HA := Lib.hid hA; clear hA; have HR := Lib.hid (Row.box w 30 (.int .i64 v) (.slice A xs.length c)); have HW := Lib.hid (Since.refl w); go_enter Try.func38, Try.ntmps38; go_wp2_with fail; replace HA := Lib.hid (HA.out.below (below_alloc _ (.cells #[.int .i64 v, .slice A xs.length c] 30))); replace HW := Lib.hid (HW.out.below (below_alloc _ (.cells #[.int .i64 v, .slice A xs.length c] 30)))
    refine (l01Is_any v A c xs _ HA.out hl).mono ?_; rw [hs]; rintro e w_ ⟨rfl, hb⟩; replace HW := Lib.hid (HW.out.below hb); clear hb
    go_wp2
    go_ret
    exact ⟨by rw [HN.out]; rfl, HW.out⟩
  · have HS := Lib.hid (isSysB_iff.1 hs)
    have hv := HS.out.1
    obtain ⟨n, rfl⟩ := Int.eq_ofNat_of_zero_le (by omega : 0 ≤ v)
    cases ht : told n
    · have HN : Hid (cmpR n xs most = ([], 5)) := cmpR_not hs ht
      have HT := Lib.hid ht; clear ht
      generalize cmpR n xs most = R at *
      have HA := Lib.hid hA; clear hA; have HR := Lib.hid (Row.box w 30 (.int .i64 n) (.slice A xs.length c)); have HW := Lib.hid (Since.refl w); go_enter Try.func38, Try.ntmps38; go_wp2_with fail; replace HA := Lib.hid (HA.out.below (below_alloc _ (.cells #[.int .i64 n, .slice A xs.length c] 30))); replace HW := Lib.hid (HW.out.below (below_alloc _ (.cells #[.int .i64 n, .slice A xs.length c] 30)))
      refine (l01Is_any n A c xs _ HA.out hl).mono ?_; rw [hs]; rintro e w_ ⟨rfl, hb⟩; replace HA := Lib.hid (HA.out.below hb); replace HW := Lib.hid (HW.out.below hb); replace HR := Lib.hid (HR.out.below hb); clear hb; (try clear c0 c1); obtain ⟨c0, c1⟩ := HR.out.c2
      go_wp2_with fail
      refine (l08Missing_any n A c xs.length _ hv.1 hv.2 hl).mono ?_; rw [HT.out]; rintro e w_ ⟨rfl, hb⟩; replace HW := Lib.hid (HW.out.below hb); clear hb
      go_wp2
      go_ret
      exact ⟨by rw [HN.out]; rfl, HW.out⟩
    · have HMI := Lib.hid (mis_int HS.out ht)
      have HT := Lib.hid ht
      by_cases hm12 : misN n xs ≤ 12
      · have HN : Hid (cmpR n xs most = (cplL n xs most, 0)) := cmpR_yes hs ht hm12
        clear ht
        generalize cmpR n xs most = R at *
        generalize hmn : misN n xs = MN at *
        have HMN := Lib.hid hmn; clear hmn
        have HA := Lib.hid hA; clear hA; have HR := Lib.hid (Row.box w 30 (.int .i64 n) (.slice A xs.length c)); have HW := Lib.hid (Since.refl w); go_enter Try.func38, Try.ntmps38; go_wp2_with fail; replace HA := Lib.hid (HA.out.below (below_alloc _ (.cells #[.int .i64 n, .slice A xs.length c] 30))); replace HW := Lib.hid (HW.out.below (below_alloc _ (.cells #[.int .i64 n, .slice A xs.length c] 30)))
        refine (l01Is_any n A c xs _ HA.out hl).mono ?_; rw [hs]; rintro e w_ ⟨rfl, hb⟩; replace HA := Lib.hid (HA.out.below hb); replace HW := Lib.hid (HW.out.below hb); replace HR := Lib.hid (HR.out.below hb); clear hb; (try clear c0 c1); obtain ⟨c0, c1⟩ := HR.out.c2
        go_wp2_with fail
        refine (l08Missing_any n A c xs.length _ hv.1 hv.2 hl).mono ?_; rw [HT.out, HMI.out]; rintro e w_ ⟨rfl, hb⟩; replace HW := Lib.hid (HW.out.below hb); clear hb
        go_wp2
        go_ret
        exact ⟨by rw [HN.out]; rfl, HW.out⟩
      · have HN : Hid (cmpR n xs most = ([], 3)) := cmpR_many hs ht hm12
        clear ht
        generalize cmpR n xs most = R at *
        generalize hmn : misN n xs = MN at *
        have HMN := Lib.hid hmn; clear hmn
        have hgt : 12 < MN := by omega
        have HA := Lib.hid hA; clear hA; have HR := Lib.hid (Row.box w 30 (.int .i64 n) (.slice A xs.length c)); have HW := Lib.hid (Since.refl w); go_enter Try.func38, Try.ntmps38; go_wp2_with fail; replace HA := Lib.hid (HA.out.below (below_alloc _ (.cells #[.int .i64 n, .slice A xs.length c] 30))); replace HW := Lib.hid (HW.out.below (below_alloc _ (.cells #[.int .i64 n, .slice A xs.length c] 30)))
        refine (l01Is_any n A c xs _ HA.out hl).mono ?_; rw [hs]; rintro e w_ ⟨rfl, hb⟩; replace HA := Lib.hid (HA.out.below hb); replace HW := Lib.hid (HW.out.below hb); replace HR := Lib.hid (HR.out.below hb); clear hb; (try clear c0 c1); obtain ⟨c0, c1⟩ := HR.out.c2
        go_wp2_with fail
        refine (l08Missing_any n A c xs.length _ hv.1 hv.2 hl).mono ?_; rw [HT.out, HMI.out]; rintro e w_ ⟨rfl, hb⟩; replace HW := Lib.hid (HW.out.below hb); clear hb
        go_wp2
        go_ret
        exact ⟨by rw [HN.out]; rfl, HW.out⟩

end Go.Proofs.Ytabgmjakkgalgaa

/- The contract of the reference's search for completions; conditions: stated in it. -/
namespace Go.Proofs.Ytabgmjakkgalgaa
open Go.RowKit
set_option maxHeartbeats 40000000
set_option maxRecDepth 100000
set_option linter.unusedSimpArgs false
set_option linter.unusedVariables false

/-- what is kept -/
def kpL (keep : Bool) (C : List (List Blk)) : List (List Blk) := if keep then C else []
theorem pair_qu {a b r : Nat} (h : prN a b = r) (w : World) (ha : a < 15) (hb : b < 15) :
    Calls Try.prog 94 #[.int .i64 (a : Int), .int .i64 (b : Int)] w fun e w' => e = .returned (.int .i64 (r : Int)) ∧ w = w' := h ▸ l04Pair_any a b w ha hb
theorem go8_zero (n s g base most : Nat) (keep : Bool) (hn : n ≤ 15) (hmost : most ≤ 1000000000) (hbs : base ≤ s) (hbg : base ≤ g) (m : Nat) (L : List Blk) (C : List (List Blk)) (u un : Value) (b0 : Nat) (w : World) (hc : cntC n m = 0) (hL : L.length ≤ 1000) (hC : C.length < most)
    (hS : Sk w s n g C.length most keep u) (hG : Vb w g 256 (fun i => m.testBit i)) (hu : LBq w base u (kpL keep C)) (hO : OB w b0 un L) (hb : base ≤ w.heap.size) :
    Calls Try.prog 70 #[.pointer (some ⟨s, 0, none⟩), un] w fun e w' => ∃ u', e = .returned (.tuple #[]) ∧ Sk w' s n g (C ++ [L]).length most keep u' ∧ Vb w' g 256 (fun i => m.testBit i) ∧ LBq w' base u' (kpL keep (C ++ [L])) ∧ Gk w w' s g u u' := by
  have HS := Lib.hid hS; have HG := Lib.hid hG; have HU := Lib.hid hu; have HO := Lib.hid hO
  have HNX : Hid (∀ j, j < 256 → frK n m j = false) := fun j hj => nxt_min (by rw [cntC_zero.1 hc]; exact hj)
  have HNE : Hid (s ≠ g) := fun e => by
    have h1 : Row w s _ _ := hS
    have h2 : Row w g _ _ := hG
    rw [← e] at h2
    unfold Row at h1 h2
    rw [h1] at h2
    simp at h2
  clear hS hG hu hO hc
  obtain ⟨A, c, rfl⟩ := own_slice HO.out
  go_enter Try.func70, Try.ntmps70
  go_wp2
  go_loopw [4, 6] (fun a p wr => ∃ k : Nat, k ≤ n ∧ a = .int .i64 (-1) ∧ p = .int .i64 k ∧ Hid (Below w.heap.size w wr)) (fun _ p _ => n - (intOf p).toNat)
  case atStart => exact ⟨0, by omega, rfl, rfl, Below.refl _ _⟩
  case round =>
    obtain ⟨k, hk, rfl, rfl, HB⟩ := hrel
    obtain ⟨c0, c1, c2, c3, c4, c5⟩ := (HS.out.below HB.out).c6
    have hsl := (HS.out.below HB.out).lt
    by_cases hkn : k < n
    · go_wp2
      clear c0 c1 c2 c3 c4 c5 hsl
      obtain ⟨wo, rfl⟩ : ∃ wo : World, wo = wr := ⟨_, rfl⟩
      go_loopw [4, 7] (fun a q wr => ∃ j : Nat, k + 1 ≤ j ∧ j ≤ n ∧ a = .int .i64 (-1) ∧ q = .int .i64 j ∧ Hid (Below w.heap.size w wr)) (fun _ q _ => n - (intOf q).toNat)
      case atStart => exact ⟨k + 1, by omega, by omega, rfl, by go_num, HB.out⟩
      case round =>
        obtain ⟨j, hj1, hj2, rfl, rfl, HD⟩ := hrel
        obtain ⟨c0, c1, c2, c3, c4, c5⟩ := (HS.out.below HD.out).c6
        have hsl := (HS.out.below HD.out).lt
        by_cases hjn : j < n
        · obtain ⟨r, hr⟩ : ∃ r, r = k * 16 + j := ⟨_, rfl⟩
          have HR : Hid (prN k j = r) := by rw [hr]; exact prN_lt (by omega)
          have hr256 : r < 256 := by omega
          have i1 : (r : Int) < 256 := by omega
          have q0 := (HG.out.below HD.out).cell (i := r) hr256
          have hgl := (HG.out.below HD.out).lt
          have hbit : m.testBit r = true := by
            have := HNX.out r hr256
            rw [hr, ← Bool.not_eq_true, fr_iff (by omega)] at this
            rw [hr]
            cases hh : m.testBit (k * 16 + j)
            · exact absurd ⟨by omega, hjn, hh⟩ this
            · rfl
          rw [hbit] at q0
          clear hr hbit
          go_wp2
          go_quiet ((go_at_call 94; exact quiet_same (pair_qu HR.out _ (by omega) (by omega))))
          go_wp2
          go_roundw
          case rel => exact ⟨j + 1, by omega, by omega, rfl, by go_num, below_drewN HD.out _⟩
          case measure => simp [intOf]; omega
        · obtain rfl : j = n := by omega
          go_wp2
          go_roundw
          case rel => exact ⟨k + 1, by omega, rfl, by go_num, HD.out⟩
          case measure => simp [intOf]; omega
    · obtain rfl : k = n := by omega
      have f2 := (HS.out.below HB.out).frozen 2
      have f5 := (HS.out.below HB.out).frozen 5
      cases keep
      · go_wp2
        refine bodyPost_ret (results_none rfl _ _ _) rfl ?_
        have hlen : (C ++ [L]).length = C.length + 1 := by simp
        refine ⟨_, rfl, by rw [hlen]; exact (HS.out.below HB.out).incr, (HG.out.below HB.out).far (fun e => ?_) _, (HU.out.below HB.out).kept (grown_set (grown_refl wr (some s)) 2 _) ⟨_, HS.out.below HB.out⟩ (by decide) (by decide), ((Gk.refl w s g u).below HB.out).grown (grown_set (grown_refl wr (some s)) 2 _) (.inr (.inl rfl)) (.inl rfl)⟩
        exact HNE.out e
      · obtain ⟨li0, hli, hli0, hli1, hli2⟩ := info_parts infoBlks'
        have HUw : Hid (LBq wr base u C) := HU.out.below HB.out
        obtain ⟨Au, cu, rfl⟩ := HUw.out.slice
        have HS0 : Hid (Sk wr s k g C.length most true (.slice Au C.length cu)) := HS.out.below HB.out
        have HS1 := Lib.hid (HS0.out.incr)
        have HG1 : Hid (Vb (wr.setCell ⟨s, 2, none⟩ (.int .i64 ((C.length : Int) + 1))) g 256 (fun i => m.testBit i)) := (HG.out.below HB.out).far HNE.out _
        have HU1 := Lib.hid (HUw.out.kept (grown_set (grown_refl wr (some s)) 2 (.int .i64 ((C.length : Int) + 1))) ⟨_, HS0.out⟩ (by decide) (by decide))
        have HO1 : Hid (OB (wr.setCell ⟨s, 2, none⟩ (.int .i64 ((C.length : Int) + 1))) b0 (.slice A L.length c) L) := World.ownsRow.kept (HO.out.below HB.out) (grown_set (grown_refl wr (some s)) 2 _) (.inr (own_typed (HO.out.below HB.out) ⟨_, HS0.out⟩ (by decide)))
        have HK1 : Hid (Gk w (wr.setCell ⟨s, 2, none⟩ (.int .i64 ((C.length : Int) + 1))) s g (.slice Au C.length cu) (.slice Au C.length cu)) := ((Gk.refl w s g _).below HB.out).grown (grown_set (grown_refl wr (some s)) 2 _) (.inr (.inl rfl)) (.inl rfl)
        have HZ1 : Hid (base ≤ (wr.setCell ⟨s, 2, none⟩ (.int .i64 ((C.length : Int) + 1))).heap.size) := by have := HB.out.size; unfold Hid; simp [World.setCell]; omega
        go_wp2
        clear c0 c1 c2 c3 c4 c5 f2 f5 hsl
        generalize hw1 : wr.setCell ⟨s, 2, none⟩ (.int .i64 ((C.length : Int) + 1)) = w1 at *
        clear hw1
        obtain ⟨c0, c1, c2, c3, c4, c5⟩ := HS1.out.c6
        refine wp_region_noPanic ?_
        refine AnyBut.begin (N := 12) (S := (fun w' => w'.cell? ⟨s, 0, none⟩ = some (.int .i64 k) ∧ w'.cell? ⟨s, 5, none⟩ = some (.slice Au C.length cu))) (by kernel_rfl) ?_
        have hS0 : (fun w' => w'.cell? ⟨s, 0, none⟩ = some (.int .i64 k) ∧ w'.cell? ⟨s, 5, none⟩ = some (.slice Au C.length cu)) w1.drew := ⟨c0, c5⟩
        refine AnyBut.take (i := 0) (v := ?_) rfl rfl (by decide) (by kernel_rfl) (by kernel_rfl) (by kernel_rfl) (by kernel_rfl) (fun _ _ _ h => h) (Or.inl ⟨by rfl, ?_⟩) hS0 ?_; rotate_left; (focus (intro W hSw; (try dsimp only at hSw); obtain ⟨z0, z1⟩ := hSw; go_simp; (try with_reducible rfl))); (try simp only [Act.put, List.setIfInBounds_toArray, List.set_cons_zero, List.set_cons_succ]); refine AnyBut.take (i := 1) (v := ?_) rfl rfl (by decide) (by kernel_rfl) (by kernel_rfl) (by kernel_rfl) (by kernel_rfl) (fun _ _ _ h => h) (Or.inl ⟨by rfl, ?_⟩) hS0 ?_; rotate_left; (focus (intro W hSw; (try dsimp only at hSw); obtain ⟨z0, z1⟩ := hSw; go_simp; (try with_reducible rfl))); (try simp only [Act.put, List.setIfInBounds_toArray, List.set_cons_zero, List.set_cons_succ]); refine AnyBut.take (i := 2) (v := ?_) rfl rfl (by decide) (by kernel_rfl) (by kernel_rfl) (by kernel_rfl) (by kernel_rfl) (fun _ _ _ h => h) (Or.inl ⟨by rfl, ?_⟩) hS0 ?_; rotate_left; (focus (intro W hSw; (try dsimp only at hSw); obtain ⟨z0, z1⟩ := hSw; go_simp; (try with_reducible rfl))); (try simp only [Act.put, List.setIfInBounds_toArray, List.set_cons_zero, List.set_cons_succ]); refine AnyBut.take (i := 3) (v := ?_) rfl rfl (by decide) (by kernel_rfl) (by kernel_rfl) (by kernel_rfl) (by kernel_rfl) (fun _ _ _ h => h) (Or.inl ⟨by rfl, ?_⟩) hS0 ?_; rotate_left; (focus (intro W hSw; (try dsimp only at hSw); obtain ⟨z0, z1⟩ := hSw; go_simp; (try with_reducible rfl))); (try simp only [Act.put, List.setIfInBounds_toArray, List.set_cons_zero, List.set_cons_succ]); refine AnyBut.take (i := 4) (v := ?_) rfl rfl (by decide) (by kernel_rfl) (by kernel_rfl) (by kernel_rfl) (by kernel_rfl) (fun _ _ _ h => h) (Or.inl ⟨by rfl, ?_⟩) hS0 ?_; rotate_left; (focus (intro W hSw; (try dsimp only at hSw); obtain ⟨z0, z1⟩ := hSw; go_simp; (try with_reducible rfl))); (try simp only [Act.put, List.setIfInBounds_toArray, List.set_cons_zero, List.set_cons_succ]); refine AnyBut.take (i := 6) (v := ?_) rfl rfl (by decide) (by kernel_rfl) (by kernel_rfl) (by kernel_rfl) (by kernel_rfl) (fun _ _ _ h => h) (Or.inl ⟨by rfl, ?_⟩) hS0 ?_; rotate_left; (focus (intro W hSw; (try dsimp only at hSw); obtain ⟨z0, z1⟩ := hSw; go_simp; (try with_reducible rfl))); (try simp only [Act.put, List.setIfInBounds_toArray, List.set_cons_zero, List.set_cons_succ])
        have HSd := Lib.hid (HS1.out.below (below_drew w1)); have HUd := Lib.hid (HU1.out.below (below_drew w1)); have HGd := Lib.hid (HG1.out.below (below_drew w1)); have HOd := Lib.hid (HO1.out.below (below_drew w1))
        have HKd := Lib.hid (HK1.out.below (below_drew w1))
        have HZd : Hid (base ≤ w1.drew.heap.size) := HZ1.out
        have HSX : Hid (∀ w', Below w1.drew.heap.size w1.drew w' → w'.cell? ⟨s, 0, none⟩ = some (.int .i64 k) ∧ w'.cell? ⟨s, 5, none⟩ = some (.slice Au C.length cu)) := fun w' hb => ⟨(HSd.out.below hb).c6.1, (HSd.out.below hb).c6.2.2.2.2.2⟩
        clear hS0 c0 c1 c2 c3 c4 c5
        generalize w1.drew = w2 at *
        refine AnyBut.ready (rs := [5]) (by kernel_rfl) (by simp) ?_; refine AllBut.cons rfl (fun K hK => ?_) AllBut.nil
        go_simp
        refine hK.out _ _ (fun _ => HSX.out _ (below_alloc w2 _)) ?_
        clear hK K
        (try simp only [Act.put, List.setIfInBounds_toArray, List.set_cons_zero, List.set_cons_succ])
        refine AnyBut.ready (rs := [7]) (by kernel_rfl) (by simp) ?_; refine AllBut.cons rfl (fun K hK => ?_) AllBut.nil
        have HEa : Hid (OB (w2.alloc (.cells #[] 80)) w2.heap.size (.slice (some ⟨w2.heap.size, 0, none⟩) 0 0) []) := own_empty _ _ _
        refine step_append_blk _ (by rfl) _ _ (by rfl) w2.heap.size _ (by rfl) [] HEa.out A c L (by rfl) (OB.bl (HOd.out.below (below_alloc w2 _))) (by simp) (by omega) (by simp) ?_
        intro v3 w3 hO3 hg3 hat3
        rw [List.nil_append] at hO3
        have HB3 : Hid (Below w2.heap.size w2 w3) := (below_alloc w2 _).grown hg3 (by simp) (own_block HEa.out)
        obtain ⟨A3, c3, rfl⟩ := own_slice hO3
        have HO3 : Hid (OB w3 base (.slice A3 L.length c3) L) := OB.base hO3 HZd.out
        clear hO3 hg3 hat3
        refine hK.out _ _ (fun _ => HSX.out _ HB3.out) ?_
        clear hK K
        (try simp only [Act.put, List.setIfInBounds_toArray, List.set_cons_zero, List.set_cons_succ])
        refine AnyBut.ready (rs := [8]) (by kernel_rfl) (by simp) ?_; refine AllBut.cons rfl (fun K hK => ?_) AllBut.nil
        go_simp
        refine hK.out _ _ (fun _ => HSX.out _ (below_up HB3.out (below_alloc w3 _))) ?_
        clear hK K
        (try simp only [Act.put, List.setIfInBounds_toArray, List.set_cons_zero, List.set_cons_succ])
        refine AnyBut.ready (rs := [9]) (by kernel_rfl) (by simp) ?_; refine AllBut.cons rfl (fun K hK => ?_) AllBut.nil
        obtain ⟨vs, hvo, hpush⟩ := (HUd.out.below HB3.out).push
        have HVO := Lib.hid hvo; have HPUSH := Lib.hid hpush
        clear hvo hpush
        have hz3 := HB3.out.size
        have hz4 := HZd.out
        refine step_append_lies _ (by rfl) _ _ 62 (by rfl) base 28 li0 (.slice none 0 0) 1 24 Try.underlying62 hli hli0 hli1 hli2 rfl (by decide) _ _ _ (by rfl) (HVO.out.alloc _) ⟨w3.heap.size, 0, none⟩ 1 1 [.slice A3 L.length c3] (by rfl) rfl (cells_new _ _ _) (by simp [Value.oneCell']) (by omega) (by unfold maxLen; omega) (by omega) (by simp; omega) (w3.heap.size + 1) (by simp) ?_
        intro g7 cap7 w7 hO7 hg7 hat7 hlt7
        have HU7 := Lib.hid (HPUSH.out w3 w7 _ _ L (Below.refl _ _) HO3.out _ (below_alloc w3 _) hg7 hO7)
        have HGR7 : Hid (w2.grownBy w7 (Value.slice Au C.length cu).ownBlock) := grown_trans (grown_below (below_up HB3.out (below_alloc w3 _)) _) hg7
        have HAT7 : Hid ((Value.slice (some ⟨g7, 0, none⟩) (C.length + 1) cap7).ownBlock = (Value.slice Au C.length cu).ownBlock ∨ ∃ q, (Value.slice (some ⟨g7, 0, none⟩) (C.length + 1) cap7).ownBlock = some q ∧ w2.heap.size ≤ q) := by
          rcases hat7 with h | h
          · exact .inl h.symm
          · exact .inr ⟨g7, rfl, by omega⟩
        clear hO7 hg7 hat7
        obtain ⟨vs2, hvo2, _⟩ := HUd.out
        have HNS : Hid ((Value.slice Au C.length cu).ownBlock ≠ some s ∧ (Value.slice Au C.length cu).ownBlock ≠ some g) := ⟨own_typed hvo2 ⟨_, HSd.out⟩ (by decide), own_typed hvo2 ⟨_, HGd.out⟩ (by decide)⟩
        clear hvo2
        have HS7 := Lib.hid (HSd.out.grown HGR7.out HNS.out.1)
        refine hK.out _ _ (fun _ => ⟨HS7.out.c6.1, HS7.out.c6.2.2.2.2.2⟩) ?_
        clear hK K
        obtain ⟨c0, c1, c2, c3, c4, c5⟩ := HS7.out.c6
        have f5 := HS7.out.frozen 5
        have hsl := HS7.out.lt
        (try simp only [Act.put, List.setIfInBounds_toArray, List.set_cons_zero, List.set_cons_succ])
        refine AnyBut.ready (rs := [10]) (by kernel_rfl) (by simp) ?_; refine AllBut.cons rfl (fun K hK => ?_) AllBut.nil
        go_simp
        refine hK.out _ _ (fun _ => ⟨HS7.out.c6.1, HS7.out.c6.2.2.2.2.2⟩) ?_
        clear hK K
        (try simp only [Act.put, List.setIfInBounds_toArray, List.set_cons_zero, List.set_cons_succ])
        refine AnyBut.ready (rs := [11]) (by kernel_rfl) (by simp) ?_; refine AllBut.cons rfl (fun K hK => ?_) AllBut.nil
        go_simp
        refine hK.out _ _ (fun _ => ⟨HS7.out.c6.1, HS7.out.c6.2.2.2.2.2⟩) ?_
        clear hK K
        (try simp only [Act.put, List.setIfInBounds_toArray, List.set_cons_zero, List.set_cons_succ])
        refine AnyBut.ready (rs := [12]) (by kernel_rfl) (by simp) ?_; refine AllBut.cons rfl (fun K hK => ?_) AllBut.nil
        go_simp
        refine hK.out _ _ (fun h => absurd rfl h) ?_
        clear hK K
        (try simp only [Act.put, List.setIfInBounds_toArray, List.set_cons_zero, List.set_cons_succ])
        refine AnyBut.done (by kernel_rfl) ?_ _
        refine NoPanic.normal ?_
        have HU8 : Hid (LBq (w7.setCell ⟨s, 5, none⟩ (.slice (some ⟨g7, 0, none⟩) (C.length + 1) cap7)) base (.slice (some ⟨g7, 0, none⟩) (C.length + 1) cap7) (C ++ [L])) := HU7.out.kept (grown_set (grown_refl w7 (some s)) 5 _) ⟨_, HS7.out⟩ (by decide) (by decide)
        have HS8 : Hid (Sk (w7.setCell ⟨s, 5, none⟩ (.slice (some ⟨g7, 0, none⟩) (C.length + 1) cap7)) s k g (C.length + 1) most true (.slice (some ⟨g7, 0, none⟩) (C.length + 1) cap7)) := HS7.out.found _
        have HG8 : Hid (Vb (w7.setCell ⟨s, 5, none⟩ (.slice (some ⟨g7, 0, none⟩) (C.length + 1) cap7)) g 256 (fun i => m.testBit i)) := (HGd.out.grown HGR7.out HNS.out.2).far HNE.out _
        have HK8 : Hid (Gk w (w7.setCell ⟨s, 5, none⟩ (.slice (some ⟨g7, 0, none⟩) (C.length + 1) cap7)) s g (.slice Au C.length cu) (.slice (some ⟨g7, 0, none⟩) (C.length + 1) cap7)) := (HKd.out.grown HGR7.out (.inr (.inr (.inr rfl))) HAT7.out).grown (grown_set (grown_refl w7 (some s)) 5 _) (.inr (.inl rfl)) (.inl rfl)
        have hlen : (C ++ [L]).length = C.length + 1 := by simp
        go_wp2
        refine bodyPost_ret (results_none rfl _ _ _) rfl ?_
        exact ⟨_, rfl, by rw [hlen]; exact HS8.out, HG8.out, HU8.out, HK8.out⟩

theorem blkN_is (a b k : Nat) (w : World) (hab : a < b) (hbk : b < k) (hk : k < 15) :
    Calls Try.prog 95 #[.int .i64 (a : Int), .int .i64 (b : Int), .int .i64 (k : Int)] w fun e w' => e = .returned (.agg #[.int .i64 (a : Int), .int .i64 (b : Int), .int .i64 (k : Int)]) ∧ Below w.heap.size w w' := by
  have HE : Hid (∀ x y z : Int, x = a → y = b → z = k → Ending.returned (.agg #[.int .i64 x, .int .i64 y, .int .i64 z]) = Ending.returned (.agg #[.int .i64 (a : Int), .int .i64 (b : Int), .int .i64 (k : Int)])) := fun x y z h1 h2 h3 => by rw [h1, h2, h3]
  go_enter Try.func95, Try.ntmps95
  go_wp2
  all_goals go_returns
  all_goals (refine ⟨HE.out _ _ _ ?_ ?_ ?_, below_alloc _ _⟩ <;> omega)

/-- what holds on the way through the rounds -/
structure P8 (w W : World) (s n g base most b0 : Nat) (keep : Bool) (u : Value) (A : Option Addr) (c : Nat) (L : List Blk) (F : Nat → Bool) (C : List (List Blk)) (u' : Value) : Prop where
  sk : Sk W s n g C.length most keep u'
  vb : Vb W g 256 F
  lb : LBq W base u' (kpL keep C)
  ob : OB W b0 (.slice A L.length c) L
  gk : Gk w W s g u u'
theorem P8.below {w W W' : World} {s n g base most b0 c : Nat} {keep : Bool} {u u' : Value} {A : Option Addr} {L : List Blk} {F : Nat → Bool} {C : List (List Blk)} (h : P8 w W s n g base most b0 keep u A c L F C u') (hb : Below W.heap.size W W') : P8 w W' s n g base most b0 keep u A c L F C u' :=
  ⟨h.sk.below hb, h.vb.below hb, h.lb.below hb, h.ob.below hb, h.gk.below hb⟩
theorem P8.set {w W : World} {s n g base most b0 c : Nat} {keep : Bool} {u u' : Value} {A : Option Addr} {L : List Blk} {F : Nat → Bool} {C : List (List Blk)} (h : P8 w W s n g base most b0 keep u A c L F C u') (hne : s ≠ g) (r : Nat) (v : Bool) : P8 w (W.setCell ⟨g, r, none⟩ (.bool v)) s n g base most b0 keep u A c L (updA F r v) C u' := by
  have hg := grown_set (grown_refl W (some g)) r (.bool v)
  exact ⟨h.sk.far (Ne.symm hne) _, h.vb.set r v, h.lb.kept hg ⟨_, h.vb⟩ (by decide) (by decide), World.ownsRow.kept h.ob hg (.inr (own_typed h.ob ⟨_, h.vb⟩ (by decide))), h.gk.grown hg (.inr (.inr (.inl rfl))) (.inl rfl)⟩
theorem P8.ext {w W : World} {s n g base most b0 c : Nat} {keep : Bool} {u u' : Value} {A : Option Addr} {L : List Blk} {F G : Nat → Bool} {C : List (List Blk)} (h : P8 w W s n g base most b0 keep u A c L F C u') (e : ∀ i, i < 256 → F i = G i) : P8 w W s n g base most b0 keep u A c L G C u' := ⟨h.sk, h.vb.ext e, h.lb, h.ob, h.gk⟩
theorem used_before {n m a b k : Nat} (hn : n ≤ 15) (hlow : ∀ j, j < a * 16 + b → frK n m j = false) (hab : a < b) (hb : b < n) (hk : k < n) (hka : k ≠ a) (hkb : k < b) : m.testBit (prN a k) = true := by
  rcases Nat.lt_or_ge k a with h | h
  · have := hlow (k * 16 + a) (by omega)
    rw [← Bool.not_eq_true, fr_iff (by omega)] at this
    rw [prN_gt h]
    cases hh : m.testBit (k * 16 + a)
    · exact absurd ⟨h, by omega, hh⟩ this
    · rfl
  · have := hlow (a * 16 + k) (by omega)
    rw [← Bool.not_eq_true, fr_iff (by omega)] at this
    rw [prN_lt (by omega)]
    cases hh : m.testBit (a * 16 + k)
    · exact absurd ⟨by omega, by omega, hh⟩ this
    · rfl

theorem l08Go_any (n s g base most : Nat) (keep : Bool) (hn : n ≤ 15) (hmost : most ≤ 1000000000) (hbs : base ≤ s) (hbg : base ≤ g) : ∀ (d m : Nat) (L : List Blk) (C : List (List Blk)) (u un : Value) (b0 : Nat) (w : World), cntC n m = 3 * d → L.length + d ≤ 1000 → C.length < most →
    Sk w s n g C.length most keep u → Vb w g 256 (fun i => m.testBit i) → LBq w base u (kpL keep C) → OB w b0 un L → base ≤ w.heap.size →
    Calls Try.prog 70 #[.pointer (some ⟨s, 0, none⟩), un] w fun e w' => ∃ u', e = .returned (.tuple #[]) ∧ Sk w' s n g (takeG C most (enumC n d m L)).length most keep u' ∧ Vb w' g 256 (fun i => m.testBit i) ∧ LBq w' base u' (kpL keep (takeG C most (enumC n d m L))) ∧ Gk w w' s g u u' := by
  intro d
  induction d with
  | zero =>
    intro m L C u un b0 w hc hL hC hS hG hu hO hb
    have := go8_zero n s g base most keep hn hmost hbs hbg m L C u un b0 w (by omega) (by omega) hC hS hG hu hO hb
    rw [enumC, takeG_one hC]
    exact this
  | succ d ih =>
    intro m L C u un b0 w hc hL hC hS hG hu hO hb
    have HIH := Lib.hid ih; clear ih
    have hlt : nxt n m < 256 := by
      have := nxt_le n m
      by_cases e : nxt n m = 256
      · have := cntC_zero.2 e; omega
      · omega
    obtain ⟨a, b, hnx, hab, hbn, hbit⟩ := nxt_ab hn hlt
    have HLOW : Hid (∀ j, j < a * 16 + b → frK n m j = false) := fun j hj => nxt_min (by omega)
    have HEN : Hid (enumC n (d + 1) m L = loopG (fun p => enumC n d (m ||| prM a b p) (L ++ [blkN a b p])) (fun p => fitQ3 m a b p) (b + 1) n) := enumC_succ d L (by omega) hnx
    have HST : Hid (∀ i, loopG (fun p => enumC n d (m ||| prM a b p) (L ++ [blkN a b p])) (fun p => fitQ3 m a b p) (b + 1) (i + 1) = loopG (fun p => enumC n d (m ||| prM a b p) (L ++ [blkN a b p])) (fun p => fitQ3 m a b p) (b + 1) i ++ (if b + 1 ≤ i ∧ fitQ3 m a b i = true then enumC n d (m ||| prM a b i) (L ++ [blkN a b i]) else [])) := fun i => rfl
    have HSTOP : Hid (∀ k, most ≤ (takeG C most (loopG (fun p => enumC n d (m ||| prM a b p) (L ++ [blkN a b p])) (fun p => fitQ3 m a b p) (b + 1) k)).length → k ≤ n → takeG C most (loopG (fun p => enumC n d (m ||| prM a b p) (L ++ [blkN a b p])) (fun p => fitQ3 m a b p) (b + 1) n) = takeG C most (loopG (fun p => enumC n d (m ||| prM a b p) (L ++ [blkN a b p])) (fun p => fitQ3 m a b p) (b + 1) k)) := fun k h hk => takeG_stop rfl h n hk
    have HZ : Hid (loopG (fun p => enumC n d (m ||| prM a b p) (L ++ [blkN a b p])) (fun p => fitQ3 m a b p) (b + 1) 0 = []) := rfl
    have HCNT : Hid (∀ p, b + 1 ≤ p → p < n → fitQ3 m a b p = true → cntC n (m ||| prM a b p) = 3 * d) := fun p h1 h2 h3 => by have := cntC_put hn hab h1 h2 h3; omega
    have HNE : Hid (s ≠ g) := fun e => by
      have h1 : Row w s _ _ := hS
      have h2 : Row w g _ _ := hG
      rw [← e] at h2
      unfold Row at h1 h2
      rw [h1] at h2
      simp at h2
    obtain ⟨A, c, rfl⟩ := own_slice hO
    have HP0 : Hid (P8 w w s n g base most b0 keep u A c L (fun i => m.testBit i) C u) := ⟨hS, hG, hu, hO, Gk.refl _ _ _ _⟩
    have HLT := Lib.hid hlt; have HNX := Lib.hid hnx; have HBIT := Lib.hid hbit
    clear hS hG hu hO hc hlt hnx hbit
    generalize loopG (fun p => enumC n d (m ||| prM a b p) (L ++ [blkN a b p])) (fun p => fitQ3 m a b p) (b + 1) = SQ at *
    go_enter Try.func70, Try.ntmps70
    go_wp2
    go_loopw [4, 5, 6] (fun x y p wr => ∃ k : Nat, k ≤ n ∧ p = .int .i64 k ∧ (x = .int .i64 (-1) ∧ Hid (∀ j, j < k * 16 → frK n m j = false) ∨ x = .int .i64 a ∧ y = .int .i64 b ∧ k = a + 1) ∧ Hid (Below w.heap.size w wr)) (fun _ _ p _ => n - (intOf p).toNat)
    case atStart => exact ⟨0, by omega, rfl, .inl ⟨rfl, fun j hj => by omega⟩, Below.refl _ _⟩
    case round =>
      obtain ⟨k, hk, rfl, hxy, HB⟩ := hrel
      obtain ⟨c0, c1, c2, c3, c4, c5⟩ := (HP0.out.below HB.out).sk.c6
      have hsl := (HP0.out.below HB.out).sk.lt
      rcases hxy with ⟨rfl, HK⟩ | ⟨rfl, rfl, hka1⟩
      · have hkn : k < n := by
          by_cases e : k = n
          · subst e; have := fr_end hn HK.out; have := HLT.out; omega
          · omega
        go_wp2
        clear c0 c1 c2 c3 c4 c5 hsl
        obtain ⟨wo, rfl⟩ : ∃ wo : World, wo = wr := ⟨_, rfl⟩
        go_loopw [4, 5, 7] (fun x y q wr => ∃ j : Nat, k + 1 ≤ j ∧ j ≤ n ∧ x = .int .i64 (-1) ∧ q = .int .i64 j ∧ Hid (Below w.heap.size w wr ∧ ∀ i, i < k * 16 + j → frK n m i = false)) (fun _ _ q _ => n - (intOf q).toNat)
        case atStart => exact ⟨k + 1, by omega, by omega, rfl, by go_num, HB.out, fr_row HK.out⟩
        case round =>
          obtain ⟨j, hj1, hj2, rfl, rfl, HD⟩ := hrel
          have hPw := HP0.out.below HD.out.1
          obtain ⟨c0, c1, c2, c3, c4, c5⟩ := hPw.sk.c6
          have hsl := hPw.sk.lt
          by_cases hjn : j < n
          · obtain ⟨r, hr⟩ : ∃ r, r = k * 16 + j := ⟨_, rfl⟩
            have HR : Hid (prN k j = r) := by rw [hr]; exact prN_lt (by omega)
            have hr256 : r < 256 := by omega
            have i1 : (r : Int) < 256 := by omega
            have q0 := hPw.vb.cell (i := r) hr256
            have hgl := hPw.vb.lt
            have HRE := Lib.hid hr
            clear hr hPw
            cases hbt : m.testBit r
            · rw [hbt] at q0
              go_wp2
              go_quiet ((go_at_call 94; exact quiet_same (pair_qu HR.out _ (by omega) (by omega))))
              go_wp2
              go_roundw
              case rel =>
                have hf : frK n m (k * 16 + j) = true := (fr_iff (by omega)).2 ⟨by omega, by omega, by rw [← HRE.out]; exact hbt⟩
                have hnx2 : nxt n m = k * 16 + j := nxt_is (by omega) hf HD.out.2
                have hnx1 := HNX.out
                have ea : k = a := by omega
                have eb : j = b := by omega
                exact ⟨k + 1, by omega, by go_num, .inr ⟨by rw [ea], by rw [eb], by omega⟩, below_drewN HD.out.1 _⟩
              case measure => simp [intOf]; omega
            · rw [hbt] at q0
              go_wp2
              go_quiet ((go_at_call 94; exact quiet_same (pair_qu HR.out _ (by omega) (by omega))))
              go_wp2
              go_roundw
              case rel =>
                refine ⟨j + 1, by omega, by omega, rfl, by go_num, below_drewN HD.out.1 _, fun i hi => ?_⟩
                by_cases e : i < k * 16 + j
                · exact HD.out.2 i e
                · obtain rfl : i = k * 16 + j := by omega
                  rw [← Bool.not_eq_true, fr_iff (by omega)]
                  intro h
                  have := h.2.2
                  rw [← HRE.out, hbt] at this; cases this
              case measure => simp [intOf]; omega
          · obtain rfl : j = n := by omega
            clear hPw
            go_wp2
            go_roundw
            case rel => exact ⟨k + 1, by omega, by go_num, .inl ⟨rfl, fr_next hn HD.out.2⟩, HD.out.1⟩
            case measure => simp [intOf]; omega
      · have hneg : decide ((a : Int) < 0) = false := by simp
        have hkn : k < n := by omega
        have HP1 := Lib.hid (HP0.out.below HB.out)
        go_wp2
        clear c0 c1 c2 c3 c4 c5 hsl hneg
        clear hkn hka1 hk
        obtain ⟨wo, rfl⟩ : ∃ wo : World, wo = wr := ⟨_, rfl⟩
        go_loopw [8] (fun q wr => ∃ (k : Nat) (u2 : Value), k ≤ n ∧ q = .int .i64 k ∧ Hid (P8 w wr s n g base most b0 keep u A c L (fun i => m.testBit i) (takeG C most (SQ k)) u2)) (fun q _ => n - (intOf q).toNat)
        case atStart => exact ⟨0, u, by omega, rfl, by rw [HZ.out, takeG_nil]; exact HP1.out⟩
        case round =>
          obtain ⟨k, u2, hk, rfl, HQ⟩ := hrel
          have hlen := takeG_len (Nat.le_of_lt hC) (SQ k)
          obtain ⟨c0, c1, c2, c3, c4, c5⟩ := HQ.out.sk.c6
          have hsl := HQ.out.sk.lt
          by_cases hkn : k < n
          · by_cases hfm : (takeG C most (SQ k)).length < most
            · obtain ⟨NT, hNT⟩ : ∃ NT, (takeG C most (SQ k)).length = NT := ⟨_, rfl⟩
              rw [hNT] at c2 hlen hfm
              have HNT := Lib.hid hNT; clear hNT
              go_wp2
              go_quiet (fail)
              replace HQ := Lib.hid (HQ.out.below (below_drewN (Below.refl _ wr) nq))
              clear c0 c1 c2 c3 c4 c5 hsl
              generalize wr.drewN nq = wq at *
              obtain ⟨c0, c1, c2, c3, c4, c5⟩ := HQ.out.sk.c6
              have hsl := HQ.out.sk.lt
              rw [HNT.out] at c2
              obtain ⟨r1, hr1⟩ : ∃ r, r = prN a k := ⟨_, rfl⟩
              obtain ⟨r2, hr2⟩ : ∃ r, r = prN b k := ⟨_, rfl⟩
              have Hr1 : Hid (prN a k = r1) := hr1.symm
              have Hr2 : Hid (prN b k = r2) := hr2.symm
              have hr1lt : r1 < 256 := by rw [hr1]; unfold prN; omega
              have hr2lt : r2 < 256 := by rw [hr2]; unfold prN; omega
              have i1 : (r1 : Int) < 256 := by omega
              have i2 : (r2 : Int) < 256 := by omega
              have q1 := HQ.out.vb.cell (i := r1) hr1lt
              have q2 := HQ.out.vb.cell (i := r2) hr2lt
              have hgl := HQ.out.vb.lt
              clear hr1 hr2
              have HSTk := Lib.hid (HST.out k)
              by_cases hka : k = a
              · have HSK : Hid (SQ (k + 1) = SQ k) := by unfold Hid; rw [HSTk.out, if_neg (by omega), List.append_nil]
                have hka' : ((k : Int) == (a : Int)) = true := by simp [hka]
                have HKA := Lib.hid hka; clear hka
                go_wp2
                go_quiet (fail)
                go_wp2
                go_roundw
                case rel => exact ⟨k + 1, u2, by omega, by go_num, by rw [HSK.out]; exact HQ.out.below (below_drewN (Below.refl _ _) _)⟩
                case measure => simp [intOf]; omega
              · have hka' : ((k : Int) == (a : Int)) = false := by rw [beq_eq_false_iff_ne]; omega
                by_cases hkb : k = b
                · have HSK : Hid (SQ (k + 1) = SQ k) := by unfold Hid; rw [HSTk.out, if_neg (by omega), List.append_nil]
                  have hkb' : ((k : Int) == (b : Int)) = true := by simp [hkb]
                  have HKA := Lib.hid (And.intro hka hkb); clear hka hkb
                  go_wp2
                  go_quiet (fail)
                  go_wp2
                  go_roundw
                  case rel => exact ⟨k + 1, u2, by omega, by go_num, by rw [HSK.out]; exact HQ.out.below (below_drewN (Below.refl _ _) _)⟩
                  case measure => simp [intOf]; omega
                · have hkb' : ((k : Int) == (b : Int)) = false := by rw [beq_eq_false_iff_ne]; omega
                  cases hb1 : m.testBit r1
                  · cases hb2 : m.testBit r2
                    · rw [hb1] at q1
                      rw [hb2] at q2
                      have hkb2 : b < k := by
                        rcases Nat.lt_or_ge k b with h | h
                        · have := used_before hn HLOW.out hab hbn hkn hka h
                          rw [Hr1.out, hb1] at this; cases this
                        · omega
                      have hra : r1 = a * 16 + k := by rw [← Hr1.out]; exact prN_lt (by omega)
                      have hrb : r2 = b * 16 + k := by rw [← Hr2.out]; exact prN_lt (by omega)
                      have HFIT : Hid (fitQ3 m a b k = true) := fitQ3_iff.2 ⟨HBIT.out, by rw [← hra]; exact hb1, by rw [← hrb]; exact hb2⟩
                      obtain ⟨r0, hr0⟩ : ∃ r, r = a * 16 + b := ⟨_, rfl⟩
                      have Hr0 : Hid (prN a b = r0) := by rw [hr0]; exact prN_lt hab
                      have hr0lt : r0 < 256 := by omega
                      have i0 : (r0 : Int) < 256 := by omega
                      have HRS := Lib.hid (And.intro hr0 (And.intro hra hrb))
                      have HBB := Lib.hid (And.intro hb1 hb2)
                      have HKA := Lib.hid (And.intro hka hkb)
                      clear hr0 hra hrb hb1 hb2 hka hkb
                      go_wp2
                      go_quiet ((go_at_call 94; first | (with_reducible exact quiet_same (pair_qu Hr1.out _ (by omega) (by omega))) | (with_reducible exact quiet_same (pair_qu Hr2.out _ (by omega) (by omega)))))
                      replace HQ := Lib.hid (HQ.out.below (below_drewN (Below.refl _ wq) nq))
                      clear c0 c1 c2 c3 c4 c5 hsl hgl q1 q2 hka' hkb'
                      generalize wq.drewN nq = w0 at *
                      obtain ⟨c0, c1, c2, c3, c4, c5⟩ := HQ.out.sk.c6
                      have hsl := HQ.out.sk.lt
                      have hgl := HQ.out.vb.lt
                      obtain ⟨tq, q0⟩ : ∃ t, w0.cell? ⟨g, r0, none⟩ = some t := ⟨_, HQ.out.vb.cell (i := r0) (by omega)⟩
                      have f0 := HQ.out.vb.frozen r0
                      go_wp2
                      go_still_tail 7, (by kernel_rfl)
                      still_call (pair_is Hr0.out _ (by omega) (by omega))
                      (repeat still_step)
                      refine wpStill_nil ?_
                      change wpList _ _ _ _ _ w0.drew
                      have HQ1 := Lib.hid ((HQ.out.below (below_drew w0)).set HNE.out r0 true)
                      have q1 : w0.drew.cell? ⟨g, r0, none⟩ = some tq := q0
                      have f1 : w0.drew.frozen? ⟨g, r0, none⟩ = false := f0
                      have hgl1 : g < w0.drew.heap.size := hgl
                      clear c0 c1 c2 c3 c4 c5 hsl hgl q0 f0
                      generalize hwd : w0.drew = wd at *
                      clear hwd
                      go_wp2
                      clear q1 f1 hgl1
                      generalize wd.setCell ⟨g, r0, none⟩ (.bool true) = w1 at *
                      obtain ⟨c0, c1, c2, c3, c4, c5⟩ := HQ1.out.sk.c6
                      have hsl := HQ1.out.sk.lt
                      have hgl := HQ1.out.vb.lt
                      obtain ⟨tq, q0⟩ : ∃ t, w1.cell? ⟨g, r1, none⟩ = some t := ⟨_, HQ1.out.vb.cell (i := r1) (by omega)⟩
                      have f0 := HQ1.out.vb.frozen r1
                      go_wp2
                      go_still_tail 7, (by kernel_rfl)
                      still_call (pair_is Hr1.out _ (by omega) (by omega))
                      (repeat still_step)
                      refine wpStill_nil ?_
                      change wpList _ _ _ _ _ w1.drew
                      have HQ2 := Lib.hid ((HQ1.out.below (below_drew w1)).set HNE.out r1 true)
                      have q1 : w1.drew.cell? ⟨g, r1, none⟩ = some tq := q0
                      have f1 : w1.drew.frozen? ⟨g, r1, none⟩ = false := f0
                      have hgl1 : g < w1.drew.heap.size := hgl
                      clear c0 c1 c2 c3 c4 c5 hsl hgl q0 f0
                      generalize hwd : w1.drew = wd at *
                      clear hwd
                      go_wp2
                      clear q1 f1 hgl1
                      generalize wd.setCell ⟨g, r1, none⟩ (.bool true) = w2 at *
                      obtain ⟨c0, c1, c2, c3, c4, c5⟩ := HQ2.out.sk.c6
                      have hsl := HQ2.out.sk.lt
                      have hgl := HQ2.out.vb.lt
                      obtain ⟨tq, q0⟩ : ∃ t, w2.cell? ⟨g, r2, none⟩ = some t := ⟨_, HQ2.out.vb.cell (i := r2) (by omega)⟩
                      have f0 := HQ2.out.vb.frozen r2
                      go_wp2
                      go_still_tail 7, (by kernel_rfl)
                      still_call (pair_is Hr2.out _ (by omega) (by omega))
                      (repeat still_step)
                      refine wpStill_nil ?_
                      change wpList _ _ _ _ _ w2.drew
                      have HQ3 := Lib.hid ((HQ2.out.below (below_drew w2)).set HNE.out r2 true)
                      have q1 : w2.drew.cell? ⟨g, r2, none⟩ = some tq := q0
                      have f1 : w2.drew.frozen? ⟨g, r2, none⟩ = false := f0
                      have hgl1 : g < w2.drew.heap.size := hgl
                      clear c0 c1 c2 c3 c4 c5 hsl hgl q0 f0
                      generalize hwd : w2.drew = wd at *
                      clear hwd
                      generalize hw3 : wd.setCell ⟨g, r2, none⟩ (.bool true) = w3 at *
                      have HQ4 : Hid (P8 w w3 s n g base most b0 keep u A c L (fun i => (m ||| prM a b k).testBit i) (takeG C most (SQ k)) u2) := HQ3.out.ext fun i hi => by
                        obtain ⟨e0, e1, e2⟩ := HRS.out
                        rw [Nat.testBit_or, prM_bit, ← e0, ← e1, ← e2]
                        unfold updA
                        by_cases g2 : i = r2
                        · simp [g2]
                        · by_cases g1 : i = r1
                          · simp [g1]
                          · by_cases g0 : i = r0
                            · simp [g0]
                            · simp [g0, g1, g2]
                      have HBASE : Hid (base ≤ w3.heap.size) := by have := HQ4.out.gk.size; unfold Hid; omega
                      clear HQ HQ1 HQ2 HQ3
                      have HEa : Hid (OB (w3.alloc (.cells #[] 80)) w3.heap.size (.slice (some ⟨w3.heap.size, 0, none⟩) 0 0) []) := own_empty _ _ _
                      obtain ⟨bi0, hbi, hbi0, hbi1, hbi2⟩ := info_parts infoBlk'
                      have hL1 : L.length ≤ 1000 := by omega
                      go_wp2_with (at_builtin; refine wpList_append_blk _ rfl _ _ rfl w3.heap.size _ rfl [] HEa.out A c L rfl (OB.bl (HQ4.out.ob.below (below_alloc w3 _))) (by simp) (by omega) (by simp) ?_; intro v5 w5 hO5 hg5 hat5; obtain ⟨A5, c5, rfl⟩ := own_slice hO5)
                      rw [List.nil_append] at hO5
                      have HO5 := Lib.hid hO5
                      have HB5 : Hid (Below w3.heap.size w3 w5) := (below_alloc w3 _).grown hg5 (by simp) (own_block HEa.out)
                      clear hO5 hg5 hat5 q1 f1 hgl1 hw3
                      refine (blkN_is a b k w5 hab hkb2 (by omega)).mono ?_
                      rintro e w6 ⟨rfl, hb6⟩
                      have HB6 := Lib.hid (below_up HB5.out hb6)
                      have HO6 : Hid (w6.ownsRow w3.heap.size 80 3 (.slice A5 L.length c5) L.length (cells3' L)) := own_below HO5.out hb6
                      clear hb6 HO5 HB5
                      have hz6 := HB6.out.size
                      go_wp2_with (at_builtin; refine wpList_append_lies _ rfl _ _ 28 rfl w3.heap.size 80 bi0 (.agg #[.int .i64 0, .int .i64 0, .int .i64 0]) 3 24 Try.underlying28 hbi hbi0 hbi1 hbi2 rfl (by decide) _ _ _ rfl (HO6.out.alloc _) ⟨w6.heap.size, 0, none⟩ 1 1 [.int .i64 (a : Int), .int .i64 (b : Int), .int .i64 (k : Int)] rfl rfl (cells_new _ _ _) (by simp [Value.oneCell']) (by omega) (by unfold maxLen; omega) (by omega) (by simp; omega) (w6.heap.size + 1) (by simp) ?_; intro g8 cap8 w8 hO8 hg8 hat8 hlt8)
                      have HO8 : Hid (OB w8 w3.heap.size (.slice (some ⟨g8, 0, none⟩) (L.length + 1) cap8) (L ++ [blkN a b k])) := OB.snoc (b := blkN a b k) hO8
                      have HB8 : Hid (Below w3.heap.size w3 w8) := (HB6.out.alloc HB6.out.size _).grown hg8 (by simp; omega) (own_block HO6.out)
                      have HQ8 := Lib.hid (HQ4.out.below HB8.out)
                      clear hO8 hg8 hat8 hlt8 HO6 HB6 hz6 hbi hbi0 hbi1 hbi2 HEa HQ4
                      have HCALL := Lib.hid (HIH.out (m ||| prM a b k) (L ++ [blkN a b k]) (takeG C most (SQ k)) u2 (.slice (some ⟨g8, 0, none⟩) (L.length + 1) cap8) w3.heap.size w8 (HCNT.out k (by omega) hkn HFIT.out) (by simp; omega) (by rw [HNT.out]; exact hfm) HQ8.out.sk HQ8.out.vb HQ8.out.lb HO8.out (Nat.le_trans HBASE.out HB8.out.size))
                      refine HCALL.out.mono ?_
                      rintro e w9 ⟨u3, rfl, hsk, hvb, hlb, hgk⟩
                      have HT : Hid (takeG C most (SQ (k + 1)) = takeG (takeG C most (SQ k)) most (enumC n d (m ||| prM a b k) (L ++ [blkN a b k]))) := by
                        unfold Hid; rw [HSTk.out, if_pos ⟨hkb2, HFIT.out⟩, takeG_app]
                      have HQ9 : Hid (P8 w w9 s n g base most b0 keep u A c L (fun i => (m ||| prM a b k).testBit i) (takeG C most (SQ (k + 1))) u3) := by
                        unfold Hid
                        rw [HT.out]
                        exact ⟨hsk, hvb, hlb, hgk.ob HQ8.out.ob HQ8.out.sk HQ8.out.vb HQ8.out.lb, HQ8.out.gk.join hgk⟩
                      clear hsk hvb hlb hgk HQ8 HCALL HO8 HB8 hlen hfm HNT
                      obtain ⟨c0, c1, c2, c3, c4, c5⟩ := HQ9.out.sk.c6
                      have hsl := HQ9.out.sk.lt
                      have hgl := HQ9.out.vb.lt
                      obtain ⟨tq, q0⟩ : ∃ t, w9.cell? ⟨g, r0, none⟩ = some t := ⟨_, HQ9.out.vb.cell (i := r0) (by omega)⟩
                      have f0 := HQ9.out.vb.frozen r0
                      go_wp2
                      go_still_tail 7, (by kernel_rfl)
                      still_call (pair_is Hr0.out _ (by omega) (by omega))
                      (repeat still_step)
                      refine wpStill_nil ?_
                      change wpList _ _ _ _ _ w9.drew
                      have HQa := Lib.hid ((HQ9.out.below (below_drew w9)).set HNE.out r0 false)
                      have q1 : w9.drew.cell? ⟨g, r0, none⟩ = some tq := q0
                      have f1 : w9.drew.frozen? ⟨g, r0, none⟩ = false := f0
                      have hgl1 : g < w9.drew.heap.size := hgl
                      clear c0 c1 c2 c3 c4 c5 hsl hgl q0 f0
                      generalize hwd : w9.drew = wd at *
                      clear hwd
                      go_wp2
                      clear q1 f1 hgl1
                      generalize wd.setCell ⟨g, r0, none⟩ (.bool false) = wa at *
                      obtain ⟨c0, c1, c2, c3, c4, c5⟩ := HQa.out.sk.c6
                      have hsl := HQa.out.sk.lt
                      have hgl := HQa.out.vb.lt
                      obtain ⟨tq, q0⟩ : ∃ t, wa.cell? ⟨g, r1, none⟩ = some t := ⟨_, HQa.out.vb.cell (i := r1) (by omega)⟩
                      have f0 := HQa.out.vb.frozen r1
                      go_wp2
                      go_still_tail 7, (by kernel_rfl)
                      still_call (pair_is Hr1.out _ (by omega) (by omega))
                      (repeat still_step)
                      refine wpStill_nil ?_
                      change wpList _ _ _ _ _ wa.drew
                      have HQb := Lib.hid ((HQa.out.below (below_drew wa)).set HNE.out r1 false)
                      have q1 : wa.drew.cell? ⟨g, r1, none⟩ = some tq := q0
                      have f1 : wa.drew.frozen? ⟨g, r1, none⟩ = false := f0
                      have hgl1 : g < wa.drew.heap.size := hgl
                      clear c0 c1 c2 c3 c4 c5 hsl hgl q0 f0
                      generalize hwd : wa.drew = wd at *
                      clear hwd
                      go_wp2
                      clear q1 f1 hgl1
                      generalize wd.setCell ⟨g, r1, none⟩ (.bool false) = wb at *
                      obtain ⟨c0, c1, c2, c3, c4, c5⟩ := HQb.out.sk.c6
                      have hsl := HQb.out.sk.lt
                      have hgl := HQb.out.vb.lt
                      obtain ⟨tq, q0⟩ : ∃ t, wb.cell? ⟨g, r2, none⟩ = some t := ⟨_, HQb.out.vb.cell (i := r2) (by omega)⟩
                      have f0 := HQb.out.vb.frozen r2
                      go_wp2
                      go_still_tail 7, (by kernel_rfl)
                      still_call (pair_is Hr2.out _ (by omega) (by omega))
                      (repeat still_step)
                      refine wpStill_nil ?_
                      change wpList _ _ _ _ _ wb.drew
                      have HQc := Lib.hid ((HQb.out.below (below_drew wb)).set HNE.out r2 false)
                      have q1 : wb.drew.cell? ⟨g, r2, none⟩ = some tq := q0
                      have f1 : wb.drew.frozen? ⟨g, r2, none⟩ = false := f0
                      have hgl1 : g < wb.drew.heap.size := hgl
                      clear c0 c1 c2 c3 c4 c5 hsl hgl q0 f0
                      generalize hwd : wb.drew = wd at *
                      clear hwd
                      go_wp2
                      clear q1 f1 hgl1
                      generalize wd.setCell ⟨g, r2, none⟩ (.bool false) = wc at *
                      have HQd : Hid (P8 w wc s n g base most b0 keep u A c L (fun i => m.testBit i) (takeG C most (SQ (k + 1))) u3) := HQc.out.ext fun i hi => by
                        obtain ⟨e0, e1, e2⟩ := HRS.out
                        unfold updA
                        by_cases g2 : i = r2
                        · rw [if_pos g2, g2, HBB.out.2]
                        · by_cases g1 : i = r1
                          · rw [if_neg g2, if_pos g1, g1, HBB.out.1]
                          · by_cases g0 : i = r0
                            · rw [if_neg g2, if_neg g1, if_pos g0, g0, e0, HBIT.out]
                            · rw [if_neg g2, if_neg g1, if_neg g0]
                              show (m ||| prM a b k).testBit i = m.testBit i
                              rw [Nat.testBit_or, prM_bit, ← e0, ← e1, ← e2]
                              simp [g0, g1, g2]
                      go_roundw
                      case rel => exact ⟨k + 1, u3, by omega, by go_num, HQd.out⟩
                      case measure => simp [intOf]; omega
                    · rw [hb1] at q1
                      rw [hb2] at q2
                      have HSK : Hid (SQ (k + 1) = SQ k) := by
                        unfold Hid; rw [HSTk.out, if_neg, List.append_nil]
                        rintro ⟨h1, h2⟩
                        have := (fitQ3_iff.1 h2).2.2
                        rw [← prN_lt (by omega : b < k), Hr2.out, hb2] at this; cases this
                      have HKA := Lib.hid (And.intro hka hkb); clear hka hkb
                      go_wp2
                      go_quiet ((go_at_call 94; first | (with_reducible exact quiet_same (pair_qu Hr1.out _ (by omega) (by omega))) | (with_reducible exact quiet_same (pair_qu Hr2.out _ (by omega) (by omega)))))
                      go_wp2
                      go_roundw
                      case rel => exact ⟨k + 1, u2, by omega, by go_num, by rw [HSK.out]; exact HQ.out.below (below_drewN (Below.refl _ _) _)⟩
                      case measure => simp [intOf]; omega
                  · rw [hb1] at q1
                    have HSK : Hid (SQ (k + 1) = SQ k) := by
                      unfold Hid; rw [HSTk.out, if_neg, List.append_nil]
                      rintro ⟨h1, h2⟩
                      have := (fitQ3_iff.1 h2).2.1
                      rw [← prN_lt (by omega : a < k), Hr1.out, hb1] at this; cases this
                    have HKA := Lib.hid (And.intro hka hkb); clear hka hkb
                    go_wp2
                    go_quiet ((go_at_call 94; first | (with_reducible exact quiet_same (pair_qu Hr1.out _ (by omega) (by omega))) | (with_reducible exact quiet_same (pair_qu Hr2.out _ (by omega) (by omega)))))
                    go_wp2
                    go_roundw
                    case rel => exact ⟨k + 1, u2, by omega, by go_num, by rw [HSK.out]; exact HQ.out.below (below_drewN (Below.refl _ _) _)⟩
                    case measure => simp [intOf]; omega
            · have hge : most ≤ (takeG C most (SQ k)).length := by omega
              have HEND := Lib.hid (HSTOP.out k hge hk)
              obtain ⟨NT, hNT⟩ : ∃ NT, (takeG C most (SQ k)).length = NT := ⟨_, rfl⟩
              rw [hNT] at c2 hlen hfm hge
              have HNT := Lib.hid hNT; clear hNT
              have hd1 : decide ((NT : Int) < (most : Int)) = false := by simp; omega
              go_wp2
              go_quiet (fail)
              go_wp2
              go_end0
              have hP := HQ.out.below (below_drewN (Below.refl _ wr) nq)
              exact ⟨u2, rfl, by rw [HEN.out, HEND.out]; exact hP.sk, hP.vb, by rw [HEN.out, HEND.out]; exact hP.lb, hP.gk⟩
          · obtain rfl : k = n := by omega
            go_wp2
            go_quiet (fail)
            go_wp2
            go_end0
            have hP := HQ.out.below (below_drewN (Below.refl _ wr) nq)
            exact ⟨u2, rfl, by rw [HEN.out]; exact hP.sk, hP.vb, by rw [HEN.out]; exact hP.lb, hP.gk⟩

end Go.Proofs.Ytabgmjakkgalgaa

/- Contracts of the reference's runs of its search for completions; conditions: stated in each. -/
namespace Go.Proofs.Ytabgmjakkgalgaa
open Go.RowKit
set_option maxHeartbeats 2000000
set_option maxRecDepth 100000
set_option linter.unusedSimpArgs false
set_option linter.unusedVariables false

theorem l08Run_any (n : Nat) (A : Option Addr) (c : Nat) (xs : List Blk) (most : Nat) (keep : Bool) (w : World) (hA : Bl w A xs) (hs : isSys n xs) (ht : n = 3 ∨ n = 7 ∨ n = 9 ∨ n = 13 ∨ n = 15) (hm0 : 0 < most) (hm1 : most ≤ 1000000000) :
    Calls Try.prog 39 #[.agg #[.int .i64 n, .slice A xs.length c], .int .i64 most, .bool keep] w fun e w' => ∃ s u g, e = .returned (.pointer (some ⟨s, 0, none⟩)) ∧ Sk w' s n g (takeG [] most (addC n xs)).length most keep u ∧ LBq w' w.heap.size u (kpL keep (takeG [] most (addC n xs))) ∧ Below w.heap.size w w' := by
  have hv := hs.1
  have hmc := mis_cnt hs ht
  have hm35 : misN n xs ≤ 40 := by
    have := hmc.2
    have h2 : n * (n - 1) ≤ 15 * 15 := Nat.mul_le_mul (by omega) (by omega)
    omega
  have HMC := Lib.hid hmc.1
  have HS := Lib.hid hs
  have HW := Lib.hid (below_alloc w (.cells #[.int .i64 n, .slice A xs.length c] 30))
  have HA := Lib.hid (hA.below HW.out)
  have HR := Lib.hid (Row.box w 30 (.int .i64 n) (.slice A xs.length c))
  have HADD : Hid (addC n xs = enumC n (misN n xs) (mskN xs xs.length) []) := rfl
  rw [HADD.out]
  clear hA hmc hs
  go_enter Try.func39, Try.ntmps39
  obtain ⟨c0, c1⟩ := HR.out.c2
  go_wp2
  generalize hWo : w.alloc _ = w5 at *
  clear hWo
  refine wp_region_noPanic ?_
  refine AnyBut.begin (N := 10) (S := (fun w' => w'.cell? ⟨w.heap.size, 0, none⟩ = some (.int .i64 n) ∧ w'.cell? ⟨w.heap.size, 1, none⟩ = some (.slice A xs.length c))) (by kernel_rfl) ?_
  have hS0 : (fun w' : World => w'.cell? ⟨w.heap.size, 0, none⟩ = some (.int .i64 n) ∧ w'.cell? ⟨w.heap.size, 1, none⟩ = some (.slice A xs.length c)) w5.drew := ⟨c0, c1⟩
  refine AnyBut.take (i := 0) (v := ?_) rfl rfl (by decide) (by kernel_rfl) (by kernel_rfl) (by kernel_rfl) (by kernel_rfl) (fun _ _ _ h => h) (Or.inl ⟨by rfl, ?_⟩) hS0 ?_; rotate_left; (focus (intro W hSw; (try dsimp only at hSw); obtain ⟨z0, z1⟩ := hSw; go_simp; (try with_reducible rfl))); (try simp only [Act.put, List.setIfInBounds_toArray, List.set_cons_zero, List.set_cons_succ]); refine AnyBut.take (i := 1) (v := ?_) rfl rfl (by decide) (by kernel_rfl) (by kernel_rfl) (by kernel_rfl) (by kernel_rfl) (fun _ _ _ h => h) (Or.inl ⟨by rfl, ?_⟩) hS0 ?_; rotate_left; (focus (intro W hSw; (try dsimp only at hSw); obtain ⟨z0, z1⟩ := hSw; go_simp; (try with_reducible rfl))); (try simp only [Act.put, List.setIfInBounds_toArray, List.set_cons_zero, List.set_cons_succ]); refine AnyBut.take (i := 2) (v := ?_) rfl rfl (by decide) (by kernel_rfl) (by kernel_rfl) (by kernel_rfl) (by kernel_rfl) (fun _ _ _ h => h) (Or.inl ⟨by rfl, ?_⟩) hS0 ?_; rotate_left; (focus (intro W hSw; (try dsimp only at hSw); obtain ⟨z0, z1⟩ := hSw; go_simp; (try with_reducible rfl))); (try simp only [Act.put, List.setIfInBounds_toArray, List.set_cons_zero, List.set_cons_succ]); refine AnyBut.take (i := 3) (v := ?_) rfl rfl (by decide) (by kernel_rfl) (by kernel_rfl) (by kernel_rfl) (by kernel_rfl) (fun _ _ _ h => h) (Or.inl ⟨by rfl, ?_⟩) hS0 ?_; rotate_left; (focus (intro W hSw; (try dsimp only at hSw); obtain ⟨z0, z1⟩ := hSw; go_simp; (try with_reducible rfl))); (try simp only [Act.put, List.setIfInBounds_toArray, List.set_cons_zero, List.set_cons_succ]); refine AnyBut.take (i := 5) (v := ?_) rfl rfl (by decide) (by kernel_rfl) (by kernel_rfl) (by kernel_rfl) (by kernel_rfl) (fun _ _ _ h => h) (Or.inl ⟨by rfl, ?_⟩) hS0 ?_; rotate_left; (focus (intro W hSw; (try dsimp only at hSw); obtain ⟨z0, z1⟩ := hSw; go_simp; (try with_reducible rfl))); (try simp only [Act.put, List.setIfInBounds_toArray, List.set_cons_zero, List.set_cons_succ]); refine AnyBut.take (i := 6) (v := ?_) rfl rfl (by decide) (by kernel_rfl) (by kernel_rfl) (by kernel_rfl) (by kernel_rfl) (fun _ _ _ h => h) (Or.inl ⟨by rfl, ?_⟩) hS0 ?_; rotate_left; (focus (intro W hSw; (try dsimp only at hSw); obtain ⟨z0, z1⟩ := hSw; go_simp; (try with_reducible rfl))); (try simp only [Act.put, List.setIfInBounds_toArray, List.set_cons_zero, List.set_cons_succ])
  have HRd := Lib.hid (HR.out.below (below_drew w5)); have HAd := Lib.hid (HA.out.below (below_drew w5)); have HWd := Lib.hid (below_up HW.out (below_drew w5))
  have HSX : Hid (∀ w', Below w5.drew.heap.size w5.drew w' → w'.cell? ⟨w.heap.size, 0, none⟩ = some (.int .i64 n) ∧ w'.cell? ⟨w.heap.size, 1, none⟩ = some (.slice A xs.length c)) := fun w' hb => (HRd.out.below hb).c2
  clear hS0 c0 c1
  generalize w5.drew = w6 at *
  refine AnyBut.ready (rs := [4, 7]) (by kernel_rfl) (by simp) ?_
  refine AllBut.cons rfl (fun K hK => ?_) (AllBut.cons rfl (fun K hK => ?_) AllBut.nil)
  · rw [if_pos (by rfl)]
    go_simp
    refine (l04Pairs_any n A c xs _ HAd.out HS.out).mono ?_
    rintro e w7 ⟨g, rfl, hle, hvb, hb⟩
    have HB7 := Lib.hid hb; have HV7 := Lib.hid hvb
    have HGL : Hid (w.heap.size ≤ g) := Nat.le_trans HWd.out.size hle
    clear hle hvb hb
    refine hK.out _ _ (fun _ => HSX.out _ HB7.out) ?_
    clear hK K
    (try simp only [Act.put, List.setIfInBounds_toArray, List.set_cons_zero, List.set_cons_succ])
    refine AnyBut.ready (rs := [7]) (by kernel_rfl) (by simp) ?_; refine AllBut.cons rfl (fun K hK => ?_) AllBut.nil
    go_simp
    refine hK.out _ _ (fun _ => HSX.out _ (below_up HB7.out (below_alloc w7 _))) ?_
    clear hK K
    (try simp only [Act.put, List.setIfInBounds_toArray, List.set_cons_zero, List.set_cons_succ])
    have HUU : Hid (LBq (w7.alloc (.cells #[] 28)) w.heap.size (.slice (some ⟨w7.heap.size, 0, none⟩) 0 0) []) := ⟨[], own_base (own_empty w7 28 1) (Nat.le_trans HWd.out.size HB7.out.size), fun k hk => by simp at hk⟩
    have HGG := Lib.hid (HV7.out.below (below_alloc w7 (.cells #[] 28)))
    have HWW := Lib.hid (below_up HWd.out (below_up HB7.out (below_alloc w7 (.cells #[] 28))))
    have HSS := Lib.hid (below_up HB7.out (below_alloc w7 (.cells #[] 28)))
    obtain ⟨hh, hhe⟩ : ∃ hh, hh = w7.heap.size := ⟨_, rfl⟩
    rw [← hhe] at HUU
    rw [← hhe]
    clear hhe
    generalize w7.alloc _ = w8 at *
    refine AnyBut.ready (rs := [8]) (by kernel_rfl) (by simp) ?_; refine AllBut.cons rfl (fun K hK => ?_) AllBut.nil
    go_simp
    refine hK.out _ _ (fun _ => HSX.out _ HSS.out) ?_
    clear hK K
    (try simp only [Act.put, List.setIfInBounds_toArray, List.set_cons_zero, List.set_cons_succ])
    refine AnyBut.ready (rs := [9]) (by kernel_rfl) (by simp) ?_; refine AllBut.cons rfl (fun K hK => ?_) AllBut.nil
    go_simp
    refine hK.out _ _ (fun _ => HSX.out _ (below_up HSS.out (below_alloc w8 _))) ?_
    clear hK K
    (try simp only [Act.put, List.setIfInBounds_toArray, List.set_cons_zero, List.set_cons_succ])
    refine AnyBut.ready (rs := [10]) (by kernel_rfl) (by simp) ?_; refine AllBut.cons rfl (fun K hK => ?_) AllBut.nil
    go_simp
    refine hK.out _ _ (fun h => absurd rfl h) ?_
    clear hK K
    (try simp only [Act.put, List.setIfInBounds_toArray, List.set_cons_zero, List.set_cons_succ])
    refine AnyBut.done (by kernel_rfl) ?_ _
    refine NoPanic.normal ?_
    have HB9 := Lib.hid (below_alloc w8 (.cells (sVals n g 0 most keep (.slice (some ⟨hh, 0, none⟩) 0 0)) 64))
    have HS9 : Hid (Sk (w8.alloc (.cells (sVals n g 0 most keep (.slice (some ⟨hh, 0, none⟩) 0 0)) 64)) w8.heap.size n g 0 most keep (.slice (some ⟨hh, 0, none⟩) 0 0)) := Row.new w8 _ _
    have HG9 := Lib.hid (HGG.out.below HB9.out)
    have HU9 := Lib.hid (HUU.out.below HB9.out)
    have HW9 := Lib.hid (below_up HWW.out HB9.out)
    have HZ9 : Hid (w.heap.size ≤ w8.heap.size) := HWW.out.size
    change Exit.then _ _ _ _ (w8.alloc (.cells (sVals n g 0 most keep (.slice (some ⟨hh, 0, none⟩) 0 0)) 64))
    generalize hsb : w8.heap.size = sb at *
    generalize w8.alloc _ = w9 at *
    have HE9 : Hid (OB (w9.alloc (.cells #[] 80)) w9.heap.size (.slice (some ⟨w9.heap.size, 0, none⟩) 0 0) []) := own_empty _ _ _
    have hba := below_alloc w9 (.cells #[] 80)
    have HSa := Lib.hid (HS9.out.below hba); have HGa := Lib.hid (HG9.out.below hba); have HUa := Lib.hid (HU9.out.below hba)
    have HWa := Lib.hid (below_up HW9.out hba)
    clear hba
    go_wp2_with fail
    refine (l08Go_any n sb g w.heap.size most keep (by omega) hm1 HZ9.out HGL.out (misN n xs) (mskN xs xs.length) [] [] _ _ w9.heap.size _ HMC.out (by simp; omega) (by simpa using hm0) HSa.out HGa.out (by have e : kpL keep [] = [] := (by cases keep <;> rfl); rw [e]; exact HUa.out) HE9.out HWa.out.size).mono ?_
    rintro e wz ⟨u', rfl, hsk, _, hlb, hgk⟩
    have HBZ : Hid (Below w.heap.size w wz) := HWa.out.trans (hgk.out HWa.out.size HZ9.out HGL.out (fun b e => (HUa.out.lt b e).1))
    have HSK := Lib.hid hsk; have HLB := Lib.hid hlb
    clear hsk hlb hgk
    go_wp2
    go_ret
    exact ⟨sb, u', g, rfl, HSK.out, HLB.out, HBZ.out⟩
  · go_simp
    refine hK.out _ _ (fun _ => HSX.out _ (below_alloc w6 _)) ?_
    clear hK K
    (try simp only [Act.put, List.setIfInBounds_toArray, List.set_cons_zero, List.set_cons_succ])
    have HUU0 : Hid (LBq (w6.alloc (.cells #[] 28)) w.heap.size (.slice (some ⟨w6.heap.size, 0, none⟩) 0 0) []) := ⟨[], own_base (own_empty w6 28 1) HWd.out.size, fun k hk => by simp at hk⟩
    have HA7 := Lib.hid (HAd.out.below (below_alloc w6 (.cells #[] 28)))
    have HW7 := Lib.hid (below_up HWd.out (below_alloc w6 (.cells #[] 28)))
    have HSS0 := Lib.hid (below_alloc w6 (.cells #[] 28))
    obtain ⟨hh, hhe⟩ : ∃ hh, hh = w6.heap.size := ⟨_, rfl⟩
    rw [← hhe] at HUU0
    rw [← hhe]
    clear hhe
    generalize w6.alloc _ = w7 at *
    refine AnyBut.ready (rs := [4]) (by kernel_rfl) (by simp) ?_; refine AllBut.cons rfl (fun K hK => ?_) AllBut.nil
    rw [if_pos (by rfl)]
    go_simp
    refine (l04Pairs_any n A c xs _ HA7.out HS.out).mono ?_
    rintro e w8 ⟨g, rfl, hle, hvb, hb⟩
    have HSS := Lib.hid (below_up HSS0.out hb); have HGG := Lib.hid hvb
    have HUU := Lib.hid (HUU0.out.below hb)
    have HWW := Lib.hid (below_up HW7.out hb)
    have HGL : Hid (w.heap.size ≤ g) := Nat.le_trans HW7.out.size hle
    clear hle hvb hb
    refine hK.out _ _ (fun _ => HSX.out _ HSS.out) ?_
    clear hK K
    (try simp only [Act.put, List.setIfInBounds_toArray, List.set_cons_zero, List.set_cons_succ])
    refine AnyBut.ready (rs := [8]) (by kernel_rfl) (by simp) ?_; refine AllBut.cons rfl (fun K hK => ?_) AllBut.nil
    go_simp
    refine hK.out _ _ (fun _ => HSX.out _ HSS.out) ?_
    clear hK K
    (try simp only [Act.put, List.setIfInBounds_toArray, List.set_cons_zero, List.set_cons_succ])
    refine AnyBut.ready (rs := [9]) (by kernel_rfl) (by simp) ?_; refine AllBut.cons rfl (fun K hK => ?_) AllBut.nil
    go_simp
    refine hK.out _ _ (fun _ => HSX.out _ (below_up HSS.out (below_alloc w8 _))) ?_
    clear hK K
    (try simp only [Act.put, List.setIfInBounds_toArray, List.set_cons_zero, List.set_cons_succ])
    refine AnyBut.ready (rs := [10]) (by kernel_rfl) (by simp) ?_; refine AllBut.cons rfl (fun K hK => ?_) AllBut.nil
    go_simp
    refine hK.out _ _ (fun h => absurd rfl h) ?_
    clear hK K
    (try simp only [Act.put, List.setIfInBounds_toArray, List.set_cons_zero, List.set_cons_succ])
    refine AnyBut.done (by kernel_rfl) ?_ _
    refine NoPanic.normal ?_
    have HB9 := Lib.hid (below_alloc w8 (.cells (sVals n g 0 most keep (.slice (some ⟨hh, 0, none⟩) 0 0)) 64))
    have HS9 : Hid (Sk (w8.alloc (.cells (sVals n g 0 most keep (.slice (some ⟨hh, 0, none⟩) 0 0)) 64)) w8.heap.size n g 0 most keep (.slice (some ⟨hh, 0, none⟩) 0 0)) := Row.new w8 _ _
    have HG9 := Lib.hid (HGG.out.below HB9.out)
    have HU9 := Lib.hid (HUU.out.below HB9.out)
    have HW9 := Lib.hid (below_up HWW.out HB9.out)
    have HZ9 : Hid (w.heap.size ≤ w8.heap.size) := HWW.out.size
    change Exit.then _ _ _ _ (w8.alloc (.cells (sVals n g 0 most keep (.slice (some ⟨hh, 0, none⟩) 0 0)) 64))
    generalize hsb : w8.heap.size = sb at *
    generalize w8.alloc _ = w9 at *
    have HE9 : Hid (OB (w9.alloc (.cells #[] 80)) w9.heap.size (.slice (some ⟨w9.heap.size, 0, none⟩) 0 0) []) := own_empty _ _ _
    have hba := below_alloc w9 (.cells #[] 80)
    have HSa := Lib.hid (HS9.out.below hba); have HGa := Lib.hid (HG9.out.below hba); have HUa := Lib.hid (HU9.out.below hba)
    have HWa := Lib.hid (below_up HW9.out hba)
    clear hba
    go_wp2_with fail
    refine (l08Go_any n sb g w.heap.size most keep (by omega) hm1 HZ9.out HGL.out (misN n xs) (mskN xs xs.length) [] [] _ _ w9.heap.size _ HMC.out (by simp; omega) (by simpa using hm0) HSa.out HGa.out (by have e : kpL keep [] = [] := (by cases keep <;> rfl); rw [e]; exact HUa.out) HE9.out HWa.out.size).mono ?_
    rintro e wz ⟨u', rfl, hsk, _, hlb, hgk⟩
    have HBZ : Hid (Below w.heap.size w wz) := HWa.out.trans (hgk.out HWa.out.size HZ9.out HGL.out (fun b e => (HUa.out.lt b e).1))
    have HSK := Lib.hid hsk; have HLB := Lib.hid hlb
    clear hsk hlb hgk
    go_wp2
    go_ret
    exact ⟨sb, u', g, rfl, HSK.out, HLB.out, HBZ.out⟩

end Go.Proofs.Ytabgmjakkgalgaa

/- Contracts of Fixes, of the reference and of the program; conditions: stated in each. -/
namespace Go.Proofs.Ytabgmjakkgalgaa
open Go.RowKit
set_option maxHeartbeats 2000000
set_option maxRecDepth 100000
set_option linter.unusedSimpArgs false
set_option linter.unusedVariables false

/-- whether there is one completion, and a code -/
noncomputable def fixR (v : Int) (xs : List Blk) : Bool × Int := (decide ((((cmpR v xs 2).1.length : Nat) : Int) = 1), (cmpR v xs 2).2)
theorem fix_full {n : Nat} {xs : List Blk} (hs : isSysB n xs = true) (ht : told n = true) (hm : misN n xs ≤ 12) : (((takeG [] 2 (addC n xs)).length : Int) == 1) = (fixR n xs).1 := by
  unfold fixR
  rw [cmpR_yes hs ht hm]
  show _ = decide ((((cplL n xs 2).length : Nat) : Int) = 1)
  unfold takeG cplL
  rw [List.length_map, List.nil_append, List.length_take, List.length_take, List.length_nil]
  rfl
theorem specFix_any (v : Int) (A : Option Addr) (c : Nat) (xs : List Blk) (w : World) (hA : Bl w A xs) (hl : xs.length ≤ 1048576) :
    Calls Try.prog 13 #[.agg #[.int .i64 v, .slice A xs.length c]] w fun e w' => e = .returned (.tuple #[.bool (fixR v xs).1, .int .i64 (fixR v xs).2]) ∧ Below w.heap.size w w' := by
  by_cases hz : isSysB v xs = true ∧ told v = true ∧ misN v.toNat xs ≤ 12
  · obtain ⟨hs, ht, hm⟩ := hz
    have HS := Lib.hid (isSysB_iff.1 hs)
    have hv := HS.out.1
    obtain ⟨n, rfl⟩ := Int.eq_ofNat_of_zero_le (by omega : 0 ≤ v)
    have hm : misN n xs ≤ 12 := hm
    have HC : Hid ((cmpR n xs 2).2 = 0) := by unfold Hid; rw [cmpR_yes hs ht hm]
    have HN1 := Lib.hid (fix_full hs ht hm)
    have HN2 : Hid ((fixR n xs).2 = 0) := by unfold Hid fixR; rw [HC.out]
    have HT := Lib.hid (told_nat ht)
    have hk := takeG_len (found := ([] : List (List Blk))) (most := 2) (by simp) (addC n xs)
    generalize fixR n xs = R at *
    clear hs ht
    have HA := Lib.hid hA; clear hA; have HR := Lib.hid (Row.box w 30 (.int .i64 n) (.slice A xs.length c)); have HW := Lib.hid (Since.refl w); go_enter Try.func13, Try.ntmps13; go_wp2_with fail; replace HA := Lib.hid (HA.out.below (below_alloc _ (.cells #[.int .i64 n, .slice A xs.length c] 30))); replace HW := Lib.hid (HW.out.below (below_alloc _ (.cells #[.int .i64 n, .slice A xs.length c] 30)))
    refine (l08Code_any n A c xs 2 _ HA.out hl).mono ?_; rw [HC.out]; rintro e w_ ⟨rfl, hb⟩; replace HA := Lib.hid (HA.out.below hb); replace HW := Lib.hid (HW.out.below hb); replace HR := Lib.hid (HR.out.below hb); clear hb; (try clear c0 c1); obtain ⟨c0, c1⟩ := HR.out.c2
    go_wp2_with fail
    refine (l08Run_any n A c xs 2 false _ HA.out HS.out HT.out (by omega) (by omega)).mono ?_
    rintro e w2 ⟨s, u, g, rfl, hsk, _, hb⟩
    obtain ⟨c0, c1, c2, c3, c4, c5⟩ := hsk.c6
    have hsl := hsk.lt
    have HW2 := Lib.hid (HW.out.below hb)
    clear hb hsk
    go_wp2
    go_ret2
    exact ⟨ret_bi HN1.out HN2.out.symm, HW2.out⟩
  · have HE : Hid (fixR v xs = (false, (cmpR v xs 2).2) ∧ (cmpR v xs 2).2 ≠ 0) := by
      unfold Hid fixR
      cases hs : isSysB v xs
      · rw [cmpR_bad hs]; exact ⟨rfl, by decide⟩
      · cases ht : told v
        · rw [cmpR_not hs ht]; exact ⟨rfl, by decide⟩
        · rw [cmpR_many hs ht (fun h => hz ⟨hs, ht, h⟩)]; exact ⟨rfl, by decide⟩
    have HCD := Lib.hid (l08Code_any v A c xs 2)
    generalize fixR v xs = R at *
    generalize (cmpR v xs 2).2 = k at *
    have hk : (k != 0) = true := by simpa using HE.out.2
    have HA := Lib.hid hA; clear hA; have HR := Lib.hid (Row.box w 30 (.int .i64 v) (.slice A xs.length c)); have HW := Lib.hid (Since.refl w); go_enter Try.func13, Try.ntmps13; go_wp2_with fail; replace HA := Lib.hid (HA.out.below (below_alloc _ (.cells #[.int .i64 v, .slice A xs.length c] 30))); replace HW := Lib.hid (HW.out.below (below_alloc _ (.cells #[.int .i64 v, .slice A xs.length c] 30)))
    refine (HCD.out _ HA.out hl).mono ?_; rintro e w_ ⟨rfl, hb⟩; replace HW := Lib.hid (HW.out.below hb); clear hb
    go_wp2
    go_ret2
    exact ⟨by rw [HE.out.1]; rfl, HW.out⟩
theorem implFix_any (v : Int) (A : Option Addr) (c : Nat) (xs : List Blk) (w : World) (hA : Bl w A xs) (hl : xs.length ≤ 1048576) :
    Calls Try.prog 14 #[.agg #[.int .i64 v, .slice A xs.length c]] w fun e w' => e = .returned (.tuple #[.bool (fixR v xs).1, .int .i64 (fixR v xs).2]) ∧ Below w.heap.size w w' := by
  have HN : Hid (fixR v xs = (((((cmpR v xs 2).1.length : Nat) : Int) == 1), (cmpR v xs 2).2)) := rfl
  generalize fixR v xs = R at *
  have HA := Lib.hid hA; clear hA; have HR := Lib.hid (Row.box w 30 (.int .i64 v) (.slice A xs.length c)); have HW := Lib.hid (Since.refl w); go_enter Try.func14, Try.ntmps14; go_wp2_with fail; replace HA := Lib.hid (HA.out.below (below_alloc _ (.cells #[.int .i64 v, .slice A xs.length c] 30))); replace HW := Lib.hid (HW.out.below (below_alloc _ (.cells #[.int .i64 v, .slice A xs.length c] 30)))
  refine (completions_any v A c xs 2 _ HA.out hl (by omega) (by omega)).mono ?_
  rintro e w2 ⟨A', c', S, rfl, _, hb⟩
  have HW2 := Lib.hid (HW.out.below hb)
  clear hb
  go_wp2
  go_ret2
  exact ⟨by rw [HN.out]; rfl, HW2.out⟩

end Go.Proofs.Ytabgmjakkgalgaa

/- The frame of a law's proof: arguments opened, the row shut; conditions: none. -/
namespace Go.Proofs.Ytabgmjakkgalgaa
open Go.ChangeShapes Go.WideShapes Go.ChangeAt Go.RowKit Go.Deep Go.Joins

theorem Try.own : ownKnob Try.prog.godebug = none := by kernel_rfl
theorem Try.laidOut : laidOutB Try.prog = true := by kernel_rfl

set_option maxRecDepth 100000
section
variable {H : Type} {enc : TypeId × Value → H}

theorem trodAll_below {P : Program} (hl : laidOutB P = true) {W W' : World} (hb : Below W.heap.size W W') : ∀ (ts : List TypeId) (vs : List Value) (ds : List (DataW H)) (ps : List MemPlace),
    (∀ t ∈ ts, P.readableRec t = true ∧ t < P.types.size) → (∀ x ∈ ps, x.block < W.heap.size) →
    DataW.TrodAll enc P W 0 (fun _ => true) true ts vs ds ps → DataW.TrodAll enc P W' 0 (fun b => decide (b < W.heap.size)) true ts vs ds ps := by
  intro ts
  induction ts with
  | nil =>
    intro vs ds ps _ _ h
    cases vs <;> cases ds <;> first | exact h | exact h.elim
  | cons t ts ih =>
    intro vs ds ps ht hlt h
    cases vs with
    | nil => exact h.elim
    | cons v vs =>
      cases ds with
      | nil => exact h.elim
      | cons d ds =>
        obtain ⟨p, q, h1, h2, rfl⟩ := h
        exact ⟨p, q, Below.trod hl (ht t (by simp)).1 (ht t (by simp)).2 h1 hb (fun x hx => hlt x (by simp [hx])),
          ih vs ds q (fun t' ht' => ht t' (by simp [ht'])) (fun x hx => hlt x (by simp [hx])) h2, rfl⟩

/-- A law's call that returns true and leaves what was there: the row's post. -/
theorem law_post {P : Program} {f : Func} {s : ChangeSpec} {W W' : World} {args : Array Value} {ds gs : List (DataW H)} {before : List MemPlace} {tb : TypeId}
    (hW : DataW.Whole enc P f.params.toList s.vars false W args.toList ds gs before) (hvars : s.vars = [])
    (hfn : s.fn H (ds ++ gs) = { results := [.lit (.bool true)], args := ds }) (hrt : f.resultTypes.toList = [tb]) (hbool : P.underlying tb = some .bool)
    (hl : laidOutB P = true) (hread0 : f.params.toList.all (fun t => P.readableRec t && decide (t < P.types.size)) = true) (hb : Below W.heap.size W W') :
    s.post enc P f false true false false W args (.bool true) W' := by
  have hread : ∀ t ∈ f.params.toList, P.readableRec t = true ∧ t < P.types.size := fun t ht => by
    have := List.all_eq_true.1 hread0 t ht
    simpa using this
  have hlt : ∀ x ∈ before, x.block < W.heap.size := fun p hp => hW.lt p hp
  have hW' := hW
  obtain ⟨p, q, hA, hV, hpq, hfz, hnd⟩ := hW
  rw [hvars] at hV
  obtain ⟨rfl, rfl⟩ := trodVars_none hV
  rw [List.append_nil] at hpq
  subst hpq
  refine ⟨ds, [], before, [], before, [], hW', ?_, ?_, ?_, ?_, fun h => by cases h⟩
  · rw [hfn, hrt]
    have : f.resultTypes.size = 1 := by rw [← Array.length_toList, hrt]; rfl
    rw [this]
    exact trodAll_mk1 (shut_bool hbool true)
  · rw [hfn]
    exact trodAll_below hl hb _ _ _ _ hread hlt hA
  · rw [hfn, hvars]; rfl
  · exact World.keptBut_mono (fun x hx => ⟨hx, .inr (.inl hx)⟩) (hb.frame (· ∈ before))

variable {W : World}
theorem open_blks {n : Nat} {v : Value} {y : DataW H × List MemPlace} (h : DataW.trod enc Try.prog W 0 (fun _ => true) true n 22 [v] = some y) :
    ∃ A c xs, v = .slice A xs.length c ∧ Bl W A xs ∧ xs.length ≤ 9223372036854775807 := by
  rcases open_slice Try.underlying22 h with ⟨hcs, _⟩ | ⟨a, len, cap, m, n', D, Pl, hcs, _, hlc, hcm, hm, _, hi⟩
  · simp only [List.cons.injEq, and_true] at hcs
    exact ⟨none, 0, [], by simpa using hcs, .inl rfl, by simp⟩
  · simp only [List.cons.injEq, and_true] at hcs
    simp only [if_true] at hm
    have hC : Try.prog.cellsOf 79 = 3 := by kernel_rfl
    have hC2 : Try.prog.cellsOf 2 = 1 := by kernel_rfl
    have hel : ∀ i, i < len → ∃ b : Blk, W.cell? ((a.add (i * 3)).add 0) = some (.int .i64 b.1) ∧ W.cell? ((a.add (i * 3)).add 1) = some (.int .i64 b.2.1) ∧ W.cell? ((a.add (i * 3)).add 2) = some (.int .i64 b.2.2) := by
      intro i hil
      obtain ⟨cs', h1, h2⟩ := hi i (by omega)
      rw [hC] at h1
      obtain ⟨xs, m', _, _, hlen, hxl, he⟩ := DataW.trod_array Try.underlying79 h2
      rw [hC] at hlen
      obtain ⟨_, _, hc⟩ := World.cells?_some h1
      match cs', hlen with
      | [c0, c1, c2], _ =>
        have e0 := he 0 (by omega); have e1 := he 1 (by omega); have e2 := he 2 (by omega)
        rw [hC2] at e0 e1 e2
        simp only [Nat.zero_mul, Nat.one_mul, List.drop_zero, List.take_succ_cons, List.take_zero, List.drop_succ_cons, Nat.reduceMul] at e0 e1 e2
        rw [List.getElem?_eq_getElem (by omega)] at e0 e1 e2
        obtain ⟨p, hp, _, _⟩ := DataW.trod_int Try.underlying2 e0
        obtain ⟨q, hq, _, _⟩ := DataW.trod_int Try.underlying2 e1
        obtain ⟨r, hr, _, _⟩ := DataW.trod_int Try.underlying2 e2
        simp only [List.cons.injEq, and_true] at hp hq hr
        subst hp hq hr
        exact ⟨(p, q, r), hc 0 (by omega), hc 1 (by omega), hc 2 (by omega)⟩
    obtain ⟨f, hf⟩ := choose_lt hel
    refine ⟨some a, cap, (List.range len).map f, by simpa using hcs, ?_, by unfold maxLen at hcm; simp; omega⟩
    by_cases h0 : len = 0
    · subst h0; exact .inl (by simp)
    · right
      obtain ⟨b, o, sp⟩ := a
      have hc0 := (hf 0 (by omega)).1
      rw [Nat.zero_mul] at hc0
      have hsp : sp = none ∧ b < W.heap.size := by
        simp only [Addr.add, if_true] at hc0
        unfold World.cell? at hc0
        split at hc0
        · rename_i heq
          constructor
          · cases sp with
            | none => rfl
            | some s => simp at hc0
          · rcases Nat.lt_or_ge b W.heap.size with hlt | hge
            · exact hlt
            · simp only at heq; rw [Array.getElem?_eq_none hge] at heq; cases heq
        · cases hc0
      obtain ⟨rfl, hlt⟩ := hsp
      refine ⟨b, o, rfl, hlt, fun k hk => ?_⟩
      have hk : k < len := by simpa using hk
      obtain ⟨f0, f1, f2⟩ := hf k hk
      have hn : nth ((List.range len).map f) k = f k := by simp [nth, hk]
      rw [hn]
      rw [add_add] at f0 f1 f2
      have key : ∀ j, (⟨b, o, none⟩ : Addr).add j = ⟨b, o + j, none⟩ := by intro j; unfold Addr.add; split <;> simp_all
      rw [key] at f0 f1 f2
      exact ⟨f0, f1, f2⟩

theorem open_nums {n : Nat} {v : Value} {y : DataW H × List MemPlace} (h : DataW.trod enc Try.prog W 0 (fun _ => true) true n 36 [v] = some y) :
    ∃ A c xs, v = .slice A xs.length c ∧ Il W A xs ∧ (∀ x ∈ xs, -9223372036854775808 ≤ x ∧ x ≤ 9223372036854775807) ∧ xs.length ≤ 9223372036854775807 := by
  have hC2 : Try.prog.cellsOf 2 = 1 := by kernel_rfl
  rcases open_slice1 Try.underlying36 hC2 h with ⟨hcs, _⟩ | ⟨a, len, cap, m, n', V, D, Pl, hcs, _, hlc, hcm, hm, _, hi⟩
  · simp only [List.cons.injEq, and_true] at hcs
    exact ⟨none, 0, [], by simpa using hcs, .inl rfl, by simp, by simp⟩
  · simp only [List.cons.injEq, and_true] at hcs
    simp only [if_true] at hm
    have hel : ∀ i, i < len → ∃ x : Int, W.cell? (a.add i) = some (.int .i64 x) ∧ -9223372036854775808 ≤ x ∧ x ≤ 9223372036854775807 := by
      intro i hil
      obtain ⟨h1, h2⟩ := hi i (by omega)
      obtain ⟨p, hp, _, hw⟩ := DataW.trod_int Try.underlying2 h2
      simp only [List.cons.injEq, and_true] at hp
      rw [hp] at h1
      exact ⟨p, h1, bounds_i64 hw⟩
    obtain ⟨f, hf⟩ := choose_lt hel
    refine ⟨some a, cap, (List.range len).map f, by simpa using hcs, ?_, ?_, by unfold maxLen at hcm; simp; omega⟩
    · by_cases h0 : len = 0
      · subst h0; exact .inl (by simp)
      · right
        obtain ⟨b, o, sp⟩ := a
        have hc0 := (hf 0 (by omega)).1
        have hsp : sp = none ∧ b < W.heap.size := by
          simp only [Addr.add, if_true] at hc0
          unfold World.cell? at hc0
          split at hc0
          · rename_i heq
            constructor
            · cases sp with
              | none => rfl
              | some s => simp at hc0
            · rcases Nat.lt_or_ge b W.heap.size with hlt | hge
              · exact hlt
              · simp only at heq; rw [Array.getElem?_eq_none hge] at heq; cases heq
          · cases hc0
        obtain ⟨rfl, hlt⟩ := hsp
        refine ⟨b, o, rfl, hlt, fun k hk => ?_⟩
        have hk : k < len := by simpa using hk
        have f0 := (hf k hk).1
        have hn : nthI ((List.range len).map f) k = f k := by simp [nthI, hk]
        rw [hn]
        have key : ∀ j, (⟨b, o, none⟩ : Addr).add j = ⟨b, o + j, none⟩ := by intro j; unfold Addr.add; split <;> simp_all
        rw [key] at f0
        exact f0
    · intro x hx
      simp only [List.mem_map, List.mem_range] at hx
      obtain ⟨i, hi', rfl⟩ := hx
      exact (hf i hi').2

theorem open_sys {b0 : Nat} {v : Value} {d : DataW H} {ps : List MemPlace} (hv : Value.okWide Try.prog W .any b0 24 v) (h : DataW.Trod enc Try.prog W 0 (fun _ => true) true 24 v d ps) :
    ∃ n A c xs, v = .agg #[.int .i64 n, .slice A xs.length c] ∧ Bl W A xs ∧ xs.length ≤ 9223372036854775807 ∧ -9223372036854775808 ≤ n ∧ n ≤ 9223372036854775807 := by
  obtain ⟨v0, v1, y0, y1, n, rfl, rfl, rfl, h0, h1⟩ := open_agg2 Try.underlying24 (by kernel_rfl) (by kernel_rfl) hv h
  obtain ⟨p, hp, _, hw⟩ := DataW.trod_int Try.underlying2 h0
  simp only [List.cons.injEq, and_true] at hp
  obtain ⟨A, c, xs, rfl, hB, hl⟩ := open_blks h1
  subst hp
  exact ⟨p, A, c, xs, rfl, hB, hl, (bounds_i64 hw).1, (bounds_i64 hw).2⟩

end
end Go.Proofs.Ytabgmjakkgalgaa
