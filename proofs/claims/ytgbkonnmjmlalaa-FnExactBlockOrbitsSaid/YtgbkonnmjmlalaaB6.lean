/- Plain laws and contracts, part 6; conditions: stated in each. -/
import Derived.Laws.MakeOwn
import Derived.Test.YtgbkonnmjmlalaaB2
import Derived.Test.YtgbkonnmjmlalaaB4
import Derived.Test.YtgbkonnmjmlalaaB5
set_option linter.unusedSimpArgs false
set_option linter.unusedVariables false
/- Rows of truth values that a call makes and writes; conditions: none. -/
namespace Go.Proofs.Ytgbkonnmjmlalaa
open Go.RowKit
set_option maxRecDepth 100000
set_option linter.unusedSimpArgs false
set_option linter.unusedVariables false

def bcells (n : Nat) (F : Nat → Bool) : Array Value := ((List.range n).map fun i => Value.bool (F i)).toArray
theorem bcells_size (n : Nat) (F : Nat → Bool) : (bcells n F).size = n := by simp [bcells]
theorem bcells_get {n i : Nat} (F : Nat → Bool) (h : i < n) : (bcells n F)[i]? = some (.bool (F i)) := by simp [bcells, h]
theorem bcells_set (n i : Nat) (F : Nat → Bool) (v : Bool) : (bcells n F).setIfInBounds i (.bool v) = bcells n (updA F i v) := by
  apply Array.ext_getElem?
  intro j
  rw [Array.getElem?_setIfInBounds, bcells_size]
  by_cases h : i = j
  · subst h
    rw [if_pos rfl]
    by_cases hi : i < n
    · rw [if_pos hi, bcells_get _ hi]; simp [updA]
    · rw [if_neg hi, Array.getElem?_eq_none (by rw [bcells_size]; omega)]
  · rw [if_neg h]
    by_cases hj : j < n
    · rw [bcells_get _ hj, bcells_get _ hj, updA, if_neg (fun e => h e.symm)]
    · rw [Array.getElem?_eq_none (by rw [bcells_size]; omega), Array.getElem?_eq_none (by rw [bcells_size]; omega)]
/-- Block g holds the n truth values F 0, F 1, .. -/
def Vb (w : World) (g n : Nat) (F : Nat → Bool) : Prop := Row w g 4 (bcells n F)
theorem Vb.lt {w : World} {g n : Nat} {F : Nat → Bool} (h : Vb w g n F) : g < w.heap.size := Row.lt h
theorem Vb.below {w w' : World} {g n : Nat} {F : Nat → Bool} (h : Vb w g n F) (hb : Below w.heap.size w w') : Vb w' g n F := Row.below h hb
theorem Vb.cell {w : World} {g n : Nat} {F : Nat → Bool} (h : Vb w g n F) {i : Nat} (hi : i < n) : w.cell? ⟨g, i, none⟩ = some (.bool (F i)) := (Row.cell h i).trans (bcells_get F hi)
theorem Vb.frozen {w : World} {g n : Nat} {F : Nat → Bool} (h : Vb w g n F) (i : Nat) : w.frozen? ⟨g, i, none⟩ = false := Row.frozen h i
theorem Vb.set {w : World} {g n : Nat} {F : Nat → Bool} (h : Vb w g n F) (i : Nat) (v : Bool) : Vb (w.setCell ⟨g, i, none⟩ (.bool v)) g n (updA F i v) := by
  have := Row.set h i (.bool v)
  rw [bcells_set] at this
  exact this
theorem Vb.ext {w : World} {g n : Nat} {F G : Nat → Bool} (h : Vb w g n F) (e : ∀ i, i < n → F i = G i) : Vb w g n G := by
  have : bcells n F = bcells n G := by unfold bcells; congr 1; exact List.map_congr_left fun i hi => by rw [e i (List.mem_range.1 hi)]
  unfold Vb at *; rwa [← this]
theorem Vb.grown {w w' : World} {g n : Nat} {F : Nat → Bool} {row : Option Nat} (h : Vb w g n F) (hg : w.grownBy w' row) (hne : row ≠ some g) : Vb w' g n F := Row.grown h hg hne
theorem Vb.far {w : World} {g n : Nat} {F : Nat → Bool} (h : Vb w g n F) {p : Addr} (hne : p.block ≠ g) (u : Value) : Vb (w.setCell p u) g n F := Row.far h hne u
theorem Vb.new (w : World) (n : Nat) (F : Nat → Bool) : Vb (w.alloc (.cells (bcells n F) 4)) w.heap.size n F := Row.new w _ _
theorem infoBool' : (Try.prog.info? 4).map (fun i => (i.zero, i.size, i.bytes)) = some (some (.bool false), 1, 1) := by kernel_rfl
theorem made_bools (n : Nat) : madeCells (Value.cells (.bool false)) (n * 1) = bcells n (fun _ => false) := by
  apply Array.ext'
  simp [bcells, madeCells, Value.cells, Nat.mod_one]
@[go_sem] theorem make_bools (m : Int) (W : World) (h0 : 0 ≤ m) (h1 : m ≤ 1000000) : (Instr.makeSlice 71 (.int .i64 m) (.int .i64 m)).run Try.prog W = .ok (.slice (some ⟨W.heap.size, 0, none⟩) m.toNat m.toNat) (W.alloc (.cells (bcells m.toNat (fun _ => false)) 4)) := by
  obtain ⟨ni0, hni, hni0, hni1, hni2⟩ := info_parts infoBool'
  have h := run_make (P := Try.prog) W 71 4 ni0 (.bool false) Try.underlying71 hni hni0 .i64 .i64 m m h0 (Int.le_refl _) (by rw [hni2]; omega) (by omega)
  rw [h, hni1, made_bools]

end Go.Proofs.Ytgbkonnmjmlalaa

/- Lists of lists that grow while other rows are written, and rows of rows of truth values; conditions: none. -/
namespace Go.Proofs.Ytgbkonnmjmlalaa
open Go.RowKit
set_option maxRecDepth 100000
set_option linter.unusedSimpArgs false
set_option linter.unusedVariables false

/-- LLd, all its blocks below T -/
def LLe (w : World) (T base : Nat) (u : Value) (xss : List (List Int)) : Prop :=
  ∃ hs : Nat → Value, w.ownsRow base 39 1 u xss.length ((List.range xss.length).map hs) ∧ (∀ k, k < xss.length → Ro w base (hs k) (nthLL xss k) ∧ ∀ b, (hs k).ownBlock = some b → u.ownBlock ≠ some b) ∧ (∀ j k, j < xss.length → k < xss.length → j ≠ k → ∀ b, (hs j).ownBlock = some b → (hs k).ownBlock ≠ some b) ∧ (∀ b, u.ownBlock = some b → b < T) ∧ ∀ k, k < xss.length → ∀ b, (hs k).ownBlock = some b → b < T
theorem LLe.lld {w : World} {T base : Nat} {u : Value} {xss : List (List Int)} (h : LLe w T base u xss) : LLd w base u xss := by
  obtain ⟨hs, h1, h2, h3, _⟩ := h
  exact ⟨hs, h1, h2, h3⟩
theorem LLd.toE {w : World} {base : Nat} {u : Value} {xss : List (List Int)} (h : LLd w base u xss) : LLe w w.heap.size base u xss := by
  obtain ⟨hs, h1, h2, h3⟩ := h
  exact ⟨hs, h1, h2, h3, fun b e => (h1.lt b e).2, fun k hk b e => ((h2 k hk).1.lt b e).2⟩
theorem LLe.mono {w : World} {T T' base : Nat} {u : Value} {xss : List (List Int)} (h : LLe w T base u xss) (hT : T ≤ T') : LLe w T' base u xss := by
  obtain ⟨hs, h1, h2, h3, h4, h5⟩ := h
  exact ⟨hs, h1, h2, h3, fun b e => Nat.lt_of_lt_of_le (h4 b e) hT, fun k hk b e => Nat.lt_of_lt_of_le (h5 k hk b e) hT⟩
theorem LLe.below {w w' : World} {T base : Nat} {u : Value} {xss : List (List Int)} (h : LLe w T base u xss) (hb : Below w.heap.size w w') : LLe w' T base u xss := by
  obtain ⟨hs, h1, h2, h3, h4⟩ := h
  exact ⟨hs, own_below h1 hb, fun k hk => ⟨(h2 k hk).1.below hb, (h2 k hk).2⟩, h3, h4⟩
theorem LLe.kept {w w' : World} {T base s : Nat} {ts : TypeId} {u : Value} {xss : List (List Int)} (h : LLe w T base u xss) (hg : w.grownBy w' (some s)) (hs : ∃ cur, Row w s ts cur) (h1 : (39 : TypeId) ≠ ts) (h2 : (2 : TypeId) ≠ ts) : LLe w' T base u xss := by
  obtain ⟨hs', ho, hi, hd⟩ := h
  exact ⟨hs', World.ownsRow.kept ho hg (.inr (own_typed ho hs h1)), fun k hk => ⟨World.ownsRow.kept (hi k hk).1 hg (.inr (own_typed (hi k hk).1 hs h2)), (hi k hk).2⟩, hd⟩
/-- a row made later is one more -/
theorem LLe.push {w : World} {T base : Nat} {u r : Value} {xss : List (List Int)} {xs : List Int} (h : LLe w T base u xss) (hr : Ro w base r xs) (hfr : ∀ b, r.ownBlock = some b → T ≤ b) : ∃ vs, w.ownsRow base 39 1 u xss.length vs ∧ vs.length = xss.length ∧
    ∀ (w1 w2 : World) (v2 : Value), Below w.heap.size w w1 → w1.grownBy w2 u.ownBlock → w2.ownsRow base 39 1 v2 (xss.length + 1) (vs ++ [r]) → (v2.ownBlock = u.ownBlock ∨ v2.ownBlock = some w1.heap.size) → LLd w2 base v2 (xss ++ [xs]) := by
  obtain ⟨hs, ho, hi, hd, hu, he⟩ := h
  refine ⟨_, ho, by simp, fun w1 w2 v2 hb hg hown hat => ?_⟩
  have old : ∀ k, k < xss.length → ∀ b, (hs k).ownBlock = some b → b < w.heap.size := fun k hk b e => ((hi k hk).1.lt b e).2
  have hsz := hb.size
  have hrlt : ∀ b, r.ownBlock = some b → b < w.heap.size := fun b e => (hr.lt b e).2
  refine ⟨updA hs xss.length r, ?_, fun k hk => ?_, fun j k hj hk hjk b e => ?_⟩
  · rw [List.length_append, List.length_singleton, List.range_succ, List.map_append]
    have e1 : (List.range xss.length).map (updA hs xss.length r) = (List.range xss.length).map hs := List.map_congr_left fun i hi2 => updA_ne hs r (by have := List.mem_range.1 hi2; omega)
    rw [e1]
    simpa [updA_same] using hown
  · rw [List.length_append, List.length_singleton] at hk
    have hne : ∀ {x : Value}, (∀ b, x.ownBlock = some b → b < w1.heap.size) → (∀ b, x.ownBlock = some b → u.ownBlock ≠ some b) → ∀ b, x.ownBlock = some b → v2.ownBlock ≠ some b := by
      intro x hx1 hx2 b e
      rcases hat with h | h
      · rw [h]; exact hx2 b e
      · rw [h]; intro e2; simp only [Option.some.injEq] at e2; have := hx1 b e; omega
    by_cases ek : k = xss.length
    · subst ek
      rw [updA_same]
      have e2 : nthLL (xss ++ [xs]) xss.length = xs := by simp [nthLL]
      rw [e2]
      have hru : ∀ b, r.ownBlock = some b → u.ownBlock ≠ some b := fun b e e3 => by have := hfr b e; have := hu b e3; omega
      exact ⟨(hr.below hb).grown hg (fun b e e3 => hru b e e3), hne (fun b e => by have := hrlt b e; omega) hru⟩
    · have hk2 : k < xss.length := by omega
      rw [updA_ne _ _ ek]
      have e2 : nthLL (xss ++ [xs]) k = nthLL xss k := by simp [nthLL, List.getElem?_append_left hk2]
      rw [e2]
      exact ⟨((hi k hk2).1.below hb).grown hg (fun b e e3 => (hi k hk2).2 b e e3), hne (fun b e => by have := old k hk2 b e; omega) (hi k hk2).2⟩
  · rw [List.length_append, List.length_singleton] at hj hk
    by_cases ej : j = xss.length
    · subst ej
      rw [updA_same] at e
      rw [updA_ne _ _ (Ne.symm hjk)]
      intro e2; have := hfr b e; have := he k (by omega) b e2; omega
    · rw [updA_ne _ _ ej] at e
      by_cases ek : k = xss.length
      · subst ek
        rw [updA_same]
        intro e2; have := hfr b e2; have := he j (by omega) b e; omega
      · rw [updA_ne _ _ ek]; exact hd j k (by omega) (by omega) hjk b e
theorem own_zone {w w' : World} {base size n : Nat} {t : TypeId} {v : Value} {xs : List Value} (h : w.ownsRow base t size v n xs) (hz : ∀ k, base ≤ k → k < w.heap.size → w'.heap[k]? = w.heap[k]?) : w'.ownsRow base t size v n xs := by
  refine ⟨h.1, ?_⟩
  rcases h.2 with h' | ⟨g, cap, cur, hv, hg, hR, r⟩
  · exact .inl h'
  · exact .inr ⟨g, cap, cur, hv, hg, (hz g hg (Row.lt hR)).trans hR, r⟩
/-- what lies between base and the world's size is kept -/
theorem LLq.zone {w w' : World} {base : Nat} {u : Value} {xss : List (List Int)} (h : LLq w base u xss) (hz : ∀ k, base ≤ k → k < w.heap.size → w'.heap[k]? = w.heap[k]?) : LLq w' base u xss := by
  obtain ⟨vs, ho, hi⟩ := h
  refine ⟨vs, own_zone ho hz, fun k hk => ?_⟩
  obtain ⟨r, k1, k2, k3⟩ := hi k hk
  exact ⟨r, k1, own_zone k2 hz, k3⟩

/-- the first k headers of N rows of N truth values, from block S on -/
def bhdr (S N k : Nat) : Array Value := ((List.range N).map fun i => if i < k then Value.slice (some ⟨S + i, 0, none⟩) N N else Value.slice none 0 0).toArray
theorem bhdr_size (S N k : Nat) : (bhdr S N k).size = N := by simp [bhdr]
theorem bhdr_get {S N k i : Nat} (h : i < N) (hk : i < k) : (bhdr S N k)[i]? = some (.slice (some ⟨S + i, 0, none⟩) N N) := by simp [bhdr, h, hk]
theorem bhdr_any {S N k i : Nat} (h : i < N) : ∃ u, (bhdr S N k)[i]? = some u := by simp [bhdr, h]
theorem bhdr_set (S N k : Nat) : (bhdr S N k).setIfInBounds k (.slice (some ⟨S + k, 0, none⟩) N N) = bhdr S N (k + 1) := by
  apply Array.ext_getElem?
  intro j
  rw [Array.getElem?_setIfInBounds, bhdr_size]
  by_cases h : k = j
  · subst h
    rw [if_pos rfl]
    by_cases hi : k < N
    · rw [if_pos hi, bhdr_get hi (by omega)]
    · rw [if_neg hi, Array.getElem?_eq_none (by rw [bhdr_size]; omega)]
  · rw [if_neg h]
    by_cases hj : j < N
    · have e : (j < k + 1) ↔ (j < k) := by omega
      simp [bhdr, hj, e]
    · rw [Array.getElem?_eq_none (by rw [bhdr_size]; omega), Array.getElem?_eq_none (by rw [bhdr_size]; omega)]
theorem infoBools' : (Try.prog.info? 71).map (fun i => (i.zero, i.size, i.bytes)) = some (some (.slice none 0 0), 1, 24) := by kernel_rfl
theorem made_brows (S n : Nat) : madeCells (Value.cells (.slice none 0 0)) (n * 1) = bhdr S n 0 := by
  apply Array.ext'
  simp [bhdr, madeCells, Value.cells, Nat.mod_one]
theorem make_brows (S : Nat) (m : Int) (W : World) (h0 : 0 ≤ m) (h1 : m ≤ 1000000) : (Instr.makeSlice 108 (.int .i64 m) (.int .i64 m)).run Try.prog W = .ok (.slice (some ⟨W.heap.size, 0, none⟩) m.toNat m.toNat) (W.alloc (.cells (bhdr S m.toNat 0) 71)) := by
  obtain ⟨ni0, hni, hni0, hni1, hni2⟩ := info_parts infoBools'
  have h := run_make (P := Try.prog) W 108 71 ni0 (.slice none 0 0) Try.underlying108 hni hni0 .i64 .i64 m m h0 (Int.le_refl _) (by rw [hni2]; omega) (by omega)
  rw [h, hni1, made_brows S]

end Go.Proofs.Ytgbkonnmjmlalaa

/- Contracts of the program's orbits of things; conditions: stated in each. -/
namespace Go.Proofs.Ytgbkonnmjmlalaa
open Go.RowKit
set_option maxHeartbeats 1000000
set_option maxRecDepth 100000
set_option linter.unusedSimpArgs false
set_option linter.unusedVariables false

/-- the first true one of a row -/
theorem idxB_any (g n : Nat) (F : Nat → Bool) (w : World) (hV : Vb w g n F) (hn : n ≤ 1000) :
    Calls Try.prog 105 #[.slice (some ⟨g, 0, none⟩) n n, .bool true] w fun e w' => ∃ r : Int, e = .returned (.int .i64 r) ∧ ((∃ j : Nat, j < n ∧ F j = true ∧ (∀ i, i < j → F i = false) ∧ r = j) ∨ ((∀ j, j < n → F j = false) ∧ r = -1)) ∧ w = w' := by
  have HV := Lib.hid hV
  have hlt := hV.lt
  clear hV
  go_enter Try.func105, Try.ntmps105
  go_wp2
  go_loop [8] (fun i => ∃ k : Nat, k ≤ n ∧ i = .int .i64 k ∧ Hid (∀ j, j < k → F j = false)) (fun i => n - (intOf i).toNat)
  case atStart => exact ⟨0, by omega, rfl, fun j hj => by omega⟩
  case round =>
    obtain ⟨k, hk, rfl, HC⟩ := hrel
    by_cases hlt2 : k < n
    · have p0 := HV.out.cell hlt2
      cases hF : F k
      · rw [hF] at p0
        go_wp2
        go_round
        case rel =>
          refine ⟨k + 1, by omega, by go_num, fun j hj => ?_⟩
          by_cases e : j = k
          · subst e; exact hF
          · exact HC.out j (by omega)
        case measure => simp [intOf]; omega
      · rw [hF] at p0
        go_wp2
        go_ret
        exact ⟨(k : Int), rfl, .inl ⟨k, hlt2, hF, HC.out, rfl⟩, rfl⟩
    · obtain rfl : k = n := by omega
      go_wp2
      go_ret
      exact ⟨-1, rfl, .inr ⟨HC.out, rfl⟩, rfl⟩

/-- the matrix of what leads to what, with the boxes of the caller -/
def OInv (w0 : World) (b N fo : Nat) (fao lao : Array Value) (act : List Int → Nat → Nat) (C : List (List Int)) (a : World) : Prop :=
  Row a (b + 1) 3 #[.int .i64 N] ∧ Row a (b + 4) 108 #[.slice (some ⟨b + 3, 0, none⟩) N N] ∧ Row a (b + 2) 73 #[.func (.func fo) fao lao] ∧ Row a (b + 3) 71 (bhdr (b + 5) N N) ∧
    (∀ i, i < N → Vb a (b + 5 + i) N (fun j => C.any fun L => act L i == j)) ∧ Below b w0 a
theorem orbCl_any (sb n gx gy b N fo : Nat) (fao lao : Array Value) (act : List Int → Nat → Nat) (T1 T2 : Nat → Nat → Nat) (w0 : World) (hwb : w0.heap.size = b) (hN : N ≤ 35) (h15 : n ≤ 15)
    (eg : ∀ args w, (callFunc fo args).run Try.prog w = .ok (.enter fo args) w)
    (hact : ∀ L i, Val n T1 T2 L → L.length = n → i < N → act L i < N)
    (hOf : ∀ W L i B, Below b w0 W → Il W B L → Val n T1 T2 L → L.length = n → i < N → Calls Try.prog fo (fao ++ #[.slice B n 15, .int .i64 (i : Int)] ++ lao) W fun e w' => e = .returned (.int .i64 (act L i : Nat)) ∧ Below W.heap.size W w')
    (hsb : b + 5 + N ≤ sb) (hgx : b + 5 + N ≤ gx) (hgy : b + 5 + N ≤ gy) :
    EachOk sb n gx gy 104 #[] #[.pointer (some ⟨b + 1, 0, none⟩), .pointer (some ⟨b + 4, 0, none⟩), .pointer (some ⟨b + 2, 0, none⟩)] (fun _ => true) (OInv w0 b N fo fao lao act) (Val n T1 T2) := by
  refine ⟨fun args w => by kernel_rfl, fun C a c hI _ hg => ?_, fun C L W to us kx ky hV _ hI hS hL hto => ?_⟩
  · obtain ⟨h1, h2, h3, h4, h5, h6⟩ := hI
    exact ⟨h1.grown hg (by simp; omega), h2.grown hg (by simp; omega), h3.grown hg (by simp; omega), h4.grown hg (by simp; omega), fun i hi => (h5 i hi).grown hg (by simp; omega), h6.grown hg (by have := h6.size; omega) (fun k hk => by simp at hk; omega)⟩
  · have kgx : gx < W.heap.size := by obtain ⟨G, h⟩ := kx; exact h.lt
    have kgy : gy < W.heap.size := by obtain ⟨G, h⟩ := ky; exact h.lt
    clear kx ky
    have HI := Lib.hid hI
    have ksb := hS.lt
    have HSZ := Lib.hid (And.intro ksb (And.intro kgx kgy))
    have HIL := Lib.hid (hS.il (L := L) (by omega) (fun k hk => hto k (by omega)))
    have HV := Lib.hid hV; have HL := Lib.hid hL; have HACT := Lib.hid hact; have HOF := Lib.hid hOf
    have c1 := hI.1.cell 0
    have hl1 := hI.1.lt
    clear hI hS hto hV hact hOf kgx kgy ksb
    go_enter Try.func104, Try.ntmps104
    go_wp2
    clear c1
    go_loopw [8] (fun i wr => ∃ k : Nat, k ≤ N ∧ i = .int .i64 k ∧ Hid ((∀ c, c < W.heap.size → (∀ i, i < N → c ≠ b + 5 + i) → wr.heap[c]? = W.heap[c]?) ∧ Below b w0 wr ∧ W.heap.size ≤ wr.heap.size ∧ ∀ i, i < N → Vb wr (b + 5 + i) N (fun j => (C.any fun L => act L i == j) || (decide (i < k) && act L i == j)))) (fun i _ => N - (intOf i).toNat)
    case atStart => exact ⟨0, by omega, rfl, fun _ _ _ => rfl, HI.out.2.2.2.2.2, Nat.le_refl _, fun i hi => (HI.out.2.2.2.2.1 i hi).ext fun j _ => by simp⟩
    case round =>
      obtain ⟨k, hk, rfl, HC⟩ := hrel
      by_cases hlt : k < N
      · have hne : ∀ c, b ≤ c → c < b + 5 → ∀ i, i < N → c ≠ b + 5 + i := fun c _ _ i _ => by omega
        have R2 : Row wr (b + 4) 108 #[.slice (some ⟨b + 3, 0, none⟩) N N] := (HC.out.1 _ HI.out.2.1.lt (hne _ (by omega) (by omega))).trans HI.out.2.1
        have R3 : Row wr (b + 2) 73 #[.func (.func fo) fao lao] := (HC.out.1 _ HI.out.2.2.1.lt (hne _ (by omega) (by omega))).trans HI.out.2.2.1
        have R4 : Row wr (b + 3) 71 (bhdr (b + 5) N N) := (HC.out.1 _ HI.out.2.2.2.1.lt (hne _ (by omega) (by omega))).trans HI.out.2.2.2.1
        have HSS : Hid (∀ X : World, (∀ c, b ≤ c → c < b + 5 → X.heap[c]? = wr.heap[c]?) → X.cell? ⟨b + 4, 0, none⟩ = some (.slice (some ⟨b + 3, 0, none⟩) N N) ∧ X.cell? ⟨b + 3, k, none⟩ = some (.slice (some ⟨b + 5 + k, 0, none⟩) N N) ∧ X.cell? ⟨b + 2, 0, none⟩ = some (.func (.func fo) fao lao)) := fun X hX =>
          ⟨(Row.cell ((hX _ (by omega) (by omega)).trans R2) 0), (Row.cell ((hX _ (by omega) (by omega)).trans R4) k).trans (bhdr_get hlt hlt), (Row.cell ((hX _ (by omega) (by omega)).trans R3) 0)⟩
        have HIW : Hid (Il wr (some ⟨sb, 3, none⟩) L) := by
          rcases HIL.out with h | ⟨b', o', e, hlt', hc⟩
          · exact .inl h
          · simp only [Option.some.injEq, Addr.mk.injEq, and_true] at e
            obtain ⟨rfl, rfl⟩ := e
            exact .inr ⟨sb, 3, rfl, Nat.lt_of_lt_of_le HSZ.out.1 HC.out.2.2.1, fun j hj => (World.cell?_of_block (a := ⟨sb, 3 + j, none⟩) (HC.out.1 sb HSZ.out.1 (fun i hi => by omega))).trans (hc j hj)⟩
        have hm := HACT.out L k HV.out HL.out hlt
        have HVK := HC.out.2.2.2 k hlt
        have hvl := HVK.lt
        have q0 := HVK.cell hm
        have q1 := HVK.frozen (act L k)
        have HKEEP := Lib.hid (HSS.out wr (fun _ _ _ => rfl))
        have hcall := HOF.out wr.drew L k (some ⟨sb, 3, none⟩) (HC.out.2.1.drew) (HIW.out.below (below_drew _)) HV.out HL.out hlt
        obtain ⟨m, hm2⟩ : ∃ m, act L k = m := ⟨_, rfl⟩
        rw [hm2] at hm q0 q1 hcall
        rw [Array.append_assoc] at hcall
        have HM := Lib.hid hm2
        have HCALL := Lib.hid hcall
        have hmi : (m : Int) < (N : Int) := by omega
        have hbl : b + 5 + k < wr.heap.size := hvl
        have hbw := HC.out.2.1.size
        clear hm2 hcall hne R2 R3 R4 HVK
        go_wp2
        clear q0 q1
        go_region_held3 (fun X => X.cell? ⟨b + 4, 0, none⟩ = some (.slice (some ⟨b + 3, 0, none⟩) N N) ∧ X.cell? ⟨b + 3, k, none⟩ = some (.slice (some ⟨b + 5 + k, 0, none⟩) N N) ∧ X.cell? ⟨b + 2, 0, none⟩ = some (.func (.func fo) fao lao)) (first | exact HKEEP.out | exact HKS.out) (first
        | (refine HCALL.out.mono ?_
           rintro e w1 ⟨rfl, hb⟩
           have HB1 : Hid (Below wr.heap.size wr w1) := below_up (below_drew wr) hb
           have HKW : Hid (∀ c, c < wr.heap.size → w1.heap[c]? = wr.heap[c]?) := fun c hc => HB1.out.block c hc
           replace HKEEP := Lib.hid (HSS.out w1 (fun c h1 h2 => HKW.out c (by omega)))
           have HKS := Lib.hid (HSS.out (w1.setCell ⟨b + 5 + k, m, none⟩ (.bool true)) (fun c h1 h2 => (Below.heap_setCell w1 ⟨b + 5 + k, m, none⟩ _ c (show c ≠ b + 5 + k by omega)).trans (HKW.out c (by omega))))
           have HV1 : Hid (∀ i, i < N → Vb w1 (b + 5 + i) N (fun j => (C.any fun L => act L i == j) || (decide (i < k) && act L i == j))) := fun i hi => (HC.out.2.2.2 i hi).below HB1.out
           have q0 := (HV1.out k hlt).cell hm
           have q1 := (HV1.out k hlt).frozen m
           have hv1 := (HV1.out k hlt).lt
           clear hb))
        go_wp2
        go_roundw
        case rel =>
          refine ⟨k + 1, by omega, by go_num, fun c hc hno => ?_, ((HC.out.2.1.trans (HB1.out.mono (by omega))).setCell (p := ⟨b + 5 + k, m, none⟩) (show b ≤ b + 5 + k by omega) _), ?_, fun i hi => ?_⟩
          · exact (Below.heap_setCell w1 ⟨b + 5 + k, m, none⟩ _ c (hno k hlt)).trans ((HKW.out c (by have := HC.out.2.2.1; omega)).trans (HC.out.1 c hc hno))
          · have h1 := HB1.out.size; have h2 := HC.out.2.2.1
            simp [World.setCell]; omega
          · by_cases e : i = k
            · subst e
              refine ((HV1.out i hi).set m true).ext fun j hj => ?_
              unfold updA
              by_cases ej : j = m
              · subst ej; rw [if_pos rfl, HM.out]; simp
              · rw [if_neg ej, HM.out]
                have : (m == j) = false := by simpa using Ne.symm ej
                rw [this]; simp
            · refine ((HV1.out i hi).far (p := ⟨b + 5 + k, m, none⟩) (show b + 5 + k ≠ b + 5 + i by omega) _).ext fun j hj => ?_
              have e2 : decide (i < k + 1) = decide (i < k) := by rw [Bool.eq_iff_iff]; simp; omega
              rw [e2]
        case measure => simp [intOf]; omega
      · obtain rfl : k = N := by omega
        go_wp2
        go_ret
        have hne : ∀ c, b ≤ c → c < b + 5 → ∀ i, i < k → c ≠ b + 5 + i := fun c _ _ i _ => by omega
        refine ⟨rfl, ⟨(HC.out.1 _ HI.out.1.lt (hne _ (by omega) (by omega))).trans HI.out.1, (HC.out.1 _ HI.out.2.1.lt (hne _ (by omega) (by omega))).trans HI.out.2.1, (HC.out.1 _ HI.out.2.2.1.lt (hne _ (by omega) (by omega))).trans HI.out.2.2.1, (HC.out.1 _ HI.out.2.2.2.1.lt (hne _ (by omega) (by omega))).trans HI.out.2.2.2.1, fun i hi => (HC.out.2.2.2 i hi).ext fun j _ => by simp [hi], HC.out.2.1⟩, HC.out.2.2.1, HC.out.1 sb HSZ.out.1 (fun i hi => by omega), HC.out.1 gx HSZ.out.2.1 (fun i hi => by omega), HC.out.1 gy HSZ.out.2.2 (fun i hi => by omega)⟩

/-- the caller's boxes and the first k rows -/
def OW1 (w : World) (b : Nat) (v : Int) (A : Option Addr) (c : Nat) (xs : List Blk) (N fo : Nat) (fao lao : Array Value) (k : Nat) (a : World) : Prop :=
  Below b w a ∧ a.heap.size = b + 5 + k ∧ Row a b 30 #[.int .i64 v, .slice A xs.length c] ∧ Row a (b + 1) 3 #[.int .i64 (N : Int)] ∧ Row a (b + 2) 73 #[.func (.func fo) fao lao] ∧
    Row a (b + 4) 108 #[.slice (some ⟨b + 3, 0, none⟩) N N] ∧ Row a (b + 3) 71 (bhdr (b + 5) N k) ∧ ∀ i, i < k → Vb a (b + 5 + i) N (fun _ => false)
/-- what the lists make of things -/
def relB (act : List Int → Nat → Nat) (Ls : List (List Int)) (i j : Nat) : Bool := Ls.any fun L => act L i == j
noncomputable def orbR (v : Int) (xs : List Blk) (act : List Int → Nat → Nat) (N : Nat) : List (List Int) × Int := if fcode v xs = 0 then (orbL (relB act (leadL v.toNat xs xs)) N N, 0) else ([], fcode v xs)
theorem orbits_any (v : Int) (A : Option Addr) (c : Nat) (xs : List Blk) (N fo : Nat) (fao lao : Array Value) (act : List Int → Nat → Nat) (w : World) (hA : Bl w A xs) (hl : xs.length ≤ 1048576) (hN : N ≤ 35)
    (eg : ∀ args w, (callFunc fo args).run Try.prog w = .ok (.enter fo args) w)
    (hact : isSysB v xs = true → fullB v xs = true → ∀ L i, Val v.toNat (thN xs) (thN xs) L → L.length = v.toNat → i < N → act L i < N)
    (hOf : isSysB v xs = true → fullB v xs = true → ∀ W L i B, Below w.heap.size w W → Il W B L → Val v.toNat (thN xs) (thN xs) L → L.length = v.toNat → i < N → Calls Try.prog fo (fao ++ #[.slice B v.toNat 15, .int .i64 (i : Int)] ++ lao) W fun e w' => e = .returned (.int .i64 (act L i : Nat)) ∧ Below W.heap.size W w')
    (hrfl : fcode v xs = 0 → ∀ k, k < N → relB act (leadL v.toNat xs xs) k k = true) :
    Calls Try.prog 73 #[.agg #[.int .i64 v, .slice A xs.length c], .int .i64 (N : Int), .func (.func fo) fao lao] w (LPD w (orbR v xs act N).1 (orbR v xs act N).2) := by
  obtain ⟨b, hb⟩ : ∃ b, w.heap.size = b := ⟨_, rfl⟩
  have HACT := Lib.hid hact; have HOF := Lib.hid hOf; have HRF := Lib.hid hrfl
  have HN0 : Hid (orbR v xs act N = if fcode v xs = 0 then (orbL (relB act (autL (fun _ => true) v xs)) N N, 0) else ([], fcode v xs)) := by
    unfold Hid orbR autL
    by_cases h : fcode v xs = 0
    · rw [if_pos h, if_pos h, if_pos h, runE_all (fun _ => rfl), List.nil_append]
    · rw [if_neg h, if_neg h]
  have HAE : Hid (fcode v xs = 0 → autL (fun _ => true) v xs = leadL v.toNat xs xs) := fun h => by
    unfold autL
    rw [if_pos h, runE_all (fun _ => rfl), List.nil_append]
  generalize orbR v xs act N = R at *
  obtain ⟨W3, hW3⟩ : ∃ W3, ((w.alloc (.cells #[.int .i64 v, .slice A xs.length c] 30)).alloc (.cells #[.int .i64 (N : Int)] 3)).alloc (.cells #[.func (.func fo) fao lao] 73) = W3 := ⟨_, rfl⟩
  have HW3 : Hid (Below b w W3 ∧ W3.heap.size = b + 3 ∧ Row W3 b 30 #[.int .i64 v, .slice A xs.length c] ∧ Row W3 (b + 1) 3 #[.int .i64 (N : Int)] ∧ Row W3 (b + 2) 73 #[.func (.func fo) fao lao]) := by
    rw [← hW3, ← hb]
    refine ⟨below_up (below_up (below_alloc _ _) (below_alloc _ _)) (below_alloc _ _), by simp, ((Row.new w _ _).below (below_alloc _ _)).below (below_alloc _ _), ?_, ?_⟩
    · have h := Row.new (w.alloc (.cells #[.int .i64 v, .slice A xs.length c] 30)) 3 #[.int .i64 (N : Int)]
      rw [World.size_alloc] at h
      exact h.below (below_alloc _ _)
    · have h := Row.new ((w.alloc (.cells #[.int .i64 v, .slice A xs.length c] 30)).alloc (.cells #[.int .i64 (N : Int)] 3)) 73 #[.func (.func fo) fao lao]
      simp only [World.size_alloc] at h
      exact h
  have hmk : ∀ W : World, (Instr.makeSlice 108 (.int .i64 (N : Int)) (.int .i64 (N : Int))).run Try.prog W = .ok (.slice (some ⟨W.heap.size, 0, none⟩) N N) (W.alloc (.cells (bhdr (b + 5) N 0) 71)) := fun W => by
    have h := make_brows (b + 5) (N : Int) W (by omega) (by omega)
    simpa using h
  have HA := Lib.hid hA
  have hN1 : (N : Int) ≤ 1000000 := by omega
  have c1 := HW3.out.2.2.2.1.cell 0
  have hs3 := HW3.out.2.1
  have hb2 : b + 1 + 1 = b + 2 := rfl
  have hb4 : b + 3 + 1 = b + 4 := rfl
  clear hA hact hOf hrfl
  go_enter Try.func73, Try.ntmps73
  go_wp2
  clear c1
  have HW5 : Hid (OW1 w b v A c xs N fo fao lao 0 ((W3.alloc (.cells (bhdr (b + 5) N 0) 71)).alloc (.cells #[.slice (some ⟨b + 3, 0, none⟩) N N] 108))) := by
    have hbb := below_up (below_alloc W3 (.cells (bhdr (b + 5) N 0) 71)) (below_alloc _ (.cells #[.slice (some ⟨b + 3, 0, none⟩) N N] 108))
    refine ⟨HW3.out.1.trans (hbb.mono (by omega)), by simp [hs3], HW3.out.2.2.1.below hbb, HW3.out.2.2.2.1.below hbb, HW3.out.2.2.2.2.below hbb, ?_, ?_, fun i hi => by omega⟩
    · have h := Row.new (W3.alloc (.cells (bhdr (b + 5) N 0) 71)) 108 #[.slice (some ⟨b + 3, 0, none⟩) N N]
      simp only [World.size_alloc, hs3] at h
      exact h
    · have h := Row.new W3 71 (bhdr (b + 5) N 0)
      rw [hs3] at h
      exact h.below (below_alloc _ _)
  clear hs3 HW3 hmk
  go_loopw [21] (fun i wr => ∃ k : Nat, k ≤ N ∧ i = .int .i64 k ∧ Hid (OW1 w b v A c xs N fo fao lao k wr)) (fun i _ => N - (intOf i).toNat)
  case atStart => exact ⟨0, by omega, rfl, HW5.out⟩
  case round =>
    obtain ⟨k, hk, rfl, HC⟩ := hrel
    obtain ⟨r1, hsz, r2, r3, r4, r5, r6, r7⟩ := HC.out
    by_cases hlt : k < N
    · have HBB : Hid (∀ X : World, (∀ c, c < b + 5 → c ≠ b + 3 → X.heap[c]? = wr.heap[c]?) → X.cell? ⟨b + 4, 0, none⟩ = some (.slice (some ⟨b + 3, 0, none⟩) N N) ∧ X.cell? ⟨b + 1, 0, none⟩ = some (.int .i64 (N : Int))) := fun X hX =>
        ⟨Row.cell ((hX _ (by omega) (by omega)).trans r5) 0, Row.cell ((hX _ (by omega) (by omega)).trans r3) 0⟩
      obtain ⟨q, hq⟩ := bhdr_any (S := b + 5) (N := N) (k := k) hlt
      have q0 := (r6.cell k).trans hq
      have q1 := r6.frozen k
      have HKEEP := Lib.hid (HBB.out wr (fun _ _ _ => rfl))
      have hb1 := below_alloc wr (.cells (bcells N (fun _ => false)) 4)
      have HK2 := Lib.hid (HBB.out (wr.alloc (.cells (bcells N (fun _ => false)) 4)) (fun c h1 h2 => hb1.block c (by omega)))
      have hb2' := below_alloc (wr.setCell ⟨b + 3, k, none⟩ (.slice (some ⟨wr.heap.size, 0, none⟩) N N)) (.cells (bcells N (fun _ => false)) 4)
      have HK3 := Lib.hid (HBB.out ((wr.setCell ⟨b + 3, k, none⟩ (.slice (some ⟨wr.heap.size, 0, none⟩) N N)).alloc (.cells (bcells N (fun _ => false)) 4)) (fun c h1 h2 => (hb2'.block c (by simp [World.setCell]; omega)).trans (Below.heap_setCell _ ⟨b + 3, k, none⟩ _ c h2)))
      have HR := Lib.hid (And.intro r1 (And.intro hsz (And.intro r2 (And.intro r3 (And.intro r4 (And.intro r5 (And.intro r6 r7)))))))
      have hl3 : b + 3 < wr.heap.size := by omega
      have hl4 : b + 4 < wr.heap.size := by omega
      have hl1 : b + 1 < wr.heap.size := by omega
      have hto : ((N : Int)).toNat = N := by simp
      have hki : (k : Int) < (N : Int) := by omega
      clear r1 hsz r2 r3 r4 r5 r6 r7 hq hb1 hb2'
      go_wp2
      go_region_held3 (fun X => X.cell? ⟨b + 4, 0, none⟩ = some (.slice (some ⟨b + 3, 0, none⟩) N N) ∧ X.cell? ⟨b + 1, 0, none⟩ = some (.int .i64 (N : Int))) (first | exact HKEEP.out | exact HK2.out | exact HK3.out) (fail)
      go_wp2
      go_roundw
      case rel =>
        obtain ⟨r1, hsz, r2, r3, r4, r5, r6, r7⟩ := HR.out
        refine ⟨k + 1, by omega, by go_num, ?_⟩
        rw [hsz]
        have hss : (wr.setCell ⟨b + 3, k, none⟩ (.slice (some ⟨b + 5 + k, 0, none⟩) N N)).heap.size = b + 5 + k := by simp [World.setCell]; exact hsz
        have hba := below_alloc (wr.setCell ⟨b + 3, k, none⟩ (.slice (some ⟨b + 5 + k, 0, none⟩) N N)) (.cells (bcells N (fun _ => false)) 4)
        have far : ∀ {g : Nat} {t : TypeId} {cur : Array Value}, Row wr g t cur → g ≠ b + 3 → Row ((wr.setCell ⟨b + 3, k, none⟩ (.slice (some ⟨b + 5 + k, 0, none⟩) N N)).alloc (.cells (bcells N (fun _ => false)) 4)) g t cur := fun h hne => (h.far (p := ⟨b + 3, k, none⟩) (show b + 3 ≠ _ from Ne.symm hne) _).below hba
        refine ⟨((r1.setCell (p := ⟨b + 3, k, none⟩) (show b ≤ b + 3 by omega) _).trans (hba.mono (by omega))).drew, ?_, far r2 (by omega), far r3 (by omega), far r4 (by omega), far r5 (by omega), ?_, fun i hi => ?_⟩
        · show ((wr.setCell ⟨b + 3, k, none⟩ (.slice (some ⟨b + 5 + k, 0, none⟩) N N)).alloc (.cells (bcells N (fun _ => false)) 4)).heap.size = _
          rw [World.size_alloc, hss]; omega
        · have h := (r6.set k (.slice (some ⟨b + 5 + k, 0, none⟩) N N)).below hba
          rw [bhdr_set] at h
          exact h
        · by_cases e : i = k
          · subst e
            have h := Row.new (wr.setCell ⟨b + 3, i, none⟩ (.slice (some ⟨b + 5 + i, 0, none⟩) N N)) 4 (bcells N (fun _ => false))
            rw [hss] at h
            exact h
          · exact far (r7 i (by omega)) (by omega)
      case measure => simp [intOf]; omega
    · obtain rfl : k = N := by omega
      have HR := Lib.hid (And.intro r1 (And.intro hsz (And.intro r2 (And.intro r3 (And.intro r4 (And.intro r5 (And.intro r6 r7)))))))
      obtain ⟨c0, c1⟩ := r2.c2
      have hl0 := r2.lt
      have HAW := Lib.hid (HA.out.below (by rw [hb]; exact r1))
      clear r1 r2 r3 r4 r5 r6 r7
      go_wp2_with fail
      refine (autos_any v A c xs 104 #[] #[.pointer (some ⟨b + 1, 0, none⟩), .pointer (some ⟨b + 4, 0, none⟩), .pointer (some ⟨b + 2, 0, none⟩)] (fun _ => true) (OInv w b k fo fao lao act) _ HAW.out hl ?_ (fun x y h1 h2 _ => ?_) (fun k1 k2 sb gx gy h1 h2 h3 _ _ => orbCl_any sb _ gx gy b k fo fao lao act _ _ w hb hN (by have := (isSysB_iff.1 k1).1; omega) eg (HACT.out k1 k2) (fun W L i B hbw => HOF.out k1 k2 W L i B (by rw [hb]; exact hbw)) (by omega) (by omega) (by omega))).mono ?_
      · obtain ⟨r1, _, r2, r3, r4, r5, r6, r7⟩ := HR.out
        exact ⟨r3, r5, r4, r6, fun i hi => (r7 i hi).ext fun j _ => by simp, r1⟩
      · obtain ⟨s1, s2, s3, s4, s5, s6⟩ := h1
        exact ⟨(h2.block _ (by omega)).trans s1, (h2.block _ (by omega)).trans s2, (h2.block _ (by omega)).trans s3, (h2.block _ (by omega)).trans s4, fun i hi => (h2.block _ (by omega)).trans (s5 i hi), s6.trans (h2.mono (by omega))⟩
      rintro e w3 ⟨rfl, hI, hz⟩
      have HI := Lib.hid hI
      have hz3 := hz
      clear hI hz
      by_cases hc : fcode v xs = 0
      · have hAE := HAE.out hc
        have HRFL : Hid (∀ i, i < k → relB act (autL (fun _ => true) v xs) i i = true) := by rw [hAE]; exact HRF.out hc
        have HN2 : Hid (R = (orbL (relB act (autL (fun _ => true) v xs)) k k, 0)) := by unfold Hid; rw [HN0.out, if_pos hc]
        have HI2 : Hid (Row w3 (b + 4) 108 #[.slice (some ⟨b + 3, 0, none⟩) k k] ∧ Row w3 (b + 3) 71 (bhdr (b + 5) k k) ∧ (∀ i, i < k → Vb w3 (b + 5 + i) k (relB act (autL (fun _ => true) v xs) i)) ∧ Below b w w3) := ⟨HI.out.2.1, HI.out.2.2.2.1, HI.out.2.2.2.2.1, HI.out.2.2.2.2.2⟩
        rw [hc]
        clear hAE hc HI HAE HRF HN0 HR
        generalize relB act (autL (fun _ => true) v xs) = Rl at *
        have c4 := HI2.out.1.cell 0
        obtain ⟨li0, hli, hli0, hli1, hli2⟩ := info_parts infoList'
        obtain ⟨ni0, hni, hni0, hni1, hni2⟩ := info_parts infoInt'
        have HLB : Hid (∀ j, (orbL Rl k j).length ≤ j) := orbL_len Rl k
        have HLS : Hid (∀ j, orbL Rl k (j + 1) = orbL Rl k j ++ (if lessB Rl j = true then [] else [relL Rl k j])) := fun j => rfl
        have hl4 : b + 4 < w3.heap.size := by omega
        go_wp2
        clear c4
        go_loopw [11, 38] (fun u i wr => ∃ j : Nat, j ≤ k ∧ i = .int .i64 j ∧ Hid (Below b w wr ∧ LLd wr b u (orbL Rl k j) ∧ Row wr (b + 3) 71 (bhdr (b + 5) k k) ∧ (∀ i, i < k → Vb wr (b + 5 + i) k (Rl i)))) (fun _ i _ => k - (intOf i).toNat)
        case atStart => exact ⟨0, by omega, rfl, HI2.out.2.2.2, LLd.nil _ _, HI2.out.2.1, HI2.out.2.2.1⟩
        case round =>
          obtain ⟨j, hj, rfl, HC⟩ := hrel
          by_cases hlt : j < k
          · have q0 := (HC.out.2.2.1.cell j).trans (bhdr_get hlt hlt)
            have hl3 := HC.out.2.2.1.lt
            have HVJ := Lib.hid (HC.out.2.2.2 j hlt)
            have HRJ := HRFL.out j hlt
            have HSj := Lib.hid (HLS.out j)
            have hlj := HLB.out j
            obtain ⟨A11, d11, hu⟩ := HC.out.2.1.slice
            subst hu
            go_wp2_with fail
            refine (idxB_any (b + 5 + j) k (Rl j) _ HVJ.out (by omega)).mono ?_
            rintro e w' ⟨r, rfl, hr, rfl⟩
            have hd : decide (r < (j : Int)) = lessB Rl j := by
              rw [Bool.eq_iff_iff, decide_eq_true_eq, lessB_iff]
              rcases hr with ⟨i, hi, h1, h2, rfl⟩ | ⟨h1, rfl⟩
              · constructor
                · intro h; exact ⟨i, by omega, h1⟩
                · rintro ⟨q, hq, h3⟩
                  have : ¬ q < i := fun h => by rw [h2 q h] at h3; cases h3
                  omega
              · have := h1 j hlt
                rw [HRJ] at this; cases this
            clear hr HRJ q0
            cases hb3 : lessB Rl j
            · rw [hb3] at hd HSj
              have HSJ2 : Hid (orbL Rl k (j + 1) = orbL Rl k j ++ [relL Rl k j]) := HSj.out
              clear hb3
              go_wp2
              have HLE := Lib.hid (LLd.toE HC.out.2.1)
              obtain ⟨wo, rfl⟩ : ∃ wo : World, wo = wr := ⟨_, rfl⟩
              go_loopw [14, 49] (fun un i wq => ∃ m : Nat, m ≤ k ∧ i = .int .i64 m ∧ Hid (Below wo.heap.size wo wq ∧ Ro wq wo.heap.size un (relL Rl m j))) (fun _ i _ => k - (intOf i).toNat)
              case atStart => exact ⟨0, by omega, rfl, Below.refl _ _, World.ownsRow_nil _ _ _ _⟩
              case round =>
                obtain ⟨m, hm, rfl, HD⟩ := hrel
                by_cases hlt2 : m < k
                · have HVm := Lib.hid (HVJ.out.below HD.out.1)
                  have p0 := HVm.out.cell hlt2
                  have hvl := HVm.out.lt
                  have HRm := Lib.hid (relL_succ Rl m j)
                  have hlm := relL_len Rl m j
                  cases hrb : Rl j m
                  · rw [hrb] at p0
                    go_wp2
                    go_roundw
                    case rel => exact ⟨m + 1, by omega, by go_num, HD.out.1, by rw [HRm.out, hrb, if_neg (by simp), List.append_nil]; exact HD.out.2⟩
                    case measure => simp [intOf]; omega
                  · rw [hrb] at p0
                    have HRB := Lib.hid hrb
                    have HO : Hid (wr.ownsRow wo.heap.size 2 1 u14 (relL Rl m j).length ((relL Rl m j).map (Value.int .i64))) := HD.out.2
                    have HBW := Lib.hid HD.out.1
                    clear hrb
                    have hbw_ := HBW.out.size; go_wp2_with (at_builtin; refine wpList_append_own _ rfl _ _ 39 rfl (wo).heap.size 2 ni0 (.int .i64 0) 1 8 Try.underlying39 hni hni0 hni1 hni2 rfl (by decide) _ _ _ rfl (HO.out.alloc _) ⟨(wr).heap.size, 0, none⟩ 1 1 [.int .i64 (m)] rfl rfl (cells_new _ _ _) (by simp [Value.oneCell']) (by unfold maxLen; omega) (by omega) (by simp; omega) ?_; intro v2 w2 hown2 hg2 _); have HO2 := Lib.hid hown2; have HB3 : Hid (Below (wo).heap.size (wo) w2) := (HBW.out.alloc HBW.out.size _).grown hg2 (by simp; omega) (own_block HO.out); clear hown2 hg2 hbw_
                    go_wp2
                    go_roundw
                    case rel => exact ⟨m + 1, by omega, by go_num, HB3.out, by rw [HRm.out, if_pos HRB.out]; have h2 := HO2.out; unfold Ro; simpa using h2⟩
                    case measure => simp [intOf]; omega
                · obtain rfl : m = k := by omega
                  obtain ⟨E, f, hun⟩ := own_slice HD.out.2
                  subst hun
                  obtain ⟨vs, ho, hvl, hpush⟩ := HC.out.2.1.vs
                  have HOO := Lib.hid ho
                  have HPUSH := Lib.hid (hpush wr)
                  have HOW := Lib.hid (own_below ho HD.out.1)
                  have HFR : Hid (∀ b, (Value.slice E (relL Rl m j).length f).ownBlock = some b → wo.heap.size ≤ b) := fun b e => (HD.out.2.lt b e).1
                  have HRO : Hid (Ro wr b (.slice E (relL Rl m j).length f) (relL Rl m j)) := own_base HD.out.2 (by have := HC.out.1.size; omega)
                  have hbw := HC.out.1.size
                  have hbw2 := HD.out.1.size
                  clear ho hpush
                  go_wp2_with (at_builtin; go_loud (refine wpList_append_own_at _ rfl _ _ 46 rfl b 39 li0 (.slice none 0 0) 1 24 Try.underlying46 hli hli0 hli1 hli2 rfl (by decide) _ _ vs rfl (HOW.out.alloc _) ⟨wr.heap.size, 0, none⟩ 1 1 [.slice E (relL Rl m j).length f] rfl rfl (cells_newH (cw := wr) (by simp)) (by simp [Value.oneCell']) (by unfold maxLen; omega) (by omega) (by simp; omega) ?_); intro v2 w2 hown2 hg2 _ hat2)
                  have HL2 : Hid (LLd w2 b v2 (orbL Rl m j ++ [relL Rl m j])) := HPUSH.out w2 _ v2 _ HD.out.1 HRO.out HFR.out _ (below_alloc _ _) hg2 hown2 hat2
                  have HX : Hid (Below b w w2 ∧ Row w2 (b + 3) 71 (bhdr (b + 5) m m) ∧ (∀ i, i < m → Vb w2 (b + 5 + i) m (Rl i))) := by
                    have hba := below_alloc wr (.cells #[.slice E (relL Rl m j).length f] 39)
                    have hb0 := below_up HD.out.1 hba
                    refine ⟨((HC.out.1.trans (hb0.mono (by omega))).grown hg2 (by simp; omega) (own_block HOO.out)), ?_, fun i hi => ?_⟩
                    · exact (HC.out.2.2.1.below hb0).grown hg2 (own_typed HOO.out ⟨_, HC.out.2.2.1⟩ (by decide))
                    · exact ((HC.out.2.2.2 i hi).below hb0).grown hg2 (own_typed HOO.out ⟨_, HC.out.2.2.2 i hi⟩ (by decide))
                  clear hown2 hg2 hat2
                  go_wp2
                  go_roundw
                  case rel => exact ⟨j + 1, by omega, by go_num, HX.out.1, by rw [HSJ2.out]; exact HL2.out, HX.out.2.1, HX.out.2.2⟩
                  case measure => simp [intOf]; omega
            · rw [hb3] at hd HSj
              have HSJ2 : Hid (orbL Rl k (j + 1) = orbL Rl k j ++ []) := HSj.out
              clear hb3
              go_wp2
              go_roundw
              case rel => exact ⟨j + 1, by omega, by go_num, HC.out.1, by rw [HSJ2.out, List.append_nil]; exact HC.out.2.1, HC.out.2.2.1, HC.out.2.2.2⟩
              case measure => simp [intOf]; omega
          · obtain rfl : j = k := by omega
            have HBW : Hid (Below w.heap.size w wr) := by unfold Hid; rw [hb]; exact HC.out.1
            have HLW : Hid (LLd wr w.heap.size u11 (orbL Rl j j)) := by unfold Hid; rw [hb]; exact HC.out.2.1
            go_wp2
            go_ret2
            exact LPD.mk HLW.out (by rw [HN2.out]) (by rw [HN2.out]) HBW.out
      · have hne : (fcode v xs != 0) = true := by simpa using hc
        have HN2 : Hid (R = ([], fcode v xs)) := by unfold Hid; rw [HN0.out, if_neg hc]
        have HBW : Hid (Below w.heap.size w w3) := by unfold Hid; rw [hb]; exact HI.out.2.2.2.2.2
        clear hc
        go_wp2
        go_ret2
        exact LPD.nil (by rw [HN2.out]) (by rw [HN2.out]) HBW.out

end Go.Proofs.Ytgbkonnmjmlalaa

/- What the reference's loops over orbits hold; conditions: stated in each. -/
namespace Go.Proofs.Ytgbkonnmjmlalaa
open Go.RowKit
set_option maxRecDepth 100000
set_option linter.unusedSimpArgs false
set_option linter.unusedVariables false

/-- the world from which the loop starts: met block gm, out block z -/
structure P0S (w_ w3 wS : World) (base gm z n : Nat) : Prop where
  zone : ∀ k, base ≤ k → k < w3.heap.size → wS.heap[k]? = w3.heap[k]?
  gma : gm < base ∨ w3.heap.size ≤ gm
  za : z < base ∨ w3.heap.size ≤ z
  vb : Vb wS gm n (fun _ => false)
  row : Row wS z 39 #[]
  bw : Below w_.heap.size w_ wS
  gl : w_.heap.size ≤ gm
  zl : w_.heap.size ≤ z
  sz : w3.heap.size ≤ wS.heap.size

theorem p0s_1 {w_ w3 : World} (base n : Nat) (hb : Below w_.heap.size w_ w3) : P0S w_ w3 ((w3.alloc (.cells (bcells n (fun _ => false)) 4)).alloc (.cells #[] 39)) base w3.heap.size (w3.heap.size + 1) n := by
  have h1 := below_alloc w3 (.cells (bcells n (fun _ => false)) 4)
  have h2 := below_alloc (w3.alloc (.cells (bcells n (fun _ => false)) 4)) (.cells #[] 39)
  have h3 := below_up h1 h2
  have hz := hb.size
  refine ⟨fun k _ hk => h3.block k hk, .inr (Nat.le_refl _), .inr (by omega), (Vb.new w3 n _).below h2, ?_, below_up hb h3, by omega, by omega, h3.size⟩
  have h := Row.new (w3.alloc (.cells (bcells n (fun _ => false)) 4)) 39 #[]
  rw [World.size_alloc] at h
  exact h
theorem p0s_2 {w_ w3 : World} (base n : Nat) (hb : Below w_.heap.size w_ w3) : P0S w_ w3 ((w3.alloc (.cells #[] 39)).alloc (.cells (bcells n (fun _ => false)) 4)) base (w3.heap.size + 1) w3.heap.size n := by
  have h1 := below_alloc w3 (.cells #[] 39)
  have h2 := below_alloc (w3.alloc (.cells #[] 39)) (.cells (bcells n (fun _ => false)) 4)
  have h3 := below_up h1 h2
  have hz := hb.size
  refine ⟨fun k _ hk => h3.block k hk, .inr (by omega), .inr (Nat.le_refl _), ?_, (Row.new w3 39 #[]).below h2, below_up hb h3, by omega, by omega, h3.size⟩
  have h := Vb.new (w3.alloc (.cells #[] 39)) n (fun _ => false)
  rw [World.size_alloc] at h
  exact h
theorem p0s_3 {w_ w3 : World} (n : Nat) (hb : Below w_.heap.size w_ w3) (h : Below (w_.alloc (.cells (bcells n (fun _ => false)) 4)).drew.heap.size (w_.alloc (.cells (bcells n (fun _ => false)) 4)).drew w3) : P0S w_ w3 (w3.alloc (.cells #[] 39)) (w_.alloc (.cells (bcells n (fun _ => false)) 4)).drew.heap.size w_.heap.size w3.heap.size n := by
  have h2 := below_alloc w3 (.cells #[] 39)
  have hz := hb.size
  have hv : Vb (w_.alloc (.cells (bcells n (fun _ => false)) 4)).drew w_.heap.size n (fun _ => false) := Vb.new w_ n _
  exact ⟨fun k _ hk => h2.block k hk, .inl (by simp), .inr (Nat.le_refl _), (hv.below h).below h2, Row.new w3 39 #[], below_up hb h2, Nat.le_refl _, hz, h2.size⟩
theorem p0s_5 {w_ w3 : World} (n : Nat) (hb : Below w_.heap.size w_ w3) (h : Below (w_.alloc (.cells #[] 39)).drew.heap.size (w_.alloc (.cells #[] 39)).drew w3) : P0S w_ w3 (w3.alloc (.cells (bcells n (fun _ => false)) 4)) (w_.alloc (.cells #[] 39)).drew.heap.size w3.heap.size w_.heap.size n := by
  have h2 := below_alloc w3 (.cells (bcells n (fun _ => false)) 4)
  have hz := hb.size
  have hv : Row (w_.alloc (.cells #[] 39)).drew w_.heap.size 39 #[] := Row.new w_ _ _
  exact ⟨fun k _ hk => h2.block k hk, .inr (Nat.le_refl _), .inl (by simp), Vb.new w3 n _, (hv.below h).below h2, below_up hb h2, hz, Nat.le_refl _, h2.size⟩
theorem p0s_4 {w_ w3 : World} (n : Nat) (hb : Below w_.heap.size w_ w3) (h : Below ((w_.alloc (.cells (bcells n (fun _ => false)) 4)).alloc (.cells #[] 39)).drew.heap.size ((w_.alloc (.cells (bcells n (fun _ => false)) 4)).alloc (.cells #[] 39)).drew w3) : P0S w_ w3 w3 ((w_.alloc (.cells (bcells n (fun _ => false)) 4)).alloc (.cells #[] 39)).drew.heap.size w_.heap.size (w_.heap.size + 1) n := by
  have h2 := below_alloc (w_.alloc (.cells (bcells n (fun _ => false)) 4)) (.cells #[] 39)
  have hv : Vb ((w_.alloc (.cells (bcells n (fun _ => false)) 4)).alloc (.cells #[] 39)).drew w_.heap.size n (fun _ => false) := (Vb.new w_ n _).below h2.drew
  have hr : Row ((w_.alloc (.cells (bcells n (fun _ => false)) 4)).alloc (.cells #[] 39)).drew (w_.heap.size + 1) 39 #[] := by
    have h := Row.new (w_.alloc (.cells (bcells n (fun _ => false)) 4)) 39 #[]
    rw [World.size_alloc] at h
    exact h
  exact ⟨fun k _ hk => rfl, .inl (by simp; omega), .inl (by simp), hv.below h, hr.below h, hb, Nat.le_refl _, by omega, Nat.le_refl _⟩
theorem p0s_6 {w_ w3 : World} (n : Nat) (hb : Below w_.heap.size w_ w3) (h : Below ((w_.alloc (.cells #[] 39)).alloc (.cells (bcells n (fun _ => false)) 4)).drew.heap.size ((w_.alloc (.cells #[] 39)).alloc (.cells (bcells n (fun _ => false)) 4)).drew w3) : P0S w_ w3 w3 ((w_.alloc (.cells #[] 39)).alloc (.cells (bcells n (fun _ => false)) 4)).drew.heap.size (w_.heap.size + 1) w_.heap.size n := by
  have h2 := below_alloc (w_.alloc (.cells #[] 39)) (.cells (bcells n (fun _ => false)) 4)
  have hr : Row ((w_.alloc (.cells #[] 39)).alloc (.cells (bcells n (fun _ => false)) 4)).drew w_.heap.size 39 #[] := (Row.new w_ 39 #[]).below h2.drew
  have hv : Vb ((w_.alloc (.cells #[] 39)).alloc (.cells (bcells n (fun _ => false)) 4)).drew (w_.heap.size + 1) n (fun _ => false) := by
    have h := Vb.new (w_.alloc (.cells #[] 39)) n (fun _ => false)
    rw [World.size_alloc] at h
    exact h
  exact ⟨fun k _ hk => rfl, .inl (by simp), .inl (by simp; omega), hv.below h, hr.below h, hb, by omega, Nat.le_refl _, Nat.le_refl _⟩

/-- before the k-th round -/
structure OP (w_ w3 : World) (base gm N : Nat) (R : Nat → Nat → Bool) (k : Nat) (u : Value) (wr : World) : Prop where
  zone : ∀ q, base ≤ q → q < w3.heap.size → wr.heap[q]? = w3.heap[q]?
  ua : ∀ b, u.ownBlock = some b → b < base ∨ w3.heap.size ≤ b
  ll : LLd wr w_.heap.size u (orbL R N k)
  vb : Vb wr gm N (metB R k)
  bw : Below w_.heap.size w_ wr
  sz : w3.heap.size ≤ wr.heap.size
theorem P0S.op {w_ w3 wS : World} {base gm z N : Nat} (h : P0S w_ w3 wS base gm z N) (R : Nat → Nat → Bool) : OP w_ w3 base gm N R 0 (.slice (some ⟨z, 0, none⟩) 0 0) wS := by
  refine ⟨h.zone, fun b e => ?_, ⟨fun _ => .slice none 0 0, ⟨by simp [orbL], .inr ⟨z, 0, #[], rfl, h.zl, h.row, by simp [orbL], by unfold maxLen; omega, by simp, by simp [orbL]⟩⟩, fun k hk => by simp [orbL] at hk, fun j k hj => by simp [orbL] at hj⟩, h.vb.ext fun i _ => ?_, h.bw, h.sz⟩
  · simp only [Value.ownBlock, Option.some.injEq] at e; subst e; exact h.za
  · cases e : metB R 0 i
    · rfl
    · obtain ⟨p, hp, _⟩ := metB_iff.1 e; omega
theorem OP.skip {w_ w3 wr : World} {base gm N k : Nat} {R : Nat → Nat → Bool} {u : Value} (h : OP w_ w3 base gm N R k u wr) (he : Eqv R N) (hk : k < N) (hl : lessB R k = true) : OP w_ w3 base gm N R (k + 1) u wr := by
  refine ⟨h.zone, h.ua, ?_, h.vb.ext fun q hq => ?_, h.bw, h.sz⟩
  · rw [orbL, if_pos hl, List.append_nil]; exact h.ll
  · rw [met_step he hk hq, hl]; simp

/-- within the k-th round, before the j-th number is asked for -/
structure IB (wo wq : World) (gm gi N : Nat) (R : Nat → Nat → Bool) (k j : Nat) (un : Value) : Prop where
  hg : wo.grownBy wq (some gm)
  ro : Ro wq wo.heap.size un (relL R j k)
  vg : Vb wq gi N (R k)
  vm : Vb wq gm N (fun q => metB R k q || (decide (q < j) && R k q))
theorem relL_zero (R : Nat → Nat → Bool) (k : Nat) : relL R 0 k = [] := rfl
theorem IB.start {wo wq : World} {gm gi N k : Nat} {R : Nat → Nat → Bool} {un : Value} (hb : Below wo.heap.size wo wq) (ro : Ro wq wo.heap.size un []) (vg : Vb wq gi N (R k)) (vm : Vb wo gm N (metB R k)) : IB wo wq gm gi N R k 0 un :=
  ⟨grown_below hb _, ro, vg, (vm.below hb).ext fun i _ => by simp⟩
theorem IB.skip {wo wq : World} {gm gi N k j : Nat} {R : Nat → Nat → Bool} {un : Value} (h : IB wo wq gm gi N R k j un) (hr : R k j = false) : IB wo wq gm gi N R k (j + 1) un := by
  refine ⟨h.hg, ?_, h.vg, h.vm.ext fun q _ => ?_⟩
  · rw [relL_succ, hr]; simpa using h.ro
  · by_cases e : q = j
    · subst e; simp [hr]
    · have : (q < j + 1) ↔ (q < j) := by omega
      simp [this]
theorem IB.own {wo wq : World} {gm gi N k j : Nat} {R : Nat → Nat → Bool} {un : Value} (h : IB wo wq gm gi N R k j un) (i : Nat) (v : Value) : (wq.setCell ⟨gm, i, none⟩ v).ownsRow wo.heap.size 2 1 un (relL R j k).length ((relL R j k).map (Value.int .i64)) :=
  World.ownsRow.kept h.ro (grown_set (grown_refl _ _) _ _) (.inr (own_typed h.ro ⟨_, h.vm⟩ (by decide)))
theorem IB.next {wo wq w2 : World} {gm gi N k j : Nat} {R : Nat → Nat → Bool} {un v2 : Value} {o : Obj} (h : IB wo wq gm gi N R k j un) (hr : R k j = true) (hj : j < N) (hne : gi ≠ gm) (hg2 : ((wq.setCell ⟨gm, j, none⟩ (.bool true)).alloc o).grownBy w2 un.ownBlock)
    (hown : w2.ownsRow wo.heap.size 2 1 v2 ((relL R j k).length + 1) ((relL R j k).map (Value.int .i64) ++ [.int .i64 (j : Int)])) : IB wo w2 gm gi N R k (j + 1) v2 := by
  have hba := below_alloc (wq.setCell ⟨gm, j, none⟩ (.bool true)) o
  have hvm : Vb (wq.setCell ⟨gm, j, none⟩ (.bool true)) gm N _ := h.vm.set j true
  have hvg : Vb (wq.setCell ⟨gm, j, none⟩ (.bool true)) gi N (R k) := h.vg.far (p := ⟨gm, j, none⟩) (Ne.symm hne) _
  have ho := own_below (h.own j (.bool true)) hba
  refine ⟨?_, ?_, (hvg.below hba).grown hg2 (own_typed (h.own j (.bool true)) ⟨_, hvg⟩ (by decide)), ((hvm.below hba).grown hg2 (own_typed (h.own j (.bool true)) ⟨_, hvm⟩ (by decide))).ext fun q _ => ?_⟩
  · have hx := grown_trans (grown_set h.hg j (.bool true)) (grown_below hba (some gm))
    cases e : un.ownBlock with
    | none =>
      rw [e] at hg2
      exact grown_trans hx ⟨hg2.os, hg2.tape, hg2.output, hg2.size, fun i hi _ => hg2.block i hi (by simp)⟩
    | some b =>
      rw [e] at hg2
      exact grown_join hx hg2 (.inr ⟨b, rfl, (h.ro.lt b e).1⟩)
  · rw [relL_succ, hr]; unfold Ro; simpa using hown
  · unfold updA
    by_cases e : q = j
    · subst e; simp [hr]
    · have : (q < j + 1) ↔ (q < j) := by omega
      simp [e, this]
/-- the round's row is one more -/
theorem OP.next {w_ w3 wo wq : World} {base gm gi N k : Nat} {R : Nat → Nat → Bool} {u r : Value} (h : OP w_ w3 base gm N R k u wo) (he : Eqv R N) (hk : k < N) (hl : lessB R k = false) (gma : gm < base ∨ w3.heap.size ≤ gm) (gl : w_.heap.size ≤ gm) (hi : IB wo wq gm gi N R k N r) :
    ∃ vs, wq.ownsRow w_.heap.size 39 1 u (orbL R N k).length vs ∧ ∀ (o : Obj) (w2 : World) (v2 : Value), (wq.alloc o).grownBy w2 u.ownBlock → w2.ownsRow w_.heap.size 39 1 v2 ((orbL R N k).length + 1) (vs ++ [r]) → (v2.ownBlock = u.ownBlock ∨ v2.ownBlock = some (wq.alloc o).heap.size) → OP w_ w3 base gm N R (k + 1) v2 w2 := by
  have hsz := hi.hg.size
  have hwz := h.bw.size
  have hE := (h.ll.toE.kept hi.hg ⟨_, h.vb⟩ (by decide) (by decide))
  obtain ⟨vs, ho, hvl, hpush⟩ := hE.push (r := r) (xs := relL R N k) (own_base hi.ro hwz) (fun b e => (hi.ro.lt b e).1)
  refine ⟨vs, ho, fun o w2 v2 hg2 hown hat => ?_⟩
  have hba := below_alloc wq o
  have hbq : Below w_.heap.size w_ wq := h.bw.grown hi.hg hwz (fun k e => by simp only [Option.some.injEq] at e; subst e; exact gl)
  refine ⟨fun q h1 h2 => ?_, fun b e => ?_, ?_, ?_, (hbq.trans (hba.mono (by omega))).grown hg2 (by rw [World.size_alloc]; omega) (own_block ho), ?_⟩
  · rw [← h.zone q h1 h2, ← hi.hg.block q (by have := h.sz; omega) (fun e => by simp only [Option.some.injEq] at e; omega), ← hba.block q (by have := h.sz; omega)]
    exact hg2.block q (by rw [World.size_alloc]; have := h.sz; omega) (fun e => by have := h.ua q e.symm; omega)
  · rcases hat with e2 | e2
    · exact h.ua b (by rw [← e2]; exact e)
    · rw [e2, World.size_alloc] at e
      simp only [Option.some.injEq] at e
      have := h.sz
      right; omega
  · rw [orbL, hl]
    exact hpush _ w2 v2 hba hg2 hown hat
  · refine ((hi.vm.below hba).grown hg2 (own_typed ho ⟨_, hi.vm⟩ (by decide))).ext fun q hq => ?_
    rw [met_step he hk hq, hl]; simp [hq]
  · have h1 := hg2.size
    rw [World.size_alloc] at h1
    have := h.sz
    omega

end Go.Proofs.Ytgbkonnmjmlalaa

/- Contracts of the orbits of points, of the reference and of the program; conditions: stated in each. -/
namespace Go.Proofs.Ytgbkonnmjmlalaa
open Go.RowKit
set_option maxHeartbeats 1000000
set_option maxRecDepth 100000
set_option linter.unusedSimpArgs false
set_option linter.unusedVariables false

theorem relB_iff {act : List Int → Nat → Nat} {Ls : List (List Int)} {i j : Nat} : relB act Ls i j = true ↔ ∃ L ∈ Ls, act L i = j := by unfold relB; simp
theorem relB_take {act : List Int → Nat → Nat} {Ls : List (List Int)} {k : Nat} (hk : k < Ls.length) (i j : Nat) : relB act (Ls.take (k + 1)) i j = (relB act (Ls.take k) i j || (act (nthLL Ls k) i == j)) := by
  unfold relB nthLL
  rw [List.take_succ_eq_append_getElem hk, List.any_append, List.getD_eq_getElem?_getD, List.getElem?_eq_getElem hk]
  simp
theorem aut_of {n : Nat} {xs : List Blk} (hs : isSys n xs) (hf : fullB n xs = true) {M : List Int} : M ∈ leadL n xs xs ↔ Aut n (thN xs) M := by
  rw [leadL, lead_iff (sts_of hs hf) (sts_of hs hf)]
  exact ⟨fun h => ⟨h.1, h.2⟩, fun h => ⟨h.v, h.l⟩⟩
theorem pt_eqv {n : Nat} {xs : List Blk} (hs : isSys n xs) (hf : fullB n xs = true) : Eqv (relB im (leadL n xs xs)) n := by
  have h := sts_of hs hf
  refine ⟨fun p hp => relB_iff.2 ⟨_, (aut_of hs hf).2 (aut_id h), mapL_im _ hp⟩, fun p q hp hq hR => ?_, fun p q r hp hq hr hR hR' => ?_⟩
  · obtain ⟨M, hM, e⟩ := relB_iff.1 hR
    have hA := (aut_of hs hf).1 hM
    refine relB_iff.2 ⟨_, (aut_of hs hf).2 (aut_inv h hA), ?_⟩
    rw [mapL_im _ hq]
    obtain ⟨r1, e1⟩ := invF_is hA.v hA.l hq
    have := hA.l
    exact hA.v.inj _ _ (by omega) (by omega) (by rw [e1, e])
  · obtain ⟨M, hM, e⟩ := relB_iff.1 hR
    obtain ⟨K, hK, e'⟩ := relB_iff.1 hR'
    refine relB_iff.2 ⟨_, (aut_of hs hf).2 (aut_comp h ((aut_of hs hf).1 hK) ((aut_of hs hf).1 hM)), ?_⟩
    rw [mapL_im _ hp, e, e']
noncomputable def ptoR (v : Int) (xs : List Blk) : List (List Int) × Int := orbR v xs im v.toNat
theorem ptoR_bd (v : Int) (xs : List Blk) : (ptoR v xs).1.length ≤ 1000000 ∧ (∀ k, k < (ptoR v xs).1.length → (nthLL (ptoR v xs).1 k).length ≤ 1073741824) ∧ offL (ptoR v xs).1 (ptoR v xs).1.length ≤ 100000000 := by
  unfold ptoR orbR
  split
  · rename_i h
    have hv := (isSysB_iff.1 (fcode_zero h).1).1
    refine lists_bd (m := 15) (n := 15) ?_ (fun M hM => ?_) (by omega) (by omega)
    · have := orbL_len (relB im (leadL v.toNat xs xs)) v.toNat v.toNat
      show (orbL _ _ _).length ≤ 15
      omega
    · obtain ⟨p, _, rfl⟩ := orbL_mem hM
      have := relL_len (relB im (leadL v.toNat xs xs)) v.toNat p
      omega
  · exact lists_bd (m := 0) (n := 0) (by simp) (fun M hM => by simp at hM) (by omega) (by omega)

theorem ptCl_any (n : Nat) (T1 T2 : Nat → Nat → Nat) (B : Option Addr) (L : List Int) (i : Nat) (W : World) (hB : Il W B L) (hV : Val n T1 T2 L) (hL : L.length = n) (hi : i < n) (h15 : n ≤ 15) :
    Calls Try.prog 74 #[.slice B n 15, .int .i64 (i : Int)] W fun e w' => e = .returned (.int .i64 (im L i : Nat)) ∧ Below W.heap.size W w' := by
  obtain ⟨b1, o1, hA1, hb1, p0⟩ := hB.at_ (k := i) (by omega)
  rw [(hV.rng i (by omega)).2] at p0
  subst hA1
  clear hB hV
  go_enter Try.func74, Try.ntmps74
  go_wp2
  go_ret
  exact ⟨rfl, Below.refl _ _⟩
theorem implPto_any (v : Int) (A : Option Addr) (c : Nat) (xs : List Blk) (w : World) (hA : Bl w A xs) (hl : xs.length ≤ 1048576) :
    Calls Try.prog 40 #[.agg #[.int .i64 v, .slice A xs.length c]] w (LPD w (ptoR v xs).1 (ptoR v xs).2) := by
  cases hs : isSysB v xs
  · have HN : Hid (ptoR v xs = ([], 1)) := by unfold Hid ptoR orbR fcode; rw [hs]; rfl
    generalize ptoR v xs = R at *
    have HA := Lib.hid hA; clear hA; have HR := Lib.hid (Row.box w 30 (.int .i64 v) (.slice A xs.length c)); have HW := Lib.hid (Since.refl w); go_enter Try.func40, Try.ntmps40; go_wp2_with fail; replace HA := Lib.hid (HA.out.below (below_alloc _ (.cells #[.int .i64 v, .slice A xs.length c] 30))); replace HW := Lib.hid (HW.out.below (below_alloc _ (.cells #[.int .i64 v, .slice A xs.length c] 30)))
    refine (IsSystem_any v A c xs _ HA.out hl).mono ?_; rw [hs]; rintro e w_ ⟨rfl, hb⟩; replace HW := Lib.hid (HW.out.below hb); clear hb
    go_wp2
    go_ret2
    exact LPD.nil (by rw [HN.out]) (by rw [HN.out]) HW.out
  · have hsy := isSysB_iff.1 hs
    have hv := hsy.1
    obtain ⟨n, rfl⟩ := Int.eq_ofNat_of_zero_le (by omega : 0 ≤ v)
    have HS := Lib.hid hsy
    have HN : Hid (ptoR n xs = orbR n xs im n) := rfl
    generalize ptoR n xs = R at *
    clear hsy
    go_enter Try.func40, Try.ntmps40
    have HA := Lib.hid hA; clear hA; have HR := Lib.hid (Row.box w 30 (.int .i64 n) (.slice A xs.length c)); have HW := Lib.hid (Since.refl w)
    replace HA := Lib.hid (HA.out.below (below_alloc _ (.cells #[.int .i64 n, .slice A xs.length c] 30))); replace HW := Lib.hid (HW.out.below (below_alloc _ (.cells #[.int .i64 n, .slice A xs.length c] 30)))
    go_wp2_with fail
    refine (IsSystem_any n A c xs _ HA.out hl).mono ?_; rw [hs]; rintro e w_ ⟨rfl, hb⟩; replace HA := Lib.hid (HA.out.below hb); replace HW := Lib.hid (HW.out.below hb); replace HR := Lib.hid (HR.out.below hb); clear hb; (try clear c0 c1); obtain ⟨c0, c1⟩ := HR.out.c2
    go_wp2_with fail
    refine (orbits_any n A c xs n 74 #[] #[] im _ HA.out hl (by omega) (fun args w => by kernel_rfl) (fun k1 k2 L i hV hL hi => ?_) (fun k1 k2 W L i B hb hB hV hL hi => ?_) (fun h0 k hk => ?_)).mono ?_
    · have := (hV.rng i (by rw [hL]; simpa using hi)).1; simpa using this
    · exact ptCl_any n _ _ B L i W hB hV hL hi (by omega)
    · obtain ⟨k1, k2⟩ := fcode_zero h0
      exact (pt_eqv (isSysB_iff.1 k1) k2).rfl_ k hk
    rw [← HN.out]
    rintro e w3 ⟨B, d, rfl, hL, hb⟩
    have HL := Lib.hid (hL.base HW.out.size)
    have HW3 := Lib.hid (HW.out.below hb)
    clear hL hb
    go_wp2
    go_ret2
    exact ⟨B, d, rfl, HL.out, HW3.out⟩

theorem specPto_any (v : Int) (A : Option Addr) (c : Nat) (xs : List Blk) (w : World) (hA : Bl w A xs) (hl : xs.length ≤ 1048576) :
    Calls Try.prog 39 #[.agg #[.int .i64 v, .slice A xs.length c]] w (LPP w (ptoR v xs).1 (ptoR v xs).2) := by
  by_cases hc : fcode v xs = 0
  · obtain ⟨h1, h2⟩ := fcode_zero hc
    have hs := isSysB_iff.1 h1
    have hv := hs.1
    obtain ⟨n, rfl⟩ := Int.eq_ofNat_of_zero_le (by omega : 0 ≤ v)
    have HS := Lib.hid hs; have HF := Lib.hid h2
    have HC := Lib.hid hc
    have hld := lead_bd hs hs h2 h2
    have HN : Hid (ptoR n xs = (orbL (relB im (leadL n xs xs)) n n, 0)) := by unfold Hid ptoR orbR; rw [if_pos hc]; rfl
    have HQ := Lib.hid (pt_eqv hs h2)
    generalize ptoR n xs = R at *
    clear hs h1 h2 hc
    have hn1 : (n : Int) ≤ 1000000 := by omega
    have hto : ((n : Int)).toNat = n := by simp
    go_enter Try.func39, Try.ntmps39; have HA := Lib.hid hA; clear hA; have HR := Lib.hid (Row.box w 30 (.int .i64 n) (.slice A xs.length c)); have HW := Lib.hid (Since.refl w); replace HA := Lib.hid (HA.out.below (below_alloc _ (.cells #[.int .i64 n, .slice A xs.length c] 30))); replace HW := Lib.hid (HW.out.below (below_alloc _ (.cells #[.int .i64 n, .slice A xs.length c] 30))); obtain ⟨c0, c1⟩ := HR.out.c2; go_wp2_with fail; refine (code_one n A c xs _ _ (by simp) HA.out hl).mono ?_; rw [HC.out]; rintro e w_ ⟨rfl, hb⟩; replace HA := Lib.hid (HA.out.below hb); replace HW := Lib.hid (HW.out.below hb); replace HR := Lib.hid (HR.out.below hb); clear hb; (try clear c0 c1); obtain ⟨c0, c1⟩ := HR.out.c2
    go_wp2
    have HKEEP := Lib.hid (And.intro c0 c1)
    have HBB : Hid (∀ W, Below w_.heap.size w_ W → (W.cell? ⟨w.heap.size, 0, none⟩ = some (.int .i64 n) ∧ W.cell? ⟨w.heap.size, 1, none⟩ = some (.slice A xs.length c))) := fun W hb => (HR.out.below hb).c2
    clear c0 c1
    go_region_held3 (fun w' => w'.cell? ⟨w.heap.size, 0, none⟩ = some (.int .i64 n) ∧ w'.cell? ⟨w.heap.size, 1, none⟩ = some (.slice A xs.length c)) (first | exact HKEEP.out | exact HBB.out _ (by (repeat' (first | (with_reducible exact Below.refl _ _) | (with_reducible assumption) | (with_reducible refine below_drewN ?_ _) | (with_reducible refine Below.drew ?_) | (with_reducible refine Below.alloc ?_ ?_ _) | (with_reducible refine Below.setCell ?_ ?_ _) | go_size)))) (first
      | (go_at_call 52
         refine (l06All_any n A c xs _ (HA.out.below (by (repeat' (first | (with_reducible exact Below.refl _ _) | (with_reducible assumption) | (with_reducible refine below_drewN ?_ _) | (with_reducible refine Below.drew ?_) | (with_reducible refine Below.alloc ?_ ?_ _) | (with_reducible refine Below.setCell ?_ ?_ _) | go_size)))) hl HS.out HF.out).mono ?_
         rintro r w3 ⟨u, rfl, hL, hb⟩
         obtain ⟨B, d, rfl⟩ := hL.slice
         have HL := Lib.hid hL
         have HB3 : Hid (Below w_.heap.size w_ w3) := below_up (by (repeat' (first | (with_reducible exact Below.refl _ _) | (with_reducible assumption) | (with_reducible refine below_drewN ?_ _) | (with_reducible refine Below.drew ?_) | (with_reducible refine Below.alloc ?_ ?_ _) | (with_reducible refine Below.setCell ?_ ?_ _) | go_size))) hb
         have HP3 := Lib.hid hb
         replace HKEEP := Lib.hid (HBB.out _ HB3.out)
         have hb3 := HB3.out
         have hz3 := HB3.out.size
         clear hL hb))
    obtain ⟨wS, hS_⟩ : ∃ x : World, x = ((w3.alloc (.cells (bcells n (fun _ => false)) 4)).alloc (.cells #[] 39)) := ⟨_, rfl⟩
    obtain ⟨z, hz_⟩ : ∃ x : Nat, x = w3.heap.size + 1 := ⟨_, rfl⟩
    obtain ⟨gm, hg_⟩ : ∃ x : Nat, x = w3.heap.size := ⟨_, rfl⟩
    obtain ⟨base, hb_⟩ : ∃ x : Nat, x = w_.drew.heap.size := ⟨_, rfl⟩
    have HP : Hid (P0S w_ w3 wS base gm z n) := by rw [hS_, hz_, hg_, hb_]; exact p0s_1 _ n HB3.out
    replace HL : Hid (LLq w3 base (.slice B (leadL n xs xs).length d) (leadL n xs xs)) := by rw [hb_]; exact HL.out
    rw [← hS_, ← hz_, ← hg_]
    clear hS_ hz_ hg_ hb_ HP3 hb3 hz3
    rotate_left
    obtain ⟨wS, hS_⟩ : ∃ x : World, x = ((w3.alloc (.cells #[] 39)).alloc (.cells (bcells n (fun _ => false)) 4)) := ⟨_, rfl⟩
    obtain ⟨z, hz_⟩ : ∃ x : Nat, x = w3.heap.size := ⟨_, rfl⟩
    obtain ⟨gm, hg_⟩ : ∃ x : Nat, x = w3.heap.size + 1 := ⟨_, rfl⟩
    obtain ⟨base, hb_⟩ : ∃ x : Nat, x = w_.drew.heap.size := ⟨_, rfl⟩
    have HP : Hid (P0S w_ w3 wS base gm z n) := by rw [hS_, hz_, hg_, hb_]; exact p0s_2 _ n HB3.out
    replace HL : Hid (LLq w3 base (.slice B (leadL n xs xs).length d) (leadL n xs xs)) := by rw [hb_]; exact HL.out
    rw [← hS_, ← hg_, ← hz_]
    clear hS_ hz_ hg_ hb_ HP3 hb3 hz3
    rotate_left
    obtain ⟨wS, hS_⟩ : ∃ x : World, x = (w3.alloc (.cells #[] 39)) := ⟨_, rfl⟩
    obtain ⟨z, hz_⟩ : ∃ x : Nat, x = w3.heap.size := ⟨_, rfl⟩
    obtain ⟨gm, hg_⟩ : ∃ x : Nat, x = w_.heap.size := ⟨_, rfl⟩
    obtain ⟨base, hb_⟩ : ∃ x : Nat, x = (w_.alloc (.cells (bcells n (fun _ => false)) 4)).drew.heap.size := ⟨_, rfl⟩
    have HP : Hid (P0S w_ w3 wS base gm z n) := by rw [hS_, hz_, hg_, hb_]; exact p0s_3 n HB3.out HP3.out
    replace HL : Hid (LLq w3 base (.slice B (leadL n xs xs).length d) (leadL n xs xs)) := by rw [hb_]; exact HL.out
    rw [← hS_, ← hz_, ← hg_]
    clear hS_ hz_ hg_ hb_ HP3 hb3 hz3
    rotate_left
    obtain ⟨wS, hS_⟩ : ∃ x : World, x = w3 := ⟨_, rfl⟩
    obtain ⟨z, hz_⟩ : ∃ x : Nat, x = w_.heap.size + 1 := ⟨_, rfl⟩
    obtain ⟨gm, hg_⟩ : ∃ x : Nat, x = w_.heap.size := ⟨_, rfl⟩
    obtain ⟨base, hb_⟩ : ∃ x : Nat, x = ((w_.alloc (.cells (bcells n (fun _ => false)) 4)).alloc (.cells #[] 39)).drew.heap.size := ⟨_, rfl⟩
    have HP : Hid (P0S w_ w3 wS base gm z n) := by rw [hS_, hz_, hg_, hb_]; exact p0s_4 n HB3.out HP3.out
    replace HL : Hid (LLq w3 base (.slice B (leadL n xs xs).length d) (leadL n xs xs)) := by rw [hb_]; exact HL.out
    rw [← hS_, ← hz_, ← hg_]
    clear hS_ hz_ hg_ hb_ HP3 hb3 hz3
    rotate_left
    obtain ⟨wS, hS_⟩ : ∃ x : World, x = (w3.alloc (.cells (bcells n (fun _ => false)) 4)) := ⟨_, rfl⟩
    obtain ⟨z, hz_⟩ : ∃ x : Nat, x = w_.heap.size := ⟨_, rfl⟩
    obtain ⟨gm, hg_⟩ : ∃ x : Nat, x = w3.heap.size := ⟨_, rfl⟩
    obtain ⟨base, hb_⟩ : ∃ x : Nat, x = (w_.alloc (.cells #[] 39)).drew.heap.size := ⟨_, rfl⟩
    have HP : Hid (P0S w_ w3 wS base gm z n) := by rw [hS_, hz_, hg_, hb_]; exact p0s_5 n HB3.out HP3.out
    replace HL : Hid (LLq w3 base (.slice B (leadL n xs xs).length d) (leadL n xs xs)) := by rw [hb_]; exact HL.out
    rw [← hS_, ← hg_, ← hz_]
    clear hS_ hz_ hg_ hb_ HP3 hb3 hz3
    rotate_left
    obtain ⟨wS, hS_⟩ : ∃ x : World, x = w3 := ⟨_, rfl⟩
    obtain ⟨z, hz_⟩ : ∃ x : Nat, x = w_.heap.size := ⟨_, rfl⟩
    obtain ⟨gm, hg_⟩ : ∃ x : Nat, x = w_.heap.size + 1 := ⟨_, rfl⟩
    obtain ⟨base, hb_⟩ : ∃ x : Nat, x = ((w_.alloc (.cells #[] 39)).alloc (.cells (bcells n (fun _ => false)) 4)).drew.heap.size := ⟨_, rfl⟩
    have HP : Hid (P0S w_ w3 wS base gm z n) := by rw [hS_, hz_, hg_, hb_]; exact p0s_6 n HB3.out HP3.out
    replace HL : Hid (LLq w3 base (.slice B (leadL n xs xs).length d) (leadL n xs xs)) := by rw [hb_]; exact HL.out
    rw [← hS_, ← hg_, ← hz_]
    clear hS_ hz_ hg_ hb_ HP3 hb3 hz3
    rotate_left
    all_goals
      have HLA : Hid (∀ k, k < (leadL n xs xs).length → Val n (thN xs) (thN xs) (nthLL (leadL n xs xs) k) ∧ (nthLL (leadL n xs xs) k).length = n) := fun k hk => lead_at HS.out HS.out HF.out HF.out hk
      have HTB : Hid (∀ k, k < (leadL n xs xs).length → ∀ i j, relB im ((leadL n xs xs).take (k + 1)) i j = (relB im ((leadL n xs xs).take k) i j || (im (nthLL (leadL n xs xs) k) i == j))) := fun k hk i j => relB_take hk i j
      have HTL : Hid ((leadL n xs xs).take (leadL n xs xs).length = leadL n xs xs) := List.take_length
      have HOP := Lib.hid (HP.out.op (relB im (leadL n xs xs)))
      have HGA := Lib.hid HP.out.gma
      have HGL := Lib.hid HP.out.gl
      have hn15 : n ≤ 15 := by omega
      have hwr : IntKind.i64.wrap (n : Int) = (n : Int) := by rw [IntKind.wrap_i64]; omega
      have HOL : Hid (∀ k, (orbL (relB im (leadL n xs xs)) n k).length ≤ k) := orbL_len _ n
      obtain ⟨li0, hli, hli0, hli1, hli2⟩ := info_parts infoList'
      obtain ⟨ni0, hni, hni0, hni1, hni2⟩ := info_parts infoInt'
      clear HP
      generalize leadL n xs xs = Ls at *
      obtain ⟨Rl, hRl⟩ : ∃ Rl, relB im Ls = Rl := ⟨_, rfl⟩
      rw [hRl] at HQ HN HOP HOL
      have HRL := Lib.hid hRl
      clear hRl
      go_wp2
      go_loopw [7, 8] (fun u i wr => ∃ k : Nat, k ≤ n ∧ i = .int .i64 k ∧ Hid (OP w_ w3 base gm n Rl k u wr)) (fun _ i _ => n - (intOf i).toNat)
      case atStart => exact ⟨0, by omega, rfl, HOP.out⟩
      case round =>
        obtain ⟨k, hk, rfl, HC⟩ := hrel
        obtain ⟨c0, c1⟩ := HBB.out _ HC.out.bw
        by_cases hlt : k < n
        · have q0 := HC.out.vb.cell hlt
          have hgl := HC.out.vb.lt
          rw [met_less HQ.out hlt] at q0
          obtain ⟨A7, d7, hu⟩ := HC.out.ll.slice
          subst hu
          have hk2 : (k : Int) < (n : Int) := by omega
          have hlo := HOL.out k
          cases hb3 : lessB Rl k
          · rw [hb3] at q0
            have HB0 := Lib.hid hb3
            clear hb3
            have HX1 := Lib.hid (below_up (below_alloc wr (.cells (bcells n (fun _ => false)) 4)) (below_alloc (wr.alloc (.cells (bcells n (fun _ => false)) 4)) (.cells #[] 2)))
            have HX2 : Hid (Vb ((wr.alloc (.cells (bcells n (fun _ => false)) 4)).alloc (.cells #[] 2)) wr.heap.size n (fun _ => false)) := (Vb.new wr n _).below (below_alloc _ _)
            have HX3 : Hid (Ro ((wr.alloc (.cells (bcells n (fun _ => false)) 4)).alloc (.cells #[] 2)) wr.heap.size (.slice (some ⟨wr.heap.size + 1, 0, none⟩) 0 0) []) := by
              have h := World.ownsRow_made (base := wr.heap.size) (e := 2) (size := 1) (wr.alloc (.cells (bcells n (fun _ => false)) 4)) #[] 0 (by simp) (by unfold maxLen; omega) (by simp)
              rw [World.size_alloc] at h
              exact h
            obtain ⟨wo, rfl⟩ : ∃ wo : World, wo = wr := ⟨_, rfl⟩
            go_wp2
            go_loopw [11] (fun i wq => ∃ m : Nat, m ≤ Ls.length ∧ i = .int .i64 m ∧ Hid (Below wo.heap.size wo wq ∧ Ro wq wo.heap.size (.slice (some ⟨wo.heap.size + 1, 0, none⟩) 0 0) [] ∧ Vb wq wo.heap.size n (fun j => relB im (Ls.take m) k j))) (fun i _ => Ls.length - (intOf i).toNat)
            case atStart => exact ⟨0, by omega, rfl, HX1.out, HX3.out, HX2.out.ext fun i _ => by simp [relB]⟩
            case round =>
              obtain ⟨m, hm, rfl, HD⟩ := hrel
              by_cases hlt2 : m < Ls.length
              · obtain ⟨g2, E, f, hB, hg2, hcell, hI⟩ := LLq.rd (HL.out.zone (fun q h1 h2 => (HD.out.1.block q (by have := HC.out.sz; omega)).trans (HC.out.zone q h1 h2))) hlt2
                subst hB
                obtain ⟨hval, hlen⟩ := HLA.out m hlt2
                rw [hlen] at hcell
                have hr := hval.rng k (by omega)
                obtain ⟨b1, o1, hA1, hb1, p0⟩ := hI.at_ (k := k) (by omega)
                rw [hr.2] at p0
                subst hA1
                have HIM := Lib.hid (HTB.out m hlt2 k)
                obtain ⟨p, hp⟩ : ∃ p, im (nthLL Ls m) k = p := ⟨_, rfl⟩
                rw [hp] at p0 hr HIM
                have hlp := hr.1
                have hlp2 : (p : Int) < (n : Int) := by omega
                have f0 := HD.out.2.2.frozen p
                have cc := HD.out.2.2.cell (i := p) hlp
                have hgl2 := HD.out.2.2.lt
                clear hval hlen hI hr hp
                go_wp2
                go_roundw
                case rel =>
                  refine ⟨m + 1, by omega, by go_num, HD.out.1.setCell (p := ⟨wo.heap.size, p, none⟩) (Nat.le_refl _) _, HD.out.2.1.grown (grown_set (grown_refl _ _) _ _) (fun b e => by simp only [Value.ownBlock, Option.some.injEq] at e; subst e; simp), (HD.out.2.2.set p true).ext fun i _ => ?_⟩
                  rw [HIM.out]
                  unfold updA
                  by_cases e : i = p
                  · subst e; simp
                  · have : (p == i) = false := by simpa using Ne.symm e
                    rw [if_neg e, this, Bool.or_false]
                case measure => simp [intOf]; omega
              · obtain rfl : m = Ls.length := by omega
                have HVG : Hid (Vb wr wo.heap.size n (Rl k)) := by
                  have h := HD.out.2.2
                  rw [HTL.out, HRL.out] at h
                  exact h
                have HIB := Lib.hid (IB.start HD.out.1 HD.out.2.1 HVG.out HC.out.vb)
                go_wp2
                go_loopw [10, 12] (fun un i wq => ∃ j : Nat, j ≤ n ∧ i = .int .i64 j ∧ Hid (IB wo wq gm wo.heap.size n Rl k j un)) (fun _ i _ => n - (intOf i).toNat)
                case atStart => exact ⟨0, by omega, rfl, HIB.out⟩
                case round =>
                  obtain ⟨j, hj, rfl, HE⟩ := hrel
                  obtain ⟨e0, e1⟩ := HBB.out _ (HC.out.bw.grown HE.out.hg HC.out.bw.size (fun q e => by simp only [Option.some.injEq] at e; subst e; exact HGL.out))
                  by_cases hlt3 : j < n
                  · have p0 := HE.out.vg.cell hlt3
                    have hvl := HE.out.vg.lt
                    have f0 := HE.out.vm.frozen j
                    have m0 := HE.out.vm.cell hlt3
                    have hvm := HE.out.vm.lt
                    have hj2 : (j : Int) < (n : Int) := by omega
                    cases hrb : Rl k j
                    · rw [hrb] at p0
                      have HRB := Lib.hid hrb
                      clear hrb
                      go_wp2
                      go_roundw
                      case rel => exact ⟨j + 1, by omega, by go_num, HE.out.skip HRB.out⟩
                      case measure => simp [intOf]; omega
                    · rw [hrb] at p0
                      have HRB := Lib.hid hrb
                      clear hrb
                      have HO := Lib.hid (HE.out.own j (.bool true))
                      have hlm := relL_len Rl j k
                      have hwq := HE.out.hg.size
                      have hbw_ : wo.heap.size ≤ (wr.setCell ⟨gm, j, none⟩ (.bool true)).heap.size := by simpa [World.setCell] using hwq
                      go_wp2_with (at_builtin; refine wpList_append_own _ rfl _ _ 39 rfl wo.heap.size 2 ni0 (.int .i64 0) 1 8 Try.underlying39 hni hni0 hni1 hni2 rfl (by decide) _ _ _ rfl (HO.out.alloc _) ⟨wr.heap.size, 0, none⟩ 1 1 [.int .i64 (j : Int)] rfl rfl (cells_newH (cw := wr.setCell ⟨gm, j, none⟩ (.bool true)) (by simp [World.setCell])) (by simp [Value.oneCell']) (by unfold maxLen; omega) (by omega) (by simp; omega) ?_; intro v2 w2 hown2 hg2 _)
                      have HNX := Lib.hid (HE.out.next HRB.out hlt3 (Nat.ne_of_gt HC.out.vb.lt) hg2 hown2)
                      clear hown2 hg2 hbw_
                      go_wp2
                      go_roundw
                      case rel => exact ⟨j + 1, by omega, by go_num, HNX.out⟩
                      case measure => simp [intOf]; omega
                  · obtain rfl : j = n := by omega
                    obtain ⟨E, f, hun⟩ := own_slice HE.out.ro
                    subst hun
                    obtain ⟨vs, ho, hpush⟩ := HC.out.next HQ.out hlt HB0.out HGA.out HGL.out HE.out
                    have HOO := Lib.hid ho
                    have HPUSH := Lib.hid hpush
                    have hwq := HE.out.hg.size
                    have hwo := HC.out.bw.size
                    clear ho hpush
                    go_wp2_with (at_builtin; go_loud (refine wpList_append_own_at _ rfl _ _ 46 rfl w_.heap.size 39 li0 (.slice none 0 0) 1 24 Try.underlying46 hli hli0 hli1 hli2 rfl (by decide) _ _ vs rfl (HOO.out.alloc _) ⟨wr.heap.size, 0, none⟩ 1 1 [.slice E (relL Rl j k).length f] rfl rfl (cells_newH (cw := wr) (by simp)) (by simp [Value.oneCell']) (by unfold maxLen; omega) (by omega) (by simp; omega) ?_); intro v2 w2 hown2 hg2 _ hat2)
                    have HN2 := Lib.hid (HPUSH.out _ w2 v2 hg2 hown2 hat2)
                    clear hown2 hg2 hat2
                    go_wp2
                    go_roundw
                    case rel => exact ⟨k + 1, by omega, by go_num, HN2.out⟩
                    case measure => simp [intOf]; omega
          · rw [hb3] at q0
            have HSK := Lib.hid (HC.out.skip HQ.out hlt hb3)
            clear hb3
            go_wp2
            go_roundw
            case rel => exact ⟨k + 1, by omega, by go_num, HSK.out⟩
            case measure => simp [intOf]; omega
        · obtain rfl : k = n := by omega
          have HBW : Hid (Below w.heap.size w wr) := HW.out.below HC.out.bw
          have HLW := Lib.hid (HC.out.ll.base HW.out.size)
          go_wp2
          go_ret2
          exact LPP.mk HLW.out.llq (by rw [HN.out]) (by rw [HN.out]) HBW.out
  · have HC := Lib.hid hc
    have hne : (fcode v xs != 0) = true := by simpa using hc
    have HN : Hid (ptoR v xs = ([], fcode v xs)) := by unfold Hid ptoR orbR; rw [if_neg hc]
    generalize ptoR v xs = R at *
    clear hc
    go_enter Try.func39, Try.ntmps39; have HA := Lib.hid hA; clear hA; have HR := Lib.hid (Row.box w 30 (.int .i64 v) (.slice A xs.length c)); have HW := Lib.hid (Since.refl w); replace HA := Lib.hid (HA.out.below (below_alloc _ (.cells #[.int .i64 v, .slice A xs.length c] 30))); replace HW := Lib.hid (HW.out.below (below_alloc _ (.cells #[.int .i64 v, .slice A xs.length c] 30))); obtain ⟨c0, c1⟩ := HR.out.c2; go_wp2_with fail; refine (code_one v A c xs _ _ (by simp) HA.out hl).mono ?_; rintro e w_ ⟨rfl, hb⟩; replace HA := Lib.hid (HA.out.below hb); replace HW := Lib.hid (HW.out.below hb); replace HR := Lib.hid (HR.out.below hb); clear hb; (try clear c0 c1); obtain ⟨c0, c1⟩ := HR.out.c2
    go_wp2
    go_ret2
    exact LPP.nil (by rw [HN.out]) (by rw [HN.out]) HW.out

end Go.Proofs.Ytgbkonnmjmlalaa
