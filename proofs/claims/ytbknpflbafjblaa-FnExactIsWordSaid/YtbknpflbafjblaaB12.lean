/- Plain laws and contracts, part 12; conditions: stated in each. -/
import Derived.Maps.RangeWalk
import Derived.Maps.Views
import Derived.Carry
import Derived.Test.YtbknpflbafjblaaB1
import Derived.Test.YtbknpflbafjblaaB2
import Derived.Test.YtbknpflbafjblaaB4
import Derived.Test.YtbknpflbafjblaaB5
import Derived.Test.YtbknpflbafjblaaB8
set_option linter.unusedSimpArgs false
set_option linter.unusedVariables false
/- Plain laws of the code's words: a span of masks, as a predicate and as lists; conditions: stated in each. -/
namespace Go.Proofs.Ytbknpflbafjblaa
set_option linter.unusedSimpArgs false
set_option linter.unusedVariables false

/-- the words of the first i masks -/
def spF (m : Nat → Nat) : Nat → Nat → Bool
  | 0, s => decide (s = 0)
  | i + 1, s => spF m i s || spF m i (s ^^^ m i)
theorem spF_zero (m : Nat → Nat) : ∀ i, spF m i 0 = true := by
  intro i
  induction i with
  | zero => rfl
  | succ i ih => rw [spF, ih]; rfl
theorem xor_swap (a b c : Nat) : a ^^^ b ^^^ c = (a ^^^ c) ^^^ b := by rw [Nat.xor_assoc, Nat.xor_comm b c, ← Nat.xor_assoc]
theorem xor_twice (a b : Nat) : a ^^^ b ^^^ b = a := by rw [Nat.xor_assoc, Nat.xor_self, Nat.xor_zero]
theorem spF_xor (m : Nat → Nat) : ∀ i a b, spF m i a = true → spF m i b = true → spF m i (a ^^^ b) = true := by
  intro i
  induction i with
  | zero => intro a b ha hb; unfold spF at *; simp only [decide_eq_true_eq] at *; subst ha hb; rfl
  | succ i ih =>
    intro a b ha hb
    rw [spF, Bool.or_eq_true] at *
    rcases ha with ha | ha <;> rcases hb with hb | hb
    · exact .inl (ih _ _ ha hb)
    · right; have := ih _ _ ha hb; rw [← Nat.xor_assoc] at this; exact this
    · right; have := ih _ _ ha hb; rw [xor_swap] at this; exact this
    · left
      have := ih _ _ ha hb
      rw [← Nat.xor_assoc, xor_swap a (m i) b, xor_twice] at this
      exact this
theorem spF_lt {m : Nat → Nat} {N : Nat} : ∀ i, (∀ j, j < i → m j < 2 ^ N) → ∀ s, spF m i s = true → s < 2 ^ N := by
  intro i
  induction i with
  | zero => intro _ s h; unfold spF at h; simp only [decide_eq_true_eq] at h; subst h; exact Nat.pow_pos (by omega)
  | succ i ih =>
    intro hm s h
    rw [spF, Bool.or_eq_true] at h
    rcases h with h | h
    · exact ih (fun j hj => hm j (by omega)) s h
    · have h1 := ih (fun j hj => hm j (by omega)) _ h
      have h2 := Nat.xor_lt_two_pow h1 (hm i (by omega))
      rwa [xor_twice] at h2
/-- a word that is there brings no new one -/
theorem spF_skip {m : Nat → Nat} {i : Nat} (h : spF m i (m i) = true) (s : Nat) : spF m (i + 1) s = spF m i s := by
  rw [spF, Bool.eq_iff_iff, Bool.or_eq_true]
  constructor
  · rintro (h1 | h1)
    · exact h1
    · have := spF_xor m i _ _ h1 h; rwa [xor_twice] at this
  · exact fun h1 => .inl h1
theorem spF_new {m : Nat → Nat} {i : Nat} (h : spF m i (m i) = false) {s : Nat} (hs : spF m i s = true) : spF m i (s ^^^ m i) = false := by
  cases h1 : spF m i (s ^^^ m i)
  · rfl
  · have := spF_xor m i _ _ hs h1
    rw [← Nat.xor_assoc, Nat.xor_self, Nat.zero_xor, h] at this; cases this

/-- the words, once each -/
structure Wds (m : Nat → Nat) (i : Nat) (L : List Nat) : Prop where
  mem : ∀ s, s ∈ L ↔ spF m i s = true
  nod : L.Nodup
theorem Wds.start (m : Nat → Nat) : Wds m 0 [0] := ⟨fun s => by simp [spF], by simp⟩
theorem Wds.skip {m : Nat → Nat} {i : Nat} {L : List Nat} (h : Wds m i L) (hm : spF m i (m i) = true) : Wds m (i + 1) L := ⟨fun s => by rw [spF_skip hm]; exact h.mem s, h.nod⟩
/-- the words of one more mask, behind the others in any order -/
theorem Wds.more {m : Nat → Nat} {i : Nat} {L M : List Nat} (h : Wds m i L) (hm : spF m i (m i) = false) (hp : M.Perm L) : Wds m (i + 1) (L ++ M.map (fun s => s ^^^ m i)) := by
  have hM : ∀ s, s ∈ M.map (fun s => s ^^^ m i) ↔ spF m i (s ^^^ m i) = true := fun s => by
    rw [List.mem_map]
    constructor
    · rintro ⟨a, ha, rfl⟩
      rw [xor_twice]; exact (h.mem a).1 (hp.mem_iff.1 ha)
    · intro hs
      exact ⟨s ^^^ m i, hp.mem_iff.2 ((h.mem _).2 hs), xor_twice _ _⟩
  refine ⟨fun s => ?_, ?_⟩
  · rw [List.mem_append, hM, h.mem, spF, Bool.or_eq_true]
  · rw [List.nodup_append]
    refine ⟨h.nod, ?_, ?_⟩
    · have hn : M.Nodup := hp.nodup_iff.2 h.nod
      refine List.pairwise_map.2 (hn.imp fun {a b} hab e => hab ?_)
      have := congrArg (fun x => x ^^^ m i) e
      simpa [xor_twice] using this
    · intro a ha b hb e
      subst e
      have h1 := (h.mem a).1 ha
      have h2 := (hM a).1 hb
      rw [spF_new hm h1] at h2; cases h2
theorem nodup_len_le : ∀ (L M : List Nat), L.Nodup → (∀ x ∈ L, x ∈ M) → L.length ≤ M.length := by
  intro L
  induction L with
  | nil => intro M _ _; simp
  | cons a L ih =>
    intro M hn hs
    rw [List.nodup_cons] at hn
    have ha := hs a (by simp)
    have h := ih (M.erase a) hn.2 (fun x hx => (List.mem_erase_of_ne (by intro e; subst e; exact hn.1 hx)).2 (hs x (by simp [hx])))
    rw [List.length_erase_of_mem ha] at h
    have : 0 < M.length := List.length_pos_of_mem ha
    simp only [List.length_cons]; omega
theorem Wds.len {m : Nat → Nat} {i : Nat} {L : List Nat} (h : Wds m i L) {N : Nat} (hm : ∀ j, j < i → m j < 2 ^ N) : L.length ≤ 2 ^ N := by
  have := nodup_len_le L (List.range (2 ^ N)) h.nod (fun x hx => List.mem_range.2 (spF_lt i hm x ((h.mem x).1 hx)))
  rwa [List.length_range] at this
/-- how many of the words have a weight -/
def wcL (f : Nat → Nat) (t : Nat) (L : List Nat) : Nat := (L.filter fun s => f s == t).length
theorem wcL_snoc (f : Nat → Nat) (t : Nat) (L : List Nat) (s : Nat) : wcL f t (L ++ [s]) = wcL f t L + if f s = t then 1 else 0 := by
  unfold wcL
  rw [List.filter_append, List.length_append]
  by_cases h : f s = t
  · simp [h]
  · simp [h]
/-- .. counted over all numbers -/
theorem wcL_cnt (f : Nat → Nat) (t : Nat) {N : Nat} : ∀ (L : List Nat), L.Nodup → (∀ x ∈ L, x < N) → wcL f t L = cntF (fun s => decide (s ∈ L) && (f s == t)) N := by
  intro L
  induction L with
  | nil =>
    intro _ _
    rw [cntF_congr (g := fun _ => false) N (fun j _ => by simp)]
    have : ∀ n, cntF (fun _ => false) n = 0 := by
      intro n; induction n with
      | zero => rfl
      | succ n ih => rw [cntF, ih]; rfl
    rw [this]; rfl
  | cons a L ih =>
    intro hn hl
    rw [List.nodup_cons] at hn
    have h1 := ih hn.2 (fun x hx => hl x (by simp [hx]))
    have ha := hl a (by simp)
    by_cases h : f a = t
    · have h2 := cntF_eq a N ha
      have h3 := cntF_or (f := fun s => decide (s ∈ L) && (f s == t)) (g := fun s => decide (s = a)) (h := fun s => decide (s ∈ a :: L) && (f s == t)) N (fun j _ => by
        by_cases e : j = a
        · subst e; simp [hn.1, h]
        · simp [e])
      unfold wcL at *
      simp only [List.filter_cons, h, beq_self_eq_true, if_true, List.length_cons]
      omega
    · have h3 : cntF (fun s => decide (s ∈ a :: L) && (f s == t)) N = cntF (fun s => decide (s ∈ L) && (f s == t)) N := cntF_congr N fun j _ => by
        by_cases e : j = a
        · subst e; simp [hn.1, h]
        · simp [e]
      unfold wcL at *
      simp only [List.filter_cons]
      rw [if_neg (by simpa using h), h3]; exact h1
/-- the number of the words of a weight -/
def wtC (f : Nat → Nat) (m : Nat → Nat) (i t : Nat) : Nat := cntF (fun s => spF m i s && (f s == t)) 32768
theorem Wds.wt {m : Nat → Nat} {i : Nat} {L : List Nat} (h : Wds m i L) (hm : ∀ j, j < i → m j < 2 ^ 15) (f : Nat → Nat) (t : Nat) : wcL f t L = wtC f m i t := by
  rw [wcL_cnt f t (N := 32768) L h.nod (fun x hx => spF_lt i hm x ((h.mem x).1 hx))]
  unfold wtC
  refine cntF_congr _ fun s _ => ?_
  have := h.mem s
  cases hb : spF m i s
  · have : s ∉ L := fun h2 => by rw [(h.mem s).1 h2] at hb; cases hb
    simp [this]
  · have := (h.mem s).2 hb
    simp [this]

end Go.Proofs.Ytbknpflbafjblaa

/- Maps of words in memory; conditions: none. -/
namespace Go.Proofs.Ytbknpflbafjblaa
open Go.RowKit
set_option maxRecDepth 100000
set_option linter.unusedSimpArgs false
set_option linter.unusedVariables false

def uk (s : Nat) : Lit := .int .u64 (s : Int)
theorem uk_wf {s : Nat} (h : s < 32768) : (uk s).wf = true := by
  unfold uk Lit.wf
  simp [IntKind.min, IntKind.max, IntKind.bits, IntKind.signed]
  omega
theorem uk_inj {s r : Nat} (h : uk s = uk r) : s = r := by
  unfold uk at h; simp only [Lit.int.injEq, true_and] at h; omega
/-- what a datum holds as a set of words -/
structure MpD (D : DataW Nat) (S : Nat → Bool) : Prop where
  ism : Maps.IsMap D
  at_ : ∀ s, s < 32768 → D.atKey (uk s) (.lit (.bool false)) = .lit (.bool (S s))
  has : ∀ s, s < 32768 → Maps.has D (uk s) = S s
  only : ∀ kl, Maps.has D kl = true → ∃ s, s < 32768 ∧ kl = uk s
theorem setK : Maps.Keyed Try.prog 76 := Maps.int_keyed Try.underlying76
theorem keyS {s : Nat} (h : s < 32768) : keyOf Try.prog 76 (.int .u64 (s : Int)) = some (uk s) := Maps.keyOf_int_mk Try.underlying76 (uk_wf h)
def Mp (w : World) (b n : Nat) (S : Nat → Bool) : Prop := ∃ D : DataW Nat, w.ownsMap Try.prog 76 (plainElem Try.prog 4) b n D ∧ MpD D S
theorem Mp.made (w : World) : Mp (w.alloc (.map #[] 0)) w.heap.size 0 (fun _ => false) :=
  ⟨_, World.ownsMap_made w _ _ _, ⟨Maps.isMap_empty, fun s _ => rfl, fun s _ => rfl, fun kl h => by simp [Maps.has_eq] at h⟩⟩
theorem Mp.lt {w : World} {b n : Nat} {S : Nat → Bool} (h : Mp w b n S) : b < w.heap.size := by obtain ⟨D, h1, _⟩ := h; exact h1.lt
theorem Mp.grown {w w' : World} {b n : Nat} {S : Nat → Bool} {row : Option Nat} (h : Mp w b n S) (hg : w.grownBy w' row) (hne : row ≠ some b) : Mp w' b n S := by
  obtain ⟨D, h1, h2⟩ := h; exact ⟨D, h1.kept hg (fun e => hne e.symm), h2⟩
theorem Mp.below {w w' : World} {b n : Nat} {S : Nat → Bool} (h : Mp w b n S) (hb : Below w.heap.size w w') : Mp w' b n S := h.grown (grown_below hb none) (by simp)
theorem Mp.ext {w : World} {b n : Nat} {S T : Nat → Bool} (h : Mp w b n S) (e : ∀ s, s < 32768 → S s = T s) : Mp w b n T := by
  obtain ⟨D, h1, h2⟩ := h
  exact ⟨D, h1, h2.ism, fun s hs => by rw [h2.at_ s hs, e s hs], fun s hs => by rw [h2.has s hs, e s hs], h2.only⟩
theorem Mp.look {w : World} {b n : Nat} {S : Nat → Bool} (h : Mp w b n S) {s : Nat} (hs : s < 32768) : (Instr.lookup 73 (.map (some b)) (.int .u64 (s : Int)) false).run Try.prog w = .ok (.bool (S s)) w := by
  obtain ⟨D, h1, h2⟩ := h
  obtain ⟨v, ps, hr, hv⟩ := h1.lookup setK Try.underlying73 (Try.zeroValue4 w) (plainElem_bool Try.underlying4 false) (keyS hs)
  rw [hr]
  rw [h2.at_ s hs] at hv
  unfold plainElem at hv
  rw [Try.underlying4] at hv
  cases v <;> simp at hv
  rw [hv.1]
theorem Mp.put {w : World} {b n : Nat} {S : Nat → Bool} (h : Mp w b n S) {s : Nat} (hs : s < 32768) (hn : n < maxLen) : ∃ w', (Instr.mapUpdate 73 (.map (some b)) (.int .u64 (s : Int)) (.bool true)).run Try.prog w = .ok () w' ∧ Mp w' b (n + 1) (updA S s true) ∧ w.grownBy w' (some b) := by
  obtain ⟨D, h1, h2⟩ := h
  obtain ⟨w', r1, r2, r3⟩ := h1.update setK Try.underlying73 hn (keyS hs) (plainElem_bool Try.underlying4 true)
  have hk : WideAt.IsKeyLit (uk s) := setK.key (keyS hs)
  refine ⟨w', r1, ⟨_, r2, ?_, fun r hr => ?_, fun r hr => ?_, fun kl hkl => ?_⟩, r3⟩
  · exact h2.ism.put _ _
  · unfold updA
    by_cases e : r = s
    · subst e; rw [if_pos rfl, Maps.atKey_put_same h2.ism hk]
    · rw [if_neg e, Maps.atKey_put_other (fun e2 => e (uk_inj e2)), h2.at_ r hr]
  · unfold updA
    by_cases e : r = s
    · subst e; rw [if_pos rfl, Maps.has_put_same h2.ism hk]
    · rw [if_neg e, Maps.has_put_other (fun e2 => e (uk_inj e2)), h2.has r hr]
  · by_cases e : kl = uk s
    · exact ⟨s, hs, e⟩
    · rw [Maps.has_put_other e] at hkl
      exact h2.only kl hkl

/-- THE STEP of a loop over words -/
theorem wpList_next_words (w : World) {ops : Array Oper} {rest : List Oper} {o : Oper} {a : Act} {Q : Exit → Act → World → Prop} (hg : o.guard = none) (it : Operand) (hop : o.op = Op.next it false) (b r n : Nat) (D : DataW Nat) (S : Nat → Bool) (left : Lit → Bool) (cnt : Nat)
    (hit : a.eval it = .pointer (some ⟨r, 0, none⟩)) (h : w.ranges Try.prog 76 (plainElem Try.prog 4) b r n D left cnt) (hD : MpD D S) (hleft : ∀ kl, left kl = true → Maps.has D kl = true)
    (hDone : cnt = 0 → (∀ kl, left kl = false) → wpList Try.prog ops Q rest (a.put o.dst (.tuple #[.bool false])) w)
    (hMore : ∀ (s : Nat) (w' : World) (cnt' : Nat), s < 32768 → left (uk s) = true → w'.ranges Try.prog 76 (plainElem Try.prog 4) b r n D (fun z => left z && !z.sameKey (uk s)) cnt' → cnt' < cnt → w.grownBy w' (some r) → w'.heap.size = w.heap.size →
      (Instr.entry (.pointer (some ⟨r, 0, none⟩))).run Try.prog w' = .ok (.tuple #[.int .u64 (s : Int), .bool true]) w' → wpList Try.prog ops Q rest (a.put o.dst (.tuple #[.bool true, .int .u64 (s : Int), .bool true])) w') :
    wpList Try.prog ops Q (o :: rest) a w := by
  refine wpList_next_ranges w hg it hop 76 setK (plainElem Try.prog 4) (Value.int .u64) Value.bool (fun key kl hk => by obtain ⟨x, h1, _⟩ := Maps.keyOf_int_inv Try.underlying76 hk; exact ⟨x, h1⟩) (fun v y hv => by
    unfold plainElem at hv; rw [Try.underlying4] at hv; cases v <;> simp at hv; exact ⟨_, rfl⟩) b r n D left cnt hit h hDone fun x c kl y w' cnt' hkx hlk hRv hat hrg hlt hgr hsz hen => ?_
  obtain ⟨s, hs, rfl⟩ := hD.only kl (hleft kl hlk)
  have hxs : x = (s : Int) := by
    obtain ⟨x', h1, h2, _⟩ := Maps.keyOf_int_inv Try.underlying76 hkx
    simp only [Value.int.injEq, true_and] at h1
    unfold uk at h2
    simp only [Lit.int.injEq, true_and] at h2
    omega
  subst hxs
  have hS : S s = true := by rw [← hD.has s hs]; exact hleft _ hlk
  have hc : c = true := by
    have h1 := hat (.lit (.bool false))
    rw [hD.at_ s hs, hS] at h1
    unfold plainElem at hRv
    rw [Try.underlying4] at hRv
    simp only [Option.some.injEq] at hRv
    rw [← hRv] at h1
    simpa using h1.symm
  subst hc
  exact hMore s w' cnt' hs hlk hrg hlt hgr hsz hen

end Go.Proofs.Ytbknpflbafjblaa

/- What the program's search for words holds; conditions: stated in each. -/
namespace Go.Proofs.Ytbknpflbafjblaa
open Go.RowKit
set_option maxHeartbeats 1000000
set_option maxRecDepth 100000
set_option linter.unusedSimpArgs false
set_option linter.unusedVariables false

/-- a row of words of the call's own -/
def wcells (L : List Nat) : List Value := L.map fun s : Nat => Value.int .u64 (s : Int)
def RoU (w : World) (base : Nat) (u : Value) (L : List Nat) : Prop := w.ownsRow base 76 1 u L.length (wcells L)
theorem infoSet' : (Try.prog.info? 76).map (fun i => (i.zero, i.size, i.bytes)) = some (some (.int .u64 0), 1, 8) := by kernel_rfl
theorem RoU.below {w w' : World} {base : Nat} {u : Value} {L : List Nat} (h : RoU w base u L) (hb : Below w.heap.size w w') : RoU w' base u L := own_below h hb
theorem RoU.form {w : World} {base : Nat} {u : Value} {L : List Nat} (h : RoU w base u L) (hm : 0 < L.length) : ∃ g c, u = .slice (some ⟨g, 0, none⟩) L.length c ∧ base ≤ g ∧ g < w.heap.size ∧ ∀ k (hk : k < L.length), w.cell? ⟨g, k, none⟩ = some (.int .u64 ((L[k] : Nat) : Int)) := by
  rcases h.2 with ⟨_, h0⟩ | ⟨g, cap, cur, hv, hb, hg, _, _, _, htk⟩
  · omega
  · refine ⟨g, cap, hv, hb, Row.lt (w := w) (t := 76) (cur := cur) hg, fun k hk => ?_⟩
    rw [Row.cell (w := w) (t := 76) (cur := cur) hg, ← Array.getElem?_toList]
    have h1 : (wcells L)[k]? = some (.int .u64 ((L[k] : Nat) : Int)) := by simp [wcells, hk]
    rw [← htk, List.getElem?_take_of_lt (by omega)] at h1
    exact h1
theorem RoU.snoc {w : World} {base : Nat} {v : Value} {L : List Nat} {s : Nat} (h : w.ownsRow base 76 1 v (L.length + 1) (wcells L ++ [.int .u64 (s : Int)])) : RoU w base v (L ++ [s]) := by
  unfold RoU; simpa [wcells] using h
theorem Mp.row {w : World} {b n base size m : Nat} {S : Nat → Bool} {t : TypeId} {u : Value} {xs : List Value} (h : Mp w b n S) (hr : w.ownsRow base t size u m xs) : u.ownBlock ≠ some b := by
  intro e
  obtain ⟨D, ⟨es, clock, hb, _⟩, _⟩ := h
  rcases hr.2 with ⟨rfl, _⟩ | ⟨g, cap, cur, rfl, _, hg, _⟩
  · simp [Value.ownBlock] at e
  · simp [Value.ownBlock] at e
    subst e
    rw [hb] at hg; cases hg
theorem bits_xor_u (a b : Nat) (ha : a < 32768) (hb : b < 32768) : bits .xor .u64 (a : Int) (b : Int) = ((a ^^^ b : Nat) : Int) := by
  have h1 : a ^^^ b < 2 ^ 15 := Nat.xor_lt_two_pow (by omega) (by omega)
  show IntKind.u64.wrap ((BitVec.ofInt 64 (a : Int) ^^^ BitVec.ofInt 64 (b : Int)).toNat : Int) = _
  rw [BitVec.toNat_xor, ofInt64_nat a (by omega), ofInt64_nat b (by omega), wrap_u64_nat _ (by omega)]
theorem bits_xor_i (a b : Nat) (ha : a < 32768) (hb : b < 32768) : bits .xor .i64 (a : Int) (b : Int) = ((a ^^^ b : Nat) : Int) := by
  have h1 : a ^^^ b < 2 ^ 15 := Nat.xor_lt_two_pow (by omega) (by omega)
  show IntKind.i64.wrap ((BitVec.ofInt 64 (a : Int) ^^^ BitVec.ofInt 64 (b : Int)).toNat : Int) = _
  rw [BitVec.toNat_xor, ofInt64_nat a (by omega), ofInt64_nat b (by omega), wrap_i64_nat _ (by omega)]
structure QW (W5 wC : World) (b T0 k : Nat) (S : Nat → Bool) (L : List Nat) (u : Value) (wr : World) : Prop where
  bw : Below W5.heap.size W5 wr
  mp : Mp wr b k S
  ro : RoU wr W5.heap.size u L
  zone : ∀ q, T0 ≤ q → q < wC.heap.size → wr.heap[q]? = wC.heap[q]?
  ua : ∀ q, u.ownBlock = some q → q < T0 ∨ wC.heap.size ≤ q
  sz : wC.heap.size ≤ wr.heap.size
theorem QW.put {W5 wC wr w' : World} {b T0 k k' : Nat} {S S' : Nat → Bool} {L : List Nat} {u : Value} (h : QW W5 wC b T0 k S L u wr) (hb : b < T0) (h5 : W5.heap.size ≤ b) (hg : wr.grownBy w' (some b)) (hm : Mp w' b k' S') : QW W5 wC b T0 k' S' L u w' := by
  have hs := h.sz; have hz := hg.size
  exact ⟨h.bw.grown hg h.bw.size (fun q e => by simp only [Option.some.injEq] at e; omega), hm, World.ownsRow.kept h.ro hg (.inr (h.mp.row h.ro)), fun q h1 h2 => (hg.block q (by omega) (by simp; omega)).trans (h.zone q h1 h2), h.ua, by omega⟩
theorem QW.push {W5 wC wr w' : World} {b T0 k : Nat} {S : Nat → Bool} {L : List Nat} {u v : Value} {s : Nat} {o : Obj} (h : QW W5 wC b T0 k S L u wr) (hg : (wr.alloc o).grownBy w' u.ownBlock) (hown : w'.ownsRow W5.heap.size 76 1 v (L.length + 1) (wcells L ++ [.int .u64 (s : Int)])) (hat : v.ownBlock = u.ownBlock ∨ v.ownBlock = some (wr.alloc o).heap.size) : QW W5 wC b T0 k S (L ++ [s]) v w' := by
  have hs := h.sz; have hz := hg.size; have h5 := h.bw.size
  rw [World.size_alloc] at hz
  refine ⟨(h.bw.alloc h.bw.size _).grown hg (by rw [World.size_alloc]; omega) (own_block h.ro), (h.mp.below (below_alloc wr o)).grown hg (h.mp.row h.ro), RoU.snoc hown, fun q h1 h2 => ?_, fun q e => ?_, by omega⟩
  · have e1 := hg.block q (by rw [World.size_alloc]; omega) (fun e => by have := h.ua q e.symm; omega)
    exact (e1.trans ((below_alloc wr o).block q (by omega))).trans (h.zone q h1 h2)
  · rcases hat with e2 | e2
    · exact h.ua q (e2 ▸ e)
    · rw [e2, Option.some.injEq, World.size_alloc] at e; right; omega
@[go_sem] theorem eq_nil_sets (a : Option Addr) (l c : Nat) (w : World) : (binOp .eql 127 (.slice a l c) (.slice none 0 0)).run Try.prog w = .ok (.bool a.isNone) w := by
  have := run_equal_slice_nil (P := Try.prog) w 127 76 a l c Try.underlying127
  simp [binOp, this]
theorem cloneU_any (u : Value) (base : Nat) (L : List Nat) (w : World) (hR : RoU w base u L) (h0 : 0 < L.length) (hl : L.length ≤ 1048576) :
    Calls Try.prog 118 #[u] w fun e w' => ∃ r, e = .returned r ∧ RoU w' w.heap.size r L ∧ Below w.heap.size w w' := by
  obtain ⟨ni0, hni, hni0, hni1, hni2⟩ := info_parts infoSet'
  have HE : Hid (RoU (w.alloc (.cells #[] 76)) w.heap.size (.slice (some ⟨w.heap.size, 0, none⟩) 0 0) []) := own_empty _ _ _
  have HB := Lib.hid (below_alloc w (.cells #[] 76))
  have HRC := Lib.hid (hR.below HB.out)
  obtain ⟨g, cap, rfl, _⟩ := hR.form h0
  clear hR
  have hwl : (wcells L).length = L.length := by simp [wcells]
  have HC : Hid (∀ j v, (wcells L)[j]? = some v → (w.alloc (.cells #[] 76)).cell? ((⟨g, 0, none⟩ : Addr).add j) = some v) := World.ownsRow.cells HRC.out (by simp [Value.ownBlock])
  go_enter Try.func118, Try.ntmps118
  go_wp2_with (at_builtin; refine wpList_append_own _ rfl _ _ 127 rfl w.heap.size 76 ni0 (.int .u64 0) 1 8 Try.underlying127 hni hni0 hni1 hni2 rfl (by decide) _ _ _ rfl HE.out ⟨g, 0, none⟩ L.length cap (wcells L) rfl (by rw [hwl]; omega) HC.out (by simp [wcells, Value.oneCell']) (by unfold maxLen; simp; omega) (by simp; omega) (by simp) ?_; intro v2 w2 hown2 hg2 _)
  have HO : Hid (RoU w2 w.heap.size v2 L) := by unfold Hid RoU; simpa [wcells] using hown2
  have HB2 : Hid (Below w.heap.size w w2) := HB.out.grown hg2 HB.out.size (own_block HE.out)
  clear hown2 hg2
  go_ret
  exact ⟨_, rfl, HO.out, HB2.out⟩

end Go.Proofs.Ytbknpflbafjblaa

/- The contract of the program's words of the code; conditions: stated in it. -/
namespace Go.Proofs.Ytbknpflbafjblaa
open Go.RowKit
set_option maxHeartbeats 2000000
set_option maxRecDepth 100000
set_option linter.unusedSimpArgs false
set_option linter.unusedVariables false

/-- the masks of a system's blocks -/
def mkF (xs : List Blk) (i : Nat) : Nat := maskB (nth xs i)
theorem code_any (n : Nat) (A : Option Addr) (c : Nat) (xs : List Blk) (w : World) (hA : Bl w A xs) (hs : isSys n xs) :
    Calls Try.prog 69 #[.agg #[.int .i64 n, .slice A xs.length c]] w fun e w' => ∃ b k, e = .returned (.map (some b)) ∧ Mp w' b k (spF (mkF xs) xs.length) ∧ w.heap.size ≤ b ∧ Below w.heap.size w w' := by
  obtain ⟨ni0, hni, hni0, hni1, hni2⟩ := info_parts infoSet'
  have hx35 := hs.2.1
  have hv15 := hs.1.2
  have HAR : Hid (areB n xs) := hs.2.2.1
  have HMK : Hid (∀ i, i < xs.length → mkF xs i < 2 ^ 15) := fun i hi => by
    have h1 := maskB_lt (hs.2.2.1 i hi).1
    have h2 := pow15 hv15
    unfold mkF; omega
  have HX := Lib.hid (below_alloc w (.cells #[.int .i64 n, .slice A xs.length c] 30))
  have HA := Lib.hid (hA.below HX.out)
  have HR := Lib.hid (Row.box w 30 (.int .i64 n) (.slice A xs.length c))
  have HSZ : Hid ((w.alloc (.cells #[.int .i64 n, .slice A xs.length c] 30)).heap.size = w.heap.size + 1) := World.size_alloc _ _
  have hmm := @run_makeMap Try.prog
  have HM0 := Lib.hid (Mp.made (w.alloc (.cells #[.int .i64 n, .slice A xs.length c] 30)))
  have HBM := Lib.hid (below_alloc (w.alloc (.cells #[.int .i64 n, .slice A xs.length c] 30)) (.map #[] 0))
  obtain ⟨w2, hrun0, hM2, hg2⟩ := HM0.out.put (s := 0) (by omega) (by unfold maxLen; omega)
  rw [HSZ.out] at hrun0 hM2 hg2
  have hrun0' : (Instr.mapUpdate 73 (.map (some (w.heap.size + 1))) (.int .u64 0) (.bool true)).run Try.prog ((w.alloc (.cells #[.int .i64 n, .slice A xs.length c] 30)).alloc (.map #[] 0)) = .ok () w2 := hrun0
  clear hA hs hrun0
  go_enter Try.func69, Try.ntmps69
  obtain ⟨c0, c1⟩ := HR.out.c2
  have hrl := HR.out.lt
  have HB2 : Hid (Below (w.alloc (.cells #[.int .i64 n, .slice A xs.length c] 30)).heap.size (w.alloc (.cells #[.int .i64 n, .slice A xs.length c] 30)) w2) := HBM.out.grown hg2 (by simp) (fun q e => by simp only [Option.some.injEq] at e; rw [HSZ.out]; omega)
  have HB3 := Lib.hid (HB2.out.alloc HB2.out.size (.cells #[.int .u64 0] 76))
  have HR3 := Lib.hid (HR.out.below HB3.out)
  obtain ⟨d0, d1⟩ := HR3.out.c2
  have hrl3 := HR3.out.lt
  have HM3 : Hid (Mp (w2.alloc (.cells #[.int .u64 0] 76)) (w.heap.size + 1) 1 (spF (mkF xs) 0)) := (hM2.below (below_alloc _ _)).ext fun s _ => by
    unfold updA spF
    by_cases e : s = 0
    · simp [e]
    · simp [e]
  have HL3 : Hid (RoU (w2.alloc (.cells #[.int .u64 0] 76)) (w.alloc (.cells #[.int .i64 n, .slice A xs.length c] 30)).heap.size (.slice (some ⟨w2.heap.size, 0, none⟩) 1 1) [0]) :=
    ⟨rfl, .inr ⟨w2.heap.size, 1, #[.int .u64 0], rfl, HB2.out.size, heap_alloc_new w2 _, Nat.le_refl _, by unfold maxLen; omega, rfl, rfl⟩⟩
  obtain ⟨b, hb⟩ : ∃ b, b = w.heap.size + 1 := ⟨_, rfl⟩
  clear hM2 hg2 HBM HM0 HB2
  go_wp2
  clear hmm hrun0' c0 c1 d0 d1 hrl hrl3
  rw [← hb] at HM3
  rw [← hb]
  have HBE : Hid ((w.alloc (.cells #[.int .i64 n, .slice A xs.length c] 30)).heap.size = b) := by rw [hb]; exact HSZ.out
  have HBL : Hid (w.heap.size ≤ b) := by unfold Hid; omega
  clear hb
  generalize w.alloc (.cells #[.int .i64 n, .slice A xs.length c] 30) = W5 at *
  generalize w2.alloc _ = w3 at *
  go_loopw [4, 16] (fun u i wr => ∃ (q : Nat) (L : List Nat) (k : Nat), q ≤ xs.length ∧ i = .int .i64 q ∧ k ≤ 1 + q * 32768 ∧ Hid (Below W5.heap.size W5 wr ∧ Mp wr b k (spF (mkF xs) q) ∧ RoU wr W5.heap.size u L ∧ Wds (mkF xs) q L)) (fun _ i _ => xs.length - (intOf i).toNat)
  case atStart => exact ⟨0, [0], 1, by omega, rfl, by omega, HB3.out, HM3.out, HL3.out, Wds.start _⟩
  case round =>
    obtain ⟨q, L, k, hq, rfl, hk, HC⟩ := hrel
    by_cases hlt : q < xs.length
    · obtain ⟨b1, o1, hA1, hb1, p0, p1, p2⟩ := (HA.out.below HC.out.1).at_ hlt
      subst hA1
      have hg := (HAR.out q hlt).1
      have HG : Hid (goodB 15 (nth xs q) = true) := good_mono hg hv15
      have hmq := HMK.out q hlt
      go_wp2_with fail
      refine (blkSet_any _ _ HG.out).mono ?_
      rintro e w6 ⟨rfl, hb⟩
      have HB6 : Hid (Below wr.heap.size wr w6) := below_up (below_alloc wr _) hb
      clear hb p0 p1 p2
      have HM6 := Lib.hid (HC.out.2.1.below HB6.out)
      have HL6 := Lib.hid (HC.out.2.2.1.below HB6.out)
      have HB56 := Lib.hid (below_up HC.out.1 HB6.out)
      have HWD := Lib.hid HC.out.2.2.2
      have hlook : (Instr.lookup 73 (.map (some b)) (.int .u64 ((maskB (nth xs q) : Nat) : Int)) false).run Try.prog w6 = .ok (.bool (spF (mkF xs) q (mkF xs q))) w6 := HM6.out.look (s := maskB (nth xs q)) (by unfold mkF at hmq; omega)
      have HLLEN : Hid (L.length ≤ 2 ^ 15) := HWD.out.len fun j hj => HMK.out j (by omega)
      clear HC
      cases hin : spF (mkF xs) q (mkF xs q)
      · rw [hin] at hlook
        have hL0 : 0 < L.length := List.length_pos_of_mem ((HWD.out.mem 0).2 (spF_zero _ _))
        have hll := HLLEN.out
        go_wp2_with fail
        refine (cloneU_any _ _ L _ HL6.out hL0 (by omega)).mono ?_
        rintro e w7 ⟨r, rfl, hr, hb⟩
        obtain ⟨g, cc, rfl, hg1, hg2, hcell⟩ := hr.form hL0
        have HC7 : Hid (∀ t (ht : t < L.length), w7.cell? ⟨g, t, none⟩ = some (.int .u64 ((L[t] : Nat) : Int))) := hcell
        have hbw := HM6.out.lt
        have hs67 := hb.size
        have HB5b : Hid (W5.heap.size ≤ b) := Nat.le_of_eq HBE.out
        have HST : Hid (∀ t, t < L.length → ∀ s, ((spF (mkF xs) q s || decide (s ∈ (L.take (t + 1)).map (fun s => s ^^^ mkF xs q))) = updA (fun s => spF (mkF xs) q s || decide (s ∈ (L.take t).map (fun s => s ^^^ mkF xs q))) (L.getD t 0 ^^^ mkF xs q) true s)) := fun t ht s => by
          have e : L.take (t + 1) = L.take t ++ [L.getD t 0] := by rw [List.take_succ_eq_append_getElem ht]; simp [ht]
          rw [e, List.map_append]
          unfold updA
          by_cases h : s = L.getD t 0 ^^^ mkF xs q
          · rw [if_pos h, Bool.or_eq_true, decide_eq_true_eq]
            right; rw [h]; simp
          · rw [if_neg h]
            congr 1
            simp only [List.mem_append, List.map_cons, List.map_nil, List.mem_singleton]
            simp only [h, or_false]
        have HTK : Hid (∀ t, t < L.length → (L ++ (L.take t).map (fun s => s ^^^ mkF xs q)) ++ [L.getD t 0 ^^^ mkF xs q] = L ++ (L.take (t + 1)).map (fun s => s ^^^ mkF xs q)) := fun t ht => by
          have e : L.take (t + 1) = L.take t ++ [L.getD t 0] := by rw [List.take_succ_eq_append_getElem ht]; simp [ht]
          rw [e, List.map_append, List.append_assoc]; rfl
        have HLT : Hid (∀ t, t < L.length → L.getD t 0 < 32768) := fun t ht => by
          have h1 : L.getD t 0 ∈ L := by
            have : L.getD t 0 = L[t] := by simp [ht]
            rw [this]; exact List.getElem_mem ht
          exact spF_lt q (fun j hj => HMK.out j (by omega)) _ ((HWD.out.mem _).1 h1)
        have HQ7 : Hid (QW W5 w7 b w6.heap.size (k + 0) (fun s => spF (mkF xs) q s || decide (s ∈ (L.take 0).map (fun s => s ^^^ mkF xs q))) (L ++ (L.take 0).map (fun s => s ^^^ mkF xs q)) u4 w7) := by
          refine ⟨below_up HB56.out hb, ((HM6.out.below hb).ext fun s _ => by simp), ?_, fun _ _ _ => rfl, fun q' e => .inl (HL6.out.lt q' e).2, Nat.le_refl _⟩
          have := HL6.out.below hb
          simpa using this
        clear hr hcell hb hlook HL6 HM6
        go_wp2
        go_loopw [4, 28] (fun u j wq => ∃ t : Nat, t ≤ L.length ∧ j = .int .i64 t ∧ Hid (QW W5 w7 b w6.heap.size (k + t) (fun s => spF (mkF xs) q s || decide (s ∈ (L.take t).map (fun s => s ^^^ mkF xs q))) (L ++ (L.take t).map (fun s => s ^^^ mkF xs q)) u wq)) (fun _ j _ => L.length - (intOf j).toNat)
        case atStart => exact ⟨0, by omega, rfl, HQ7.out⟩
        case round =>
          obtain ⟨t, ht, rfl, HD⟩ := hrel
          obtain ⟨wq, rfl⟩ : ∃ wq : World, wq = wr := ⟨_, rfl⟩
          by_cases htl : t < L.length
          · have hzg := HD.out.zone g hg1 hg2
            have pc : wq.cell? ⟨g, t, none⟩ = some (.int .u64 ((L.getD t 0 : Nat) : Int)) := by
              have h1 := HC7.out t htl
              have e : L.getD t 0 = L[t] := by simp [htl]
              rw [e, ← h1]
              unfold World.cell?
              rw [hzg]
            have hgq : g < wq.heap.size := Nat.lt_of_lt_of_le hg2 HD.out.sz
            have hs1 := HLT.out t htl
            have hxo := bits_xor_u (L.getD t 0) (mkF xs q) hs1 (by omega)
            have hxl : L.getD t 0 ^^^ mkF xs q < 32768 := Nat.xor_lt_two_pow (n := 15) (by omega) (by omega)
            have HSTt := Lib.hid (HST.out t htl)
            have HTKt := Lib.hid (HTK.out t htl)
            generalize L.getD t 0 = s at *
            obtain ⟨w8, hrun, hM8, hg8⟩ := HD.out.mp.put hxl (by unfold maxLen; omega)
            have HQ8 := Lib.hid (HD.out.put hbw HB5b.out hg8 (hM8.ext fun s' _ => (HSTt.out s').symm))
            have hx2 : bits .xor .u64 (s : Int) ((maskB (nth xs q) : Nat) : Int) = ((s ^^^ mkF xs q : Nat) : Int) := hxo
            clear hM8 hg8 hxo hzg
            have HO : Hid (w8.ownsRow W5.heap.size 76 1 u4 (L ++ (L.take t).map (fun s => s ^^^ mkF xs q)).length (wcells (L ++ (L.take t).map (fun s => s ^^^ mkF xs q)))) := HQ8.out.ro
            have hol : (L ++ (L.take t).map (fun s => s ^^^ mkF xs q)).length ≤ 65536 := by rw [List.length_append, List.length_map, List.length_take]; omega
            have h58 : W5.heap.size ≤ w8.heap.size := HQ8.out.bw.size
            generalize (L ++ (L.take t).map (fun s => s ^^^ mkF xs q)) = L1 at *
            go_wp2_with (at_builtin; refine wpList_append_own_at _ rfl _ _ 127 rfl W5.heap.size 76 ni0 (.int .u64 0) 1 8 Try.underlying127 hni hni0 hni1 hni2 rfl (by decide) _ _ _ rfl (HO.out.alloc _) ⟨w8.heap.size, 0, none⟩ 1 1 [.int .u64 ((s ^^^ mkF xs q : Nat) : Int)] rfl rfl (cells_new _ _ _) (by simp [Value.oneCell']) (by unfold maxLen; omega) (by omega) (by simp; omega) ?_; intro v2 w9 hown2 hg9 _ hat2)
            have HQ9 := Lib.hid (HQ8.out.push hg9 hown2 hat2)
            rw [HTKt.out] at HQ9
            clear hown2 hg9 hat2
            go_wp2
            go_roundw
            case rel => exact ⟨t + 1, by omega, by go_num, HQ9.out⟩
            case measure => simp [intOf]; omega
          · obtain rfl : t = L.length := by omega
            have HQE := Lib.hid HD.out
            rw [List.take_length] at HQE
            have HWE := Lib.hid (HWD.out.more hin (List.Perm.refl L))
            have HME : Hid (Mp wq b (k + L.length) (spF (mkF xs) (q + 1))) := HQE.out.mp.ext fun s _ => by
              rw [spF]
              congr 1
              rw [Bool.eq_iff_iff, decide_eq_true_eq, List.mem_map]
              constructor
              · rintro ⟨a, ha, rfl⟩
                rw [xor_twice]; exact (HWD.out.mem a).1 ha
              · intro h
                exact ⟨s ^^^ mkF xs q, (HWD.out.mem _).2 h, xor_twice _ _⟩
            go_wp2
            go_roundw
            case rel => exact ⟨q + 1, _, k + L.length, by omega, by go_num, by omega, HQE.out.bw, HME.out, HQE.out.ro, HWE.out⟩
            case measure => simp [intOf]; omega
      · rw [hin] at hlook
        have HWS := Lib.hid (HWD.out.skip hin)
        have HMS := Lib.hid (HM6.out.ext (T := spF (mkF xs) (q + 1)) fun s _ => (spF_skip hin s).symm)
        go_wp2
        go_roundw
        case rel => exact ⟨q + 1, L, k, by omega, by go_num, by omega, HB56.out, HMS.out, HL6.out, HWS.out⟩
        case measure => simp [intOf]; omega
    · obtain rfl : q = xs.length := by omega
      go_wp2
      go_ret
      exact ⟨b, k, rfl, HC.out.2.1, HBL.out, below_up HX.out HC.out.1⟩

end Go.Proofs.Ytbknpflbafjblaa

/- The contract of the program's WordsByWeight; conditions: stated in it. -/
namespace Go.Proofs.Ytbknpflbafjblaa
open Go.RowKit Go.Maps
set_option maxHeartbeats 2000000
set_option maxRecDepth 100000
set_option linter.unusedSimpArgs false
set_option linter.unusedVariables false

theorem ones_fit : ∀ n f s, s < 2 ^ n → onesF f s ≤ n := by
  intro n
  induction n with
  | zero => intro f s h; have : s = 0 := by simpa using h
            subst this; rw [onesF_zero]; exact Nat.le_refl _
  | succ n ih =>
    intro f s h
    cases f with
    | zero => simp [onesF]
    | succ f =>
      rw [onesF]
      have := ih f (s / 2) (by rw [Nat.pow_succ] at h; omega)
      omega
theorem mk_lt {n : Nat} {xs : List Blk} (hs : isSys n xs) : ∀ j, j < xs.length → mkF xs j < 2 ^ n := fun j hj => by
  have := maskB_lt (hs.2.2.1 j hj).1
  simpa [mkF] using this
/-- one word less to come -/
theorem cnt_left {left : Lit → Bool} {s0 : Nat} (f : Nat → Nat) (t : Nat) (h0 : left (uk s0) = true) (hs : s0 < 32768) :
    cntF (fun s => left (uk s) && (f s == t)) 32768 = cntF (fun s => (left (uk s) && !(uk s).sameKey (uk s0)) && (f s == t)) 32768 + if f s0 = t then 1 else 0 := by
  have hk : ∀ s, s < 32768 → WideAt.IsKeyLit (uk s) := fun s hs => setK.key (keyS hs)
  have h2 := cntF_or (f := fun s => (left (uk s) && !(uk s).sameKey (uk s0)) && (f s == t)) (g := fun s => decide (s = s0) && (f s0 == t)) (h := fun s => left (uk s) && (f s == t)) 32768 (fun j hj => by
    by_cases e : j = s0
    · subst e; rw [WideAt.sameKey_self (hk j hj), h0]; simp
    · rw [sameKey_ne (fun e2 => e (uk_inj e2))]; simp [e])
  have h3 : cntF (fun s => decide (s = s0) && (f s0 == t)) 32768 = if f s0 = t then 1 else 0 := by
    by_cases e : f s0 = t
    · rw [if_pos e, cntF_congr (g := fun s => decide (s = s0)) _ (fun j _ => by simp [e])]; exact cntF_eq s0 _ hs
    · rw [if_neg e, cntF_congr (g := fun _ => false) _ (fun j _ => by simp [e])]
      have : ∀ n, cntF (fun _ => false) n = 0 := by
        intro n; induction n with
        | zero => rfl
        | succ n ih => rw [cntF, ih]; rfl
      exact this _
  omega
theorem cnt_none {left : Lit → Bool} (f : Nat → Nat) (t : Nat) (h : ∀ kl, left kl = false) : cntF (fun s => left (uk s) && (f s == t)) 32768 = 0 := by
  have : ∀ n, cntF (fun s => left (uk s) && (f s == t)) n = 0 := by
    intro n; induction n with
    | zero => rfl
    | succ n ih => rw [cntF, ih, h]; rfl
  exact this _
/-- the numbers of words by weight, and a code -/
noncomputable def wbR (v : Int) (xs : List Blk) : List Int × Int :=
  if isSysB v xs = true then ((List.range (v.toNat + 1)).map fun t => ((wtC (onesF 15) (mkF xs) xs.length t : Nat) : Int), 0) else ([], 1)
theorem wbR_bd (v : Int) (xs : List Blk) : (wbR v xs).1.length ≤ 16 := by
  unfold wbR
  split
  · rename_i h
    have := (isSysB_iff.1 h).1
    simp; omega
  · simp
theorem implWbw_any (v : Int) (A : Option Addr) (c : Nat) (xs : List Blk) (w : World) (hA : Bl w A xs) (hl : xs.length ≤ 1048576) :
    Calls Try.prog 30 #[.agg #[.int .i64 v, .slice A xs.length c]] w (LP w (wbR v xs).1 (wbR v xs).2) := by
  cases hs : isSysB v xs
  · have HN : Hid (wbR v xs = ([], 1)) := by unfold Hid wbR; simp [hs]
    generalize wbR v xs = R at *
    have HA := Lib.hid hA; clear hA; have HR := Lib.hid (Row.box w 30 (.int .i64 v) (.slice A xs.length c)); have HW := Lib.hid (Since.refl w); go_enter Try.func30, Try.ntmps30; go_wp2_with fail; replace HA := Lib.hid (HA.out.below (below_alloc _ (.cells #[.int .i64 v, .slice A xs.length c] 30))); replace HW := Lib.hid (HW.out.below (below_alloc _ (.cells #[.int .i64 v, .slice A xs.length c] 30)))
    refine (IsSystem_any v A c xs _ HA.out hl).mono ?_; rw [hs]; rintro e w_ ⟨rfl, hb⟩; replace HW := Lib.hid (HW.out.below hb); clear hb
    go_wp2
    go_ret2
    exact LP.nil (by rw [HN.out]) (by rw [HN.out]) HW.out
  · have HS := Lib.hid (isSysB_iff.1 hs)
    have hv := HS.out.1
    obtain ⟨n, rfl⟩ := Int.eq_ofNat_of_zero_le (by omega : 0 ≤ v)
    have HN : Hid (wbR n xs = ((List.range (n + 1)).map fun t => ((wtC (onesF 15) (mkF xs) xs.length t : Nat) : Int), 0)) := by unfold Hid wbR; rw [if_pos hs]; rfl
    generalize wbR n xs = R at *
    have HSP : Hid (∀ s, s < 32768 → spF (mkF xs) xs.length s = true → onesF 15 s ≤ n) := fun s _ h => ones_fit n 15 s (spF_lt _ (mk_lt HS.out) s h)
    have HWB : Hid (∀ t, wtC (onesF 15) (mkF xs) xs.length t ≤ 32768) := fun t => cntF_le _ _
    have hmk : ∀ W' : World, (Instr.makeSlice 42 (.int .i64 ((n : Int) + 1)) (.int .i64 ((n : Int) + 1))).run Try.prog W' = .ok (.slice (some ⟨W'.heap.size, 0, none⟩) (n + 1) (n + 1)) (W'.alloc (.cells (icells (n + 1) (fun _ => 0)) 2)) := fun W' => by
      have := make_ints2 ((n : Int) + 1) W' (by omega) (by omega)
      have e : ((n : Int) + 1).toNat = n + 1 := by omega
      rw [e] at this
      exact this
    have HA := Lib.hid hA; clear hA; have HR := Lib.hid (Row.box w 30 (.int .i64 n) (.slice A xs.length c)); have HW := Lib.hid (Since.refl w); go_enter Try.func30, Try.ntmps30; go_wp2_with fail; replace HA := Lib.hid (HA.out.below (below_alloc _ (.cells #[.int .i64 n, .slice A xs.length c] 30))); replace HW := Lib.hid (HW.out.below (below_alloc _ (.cells #[.int .i64 n, .slice A xs.length c] 30)))
    refine (IsSystem_any n A c xs _ HA.out hl).mono ?_; rw [hs]; rintro e w_ ⟨rfl, hb⟩; replace HA := Lib.hid (HA.out.below hb); replace HW := Lib.hid (HW.out.below hb); replace HR := Lib.hid (HR.out.below hb); clear hb; (try clear c0 c1); obtain ⟨c0, c1⟩ := HR.out.c2
    have HV0 := Lib.hid (Row.new w_ 2 (icells (n + 1) (fun _ => 0)))
    have HBA := Lib.hid (below_alloc w_ (.cells (icells (n + 1) (fun _ => 0)) 2))
    have HR4 := Lib.hid (HR.out.below HBA.out)
    obtain ⟨d0, d1⟩ := HR4.out.c2
    have hrl4 := HR4.out.lt
    have hrl := HR.out.lt
    go_wp2_with fail
    refine (code_any n A c xs _ (HA.out.below HBA.out) HS.out).mono ?_
    rintro e w5 ⟨b, k, rfl, hM, hbb, hb⟩
    have HV5 : Hid (Va w5 w_.heap.size (n + 1) (fun _ => 0)) := Va.below HV0.out hb
    have HB5 := Lib.hid (below_up HBA.out hb)
    have HW5 := Lib.hid (HW.out.below HB5.out)
    have HGB : Hid (w_.heap.size < b) := by have h1 := HBA.out.size; rw [World.size_alloc] at h1 hbb; unfold Hid; omega
    have HGW : Hid (w.heap.size ≤ w_.heap.size) := HW.out.size
    obtain ⟨D, hown, hD⟩ := hM
    have HD := Lib.hid hD
    have hbl := hown.lt
    clear hb hmk c0 c1 d0 d1 hrl4 hrl hD hbb HV0 HBA
    obtain ⟨g, hg⟩ : ∃ g, g = w_.heap.size := ⟨_, rfl⟩
    rw [← hg] at HV5 HGB HGW
    rw [← hg]
    have HZG : Hid (w_.heap.size ≤ g) := Nat.le_of_eq hg.symm
    clear hg
    go_wp2_with (at_range; refine wpList_range_own _ rfl _ 73 rfl 76 4 setK Try.underlying73 _ b k D rfl hown ?_; intro w6 hrg0 hg6 hs6)
    go_frame
    have hb56 : Below w5.heap.size w5 w6 := ⟨hg6.os, hg6.tape, hg6.output, hg6.size, fun q hq => hg6.block q hq (by simp)⟩
    have HV6 := Lib.hid (HV5.out.below hb56)
    have HB6 := Lib.hid (below_up HB5.out hb56)
    have HGR : Hid (g < w5.heap.size) := HV5.out.lt
    obtain ⟨rr, hrr⟩ : ∃ rr, rr = w5.heap.size := ⟨_, rfl⟩
    rw [← hrr] at hrg0 HGR
    rw [← hrr]
    have HRG := Lib.hid hrg0
    have HDS : Hid (∀ s, s < 32768 → has D (uk s) = spF (mkF xs) xs.length s) := HD.out.has
    clear hrr hb56 hg6 hs6 hrg0 hown hbl
    generalize hwt : wtC (onesF 15) (mkF xs) xs.length = wt at *
    have HWT : Hid (∀ t, wt t = cntF (fun s => spF (mkF xs) xs.length s && (onesF 15 s == t)) 32768) := fun t => by rw [← hwt]; rfl
    clear hwt
    go_loopw [5] (fun _ wr => Hid (∃ left cnt, ∃ G : Nat → Nat, wr.ranges Try.prog 76 (plainElem Try.prog 4) b rr k D left cnt ∧ Va wr g (n + 1) (fun t => ((G t : Nat) : Int)) ∧ (∀ kl, left kl = true → has D kl = true) ∧ (∀ t, G t + cntF (fun s => left (uk s) && (onesF 15 s == t)) 32768 = wt t) ∧ Below w_.heap.size w_ wr)) (fun _ wr => wr.rangeLeft b rr)
    case atStart =>
      refine ⟨has D, Maps.size D, fun _ => 0, HRG.out, HV6.out, fun kl h => h, fun t => ?_, HB6.out⟩
      rw [HWT.out, Nat.zero_add]
      exact cntF_congr _ fun s hs => by rw [HDS.out s hs]
    case round =>
      obtain ⟨left, cnt, G, hrg, hva, hlh, hsum, hbw⟩ := hrel.out
      clear hrel
      have HVA := Lib.hid hva
      have HSUM := Lib.hid hsum
      have HBW := Lib.hid hbw
      have HLH := Lib.hid hlh
      clear hva hsum hbw hlh
      go_wp2_with (at_next; refine wpList_next_words _ rfl _ rfl b rr k D _ left cnt rfl hrg HD.out HLH.out ?_ ?_)
      · intro hc0 hl0
        have HWE : Hid (∀ t, G t = wt t) := fun t => by have := HSUM.out t; rw [cnt_none _ _ hl0] at this; simpa using this
        have HO : Hid (Ro wr w.heap.size (.slice (some ⟨g, 0, none⟩) (n + 1) (n + 1)) ((List.range (n + 1)).map fun t => ((wt t : Nat) : Int))) := by
          have h := (HVA.out.ext (G := fun t => ((wt t : Nat) : Int)) (fun i _ => by rw [HWE.out])).own HGW.out (by unfold maxLen; omega)
          unfold Hid Ro
          simpa using h
        go_wp2
        go_ret2
        exact LP.mk HO.out (by rw [HN.out]) (by rw [HN.out]) (HW.out.below HBW.out)
      · intro s w7 cnt' hs15 hlk hrg7 hlt hg7 hs7 hen
        have hsp : spF (mkF xs) xs.length s = true := by rw [← HDS.out s hs15]; exact HLH.out _ hlk
        have hon := HSP.out s hs15 hsp
        have hrl := hrg.lt
        have hg1 := HGR.out
        have hg2 := HGB.out
        have HV7 : Hid (Va w7 g (n + 1) (fun t => ((G t : Nat) : Int))) := Row.grown HVA.out hg7 (by simp; omega)
        have HB7 : Hid (Below w_.heap.size w_ w7) := HBW.out.grown hg7 HBW.out.size (fun q e => by simp only [Option.some.injEq] at e; have := HZG.out; omega)
        have HCL := Lib.hid (fun t => cnt_left (left := left) (s0 := s) (onesF 15) t hlk hs15)
        have hgb : G (onesF 15 s) ≤ 32768 := by have h1 := HSUM.out (onesF 15 s); have h2 := HWB.out (onesF 15 s); omega
        have HSZ1 := Lib.hid (setSize_any s w7 hs15)
        generalize onesF 15 s = j at *
        have q0 := HV7.out.cell (i := j) (by omega)
        have qf := HV7.out.frozen j
        have ql := HV7.out.lt
        have HV8 := Lib.hid (HV7.out.set j ((G j : Int) + 1))
        have hrg8 := hrg7.kept (grown_set (grown_refl w7 (some g)) j (.int .i64 ((G j : Int) + 1))) (by simp; omega) (by simp; omega)
        have HB8 := Lib.hid (HB7.out.setCell (p := ⟨g, j, none⟩) HZG.out (.int .i64 ((G j : Int) + 1)))
        go_wp2_with fail
        refine HSZ1.out.mono ?_
        rintro e w8 ⟨rfl, rfl⟩
        go_wp2
        go_roundw
        case rel =>
          refine ⟨_, cnt', updA G j (G j + 1), hrg8, ?_, fun kl h => ?_, fun t => ?_, HB8.out⟩
          · refine HV8.out.ext fun i hi => ?_
            unfold upd updA
            split <;> simp
          · simp only [Bool.and_eq_true] at h
            exact HLH.out kl h.1
          · have h1 := HSUM.out t
            rw [HCL.out t] at h1
            unfold updA
            by_cases e : t = j
            · subst e; rw [if_pos rfl] at h1 ⊢; omega
            · rw [if_neg e]; rw [if_neg (fun h => e h.symm)] at h1; omega
        case measure => rw [hrg8.left_eq, hrg.left_eq]; exact hlt

end Go.Proofs.Ytbknpflbafjblaa

/- The contract of the reference's words of the code; conditions: stated in it. -/
namespace Go.Proofs.Ytbknpflbafjblaa
open Go.RowKit
set_option maxHeartbeats 2000000
set_option maxRecDepth 100000
set_option linter.unusedSimpArgs false
set_option linter.unusedVariables false

def IL (L : List Nat) : List Int := L.map fun s : Nat => (s : Int)
theorem IL_len (L : List Nat) : (IL L).length = L.length := by simp [IL]
theorem IL_nth {L : List Nat} {k : Nat} (h : k < L.length) : nthI (IL L) k = ((L.getD k 0 : Nat) : Int) := by simp [IL, nthI, h]
theorem pow_wrap : ∀ n : Nat, n < 16 → IntKind.i64.wrap ((2 : Int) ^ min (IntKind.u64.wrap (n : Int)).toNat 64) = ((2 ^ n : Nat) : Int) := by decide +kernel
theorem roSnoc {w : World} {base : Nat} {v : Value} {xs : List Int} {b : Int} (h : w.ownsRow base 2 1 v (xs.length + 1) (xs.map (Value.int .i64) ++ [.int .i64 b])) : Ro w base v (xs ++ [b]) := by
  unfold Ro; simpa using h
theorem l09Words_any (n : Nat) (A : Option Addr) (c : Nat) (xs : List Blk) (w : World) (hA : Bl w A xs) (hs : isSys n xs) :
    Calls Try.prog 71 #[.agg #[.int .i64 n, .slice A xs.length c]] w fun e w' => ∃ u L, e = .returned u ∧ Ro w' w.heap.size u (IL L) ∧ Wds (mkF xs) xs.length L ∧ Below w.heap.size w w' := by
  obtain ⟨ni0, hni, hni0, hni1, hni2⟩ := info_parts infoInt'
  have hx35 := hs.2.1
  have hv15 := hs.1.2
  have HAR : Hid (areB n xs) := hs.2.2.1
  have HMK : Hid (∀ i, i < xs.length → mkF xs i < 2 ^ n) := mk_lt hs
  have h2n : 2 ^ n ≤ 2 ^ 15 := Nat.pow_le_pow_right (by omega) (by omega)
  have hpos : 0 < 2 ^ n := Nat.pow_pos (by omega)
  have HX := Lib.hid (below_alloc w (.cells #[.int .i64 n, .slice A xs.length c] 30))
  have HA := Lib.hid (hA.below HX.out)
  have HR := Lib.hid (Row.box w 30 (.int .i64 n) (.slice A xs.length c))
  have hpw := pow_wrap n (by omega)
  have hmk : ∀ W' : World, (Instr.makeSlice 108 (.int .i64 (IntKind.i64.wrap ((2 : Int) ^ min (IntKind.u64.wrap (n : Int)).toNat 64))) (.int .i64 (IntKind.i64.wrap ((2 : Int) ^ min (IntKind.u64.wrap (n : Int)).toNat 64)))).run Try.prog W' = .ok (.slice (some ⟨W'.heap.size, 0, none⟩) (2 ^ n) (2 ^ n)) (W'.alloc (.cells (bcells (2 ^ n) (fun _ => false)) 4)) := fun W' => by
    rw [hpw]
    have := make_bools ((2 ^ n : Nat) : Int) W' (by omega) (by omega)
    rw [Int.toNat_natCast] at this
    exact this
  clear hA hs hpw
  go_enter Try.func71, Try.ntmps71
  go_wp2
  have HKEEP := Lib.hid HR.out.c2
  generalize hW5 : w.alloc (.cells #[.int .i64 n, .slice A xs.length c] 30) = W5 at *
  have HBB : Hid (∀ W, Below W5.heap.size W5 W → (W.cell? ⟨w.heap.size, 0, none⟩ = some (.int .i64 n) ∧ W.cell? ⟨w.heap.size, 1, none⟩ = some (.slice A xs.length c))) := fun W hb => (HR.out.below hb).c2
  go_region_held3 (fun w' => w'.cell? ⟨w.heap.size, 0, none⟩ = some (.int .i64 n) ∧ w'.cell? ⟨w.heap.size, 1, none⟩ = some (.slice A xs.length c)) (first | exact HKEEP.out | exact HBB.out _ (by (repeat' (first | (with_reducible exact Below.refl _ _) | (with_reducible assumption) | (with_reducible refine below_drewN ?_ _) | (with_reducible refine Below.drew ?_) | (with_reducible refine Below.alloc ?_ ?_ _) | (with_reducible refine Below.setCell ?_ ?_ _) | go_size)))) (fail)
  -- two orders
  obtain ⟨w3, hw_⟩ : ∃ x : World, x = ((W5.alloc (.cells #[.int .i64 0] 2)).alloc (.cells (bcells (2 ^ n) (fun _ => false)) 4)).drew := ⟨_, rfl⟩
  obtain ⟨gw, hg_⟩ : ∃ x : Nat, x = W5.heap.size := ⟨_, rfl⟩
  obtain ⟨gm, hm_⟩ : ∃ x : Nat, x = W5.heap.size + 1 := ⟨_, rfl⟩
  have HL3 : Hid (Ro w3 W5.heap.size (.slice (some ⟨gw, 0, none⟩) 1 1) (IL [0])) := by rw [hw_, hg_]; exact (Ro.below (show Ro (W5.alloc (.cells #[.int .i64 0] 2)) W5.heap.size (.slice (some ⟨W5.heap.size, 0, none⟩) 1 1) (IL [0]) from ⟨rfl, .inr ⟨W5.heap.size, 1, #[.int .i64 0], rfl, Nat.le_refl _, heap_alloc_new W5 _, Nat.le_refl _, by unfold maxLen; omega, rfl, rfl⟩⟩) (below_up (below_alloc _ (.cells (bcells (2 ^ n) (fun _ => false)) 4)) (below_drew _)))
  have HV3 : Hid (Vb w3 gm (2 ^ n) (fun _ => false)) := by rw [hw_, hm_]; have h := (Vb.new (W5.alloc (.cells #[.int .i64 0] 2)) (2 ^ n) (fun _ => false)).below (below_drew _); rw [World.size_alloc] at h; exact h
  have HB3 : Hid (Below W5.heap.size W5 w3) := by rw [hw_]; exact below_up (below_up (below_alloc W5 (.cells #[.int .i64 0] 2)) (below_alloc _ (.cells (bcells (2 ^ n) (fun _ => false)) 4))) (below_drew _)
  have HGM : Hid (W5.heap.size ≤ gm) := by unfold Hid; omega
  rw [← hw_, ← hm_, ← hg_]
  clear hw_ hg_ hm_
  rotate_left
  obtain ⟨w3, hw_⟩ : ∃ x : World, x = ((W5.alloc (.cells (bcells (2 ^ n) (fun _ => false)) 4)).alloc (.cells #[.int .i64 0] 2)).drew := ⟨_, rfl⟩
  obtain ⟨gw, hg_⟩ : ∃ x : Nat, x = W5.heap.size + 1 := ⟨_, rfl⟩
  obtain ⟨gm, hm_⟩ : ∃ x : Nat, x = W5.heap.size := ⟨_, rfl⟩
  have HL3 : Hid (Ro w3 W5.heap.size (.slice (some ⟨gw, 0, none⟩) 1 1) (IL [0])) := by rw [hw_, hg_]; exact (by have h : Ro ((W5.alloc (.cells (bcells (2 ^ n) (fun _ => false)) 4)).alloc (.cells #[.int .i64 0] 2)) W5.heap.size (.slice (some ⟨(W5.alloc (.cells (bcells (2 ^ n) (fun _ => false)) 4)).heap.size, 0, none⟩) 1 1) (IL [0]) := ⟨rfl, .inr ⟨(W5.alloc (.cells (bcells (2 ^ n) (fun _ => false)) 4)).heap.size, 1, #[.int .i64 0], rfl, by simp, heap_alloc_new (W5.alloc (.cells (bcells (2 ^ n) (fun _ => false)) 4)) _, Nat.le_refl _, by unfold maxLen; omega, rfl, rfl⟩⟩; rw [World.size_alloc] at h; exact h.below (below_drew _))
  have HV3 : Hid (Vb w3 gm (2 ^ n) (fun _ => false)) := by rw [hw_, hm_]; exact (Vb.new W5 (2 ^ n) (fun _ => false)).below (below_up (below_alloc _ (.cells #[.int .i64 0] 2)) (below_drew _))
  have HB3 : Hid (Below W5.heap.size W5 w3) := by rw [hw_]; exact below_up (below_up (below_alloc W5 (.cells (bcells (2 ^ n) (fun _ => false)) 4)) (below_alloc _ (.cells #[.int .i64 0] 2))) (below_drew _)
  have HGM : Hid (W5.heap.size ≤ gm) := by unfold Hid; omega
  rw [← hw_, ← hg_, ← hm_]
  clear hw_ hg_ hm_
  rotate_left
  all_goals
    have q0 := HV3.out.cell (i := 0) hpos
    have qf := HV3.out.frozen 0
    have ql := HV3.out.lt
    have HV4 : Hid (Vb (w3.setCell ⟨gm, 0, none⟩ (.bool true)) gm (2 ^ n) (spF (mkF xs) 0)) := (HV3.out.set 0 true).ext fun i _ => by
      unfold updA spF
      by_cases e : i = 0
      · simp [e]
      · simp [e]
    have HL4 : Hid (Ro (w3.setCell ⟨gm, 0, none⟩ (.bool true)) W5.heap.size (.slice (some ⟨gw, 0, none⟩) 1 1) (IL [0])) := World.ownsRow.kept HL3.out (grown_set (grown_refl _ (some gm)) _ _) (.inr (own_typed HL3.out ⟨_, HV3.out⟩ (by decide)))
    have HB4 := Lib.hid (HB3.out.setCell (p := ⟨gm, 0, none⟩) HGM.out (.bool true))
    clear hmk HKEEP
    generalize IntKind.i64.wrap ((2 : Int) ^ min (IntKind.u64.wrap (n : Int)).toNat 64) = zz2
    generalize IntKind.u64.wrap (n : Int) = zz1
    go_wp2
    clear q0 qf ql
    go_loopw [3, 5] (fun u i wr => ∃ (q : Nat) (L : List Nat), q ≤ xs.length ∧ i = .int .i64 q ∧ Hid (Below W5.heap.size W5 wr ∧ Vb wr gm (2 ^ n) (spF (mkF xs) q) ∧ Ro wr W5.heap.size u (IL L) ∧ Wds (mkF xs) q L)) (fun _ i _ => xs.length - (intOf i).toNat)
    case atStart => exact ⟨0, [0], by omega, rfl, HB4.out, HV4.out, HL4.out, Wds.start _⟩
    case round =>
      obtain ⟨q, L, hq, rfl, HC⟩ := hrel
      obtain ⟨c0, c1⟩ := HBB.out _ HC.out.1
      have hrl : w.heap.size < wr.heap.size := (HR.out.below HC.out.1).lt
      by_cases hlt : q < xs.length
      · obtain ⟨b1, o1, hA1, hb1, p0, p1, p2⟩ := (HA.out.below HC.out.1).at_ hlt
        subst hA1
        have hg := (HAR.out q hlt).1
        have HG : Hid (goodB 15 (nth xs q) = true) := good_mono hg hv15
        have hmq := HMK.out q hlt
        go_wp2_with fail
        refine (l05Bits_any _ _ HG.out).mono ?_
        rintro e w6 ⟨rfl, hb⟩
        have HB56 := Lib.hid (below_up HC.out.1 hb)
        have HV6 := Lib.hid (HC.out.2.1.below hb)
        have HL6 := Lib.hid (HC.out.2.2.1.below hb)
        have HWD := Lib.hid HC.out.2.2.2
        clear hb p0 p1 p2 c0 c1 hrl HC
        have hmm : maskB (nth xs q) = mkF xs q := rfl
        rw [hmm]
        clear hmm
        have q0 := HV6.out.cell hmq
        have ql := HV6.out.lt
        cases hin : spF (mkF xs) q (mkF xs q)
        · rw [hin] at q0
          have hL0 : 0 < L.length := List.length_pos_of_mem ((HWD.out.mem 0).2 (spF_zero _ _))
          have hll := HWD.out.len (N := n) fun j hj => HMK.out j (by omega)
          obtain ⟨Au, cu, hu⟩ := own_slice HL6.out
          rw [IL_len] at hu
          subst hu
          have hrl : L.reverse.length = L.length := List.length_reverse
          have HST : Hid (∀ t, t < L.length → ∀ s, ((spF (mkF xs) q s || decide (s ∈ (L.reverse.take (t + 1)).map (fun s => s ^^^ mkF xs q))) = updA (fun s => spF (mkF xs) q s || decide (s ∈ (L.reverse.take t).map (fun s => s ^^^ mkF xs q))) (L.getD (L.length - 1 - t) 0 ^^^ mkF xs q) true s)) := fun t ht s => by
            have e : L.reverse.take (t + 1) = L.reverse.take t ++ [L.getD (L.length - 1 - t) 0] := by
              rw [List.take_succ_eq_append_getElem (by omega), List.getElem_reverse]
              have : L.length - 1 - t < L.length := by omega
              simp [this]
            rw [e, List.map_append]
            unfold updA
            by_cases h : s = L.getD (L.length - 1 - t) 0 ^^^ mkF xs q
            · rw [if_pos h, Bool.or_eq_true, decide_eq_true_eq]
              right; rw [h]; simp
            · rw [if_neg h]
              congr 1
              simp only [List.mem_append, List.map_cons, List.map_nil, List.mem_singleton]
              simp only [h, or_false]
          have HTK : Hid (∀ t, t < L.length → (L ++ (L.reverse.take t).map (fun s => s ^^^ mkF xs q)) ++ [L.getD (L.length - 1 - t) 0 ^^^ mkF xs q] = L ++ (L.reverse.take (t + 1)).map (fun s => s ^^^ mkF xs q)) := fun t ht => by
            have e : L.reverse.take (t + 1) = L.reverse.take t ++ [L.getD (L.length - 1 - t) 0] := by
              rw [List.take_succ_eq_append_getElem (by omega), List.getElem_reverse]
              have : L.length - 1 - t < L.length := by omega
              simp [this]
            rw [e, List.map_append, List.append_assoc]; rfl
          have HLT : Hid (∀ t, t < L.length → L.getD t 0 < 2 ^ n) := fun t ht => by
            have h1 : L.getD t 0 ∈ L := by
              have : L.getD t 0 = L[t] := by simp [ht]
              rw [this]; exact List.getElem_mem ht
            exact spF_lt q (fun j hj => HMK.out j (by omega)) _ ((HWD.out.mem _).1 h1)
          have HV7 : Hid (Vb w6 gm (2 ^ n) (fun s => spF (mkF xs) q s || decide (s ∈ (L.reverse.take 0).map (fun s => s ^^^ mkF xs q)))) := HV6.out.ext fun s _ => by simp
          have HL7 : Hid (Ro w6 W5.heap.size (.slice Au L.length cu) (IL (L ++ (L.reverse.take 0).map (fun s => s ^^^ mkF xs q)))) := by
            have := HL6.out
            unfold Hid
            simpa using this
          clear HV6 HL6
          go_wp2
          clear q0 ql
          go_loopw [3, 7] (fun u j wq => ∃ t : Nat, t ≤ L.length ∧ j = .int .i64 ((L.length : Int) - 1 - t) ∧ Hid (Below W5.heap.size W5 wq ∧ Vb wq gm (2 ^ n) (fun s => spF (mkF xs) q s || decide (s ∈ (L.reverse.take t).map (fun s => s ^^^ mkF xs q))) ∧ Ro wq W5.heap.size u (IL (L ++ (L.reverse.take t).map (fun s => s ^^^ mkF xs q))))) (fun _ j _ => (intOf j + 1).toNat)
          case atStart => exact ⟨0, by omega, by go_num, HB56.out, HV7.out, HL7.out⟩
          case round =>
            obtain ⟨t, ht, rfl, HD⟩ := hrel
            by_cases htl : t < L.length
            · obtain ⟨k, hk⟩ : ∃ k : Nat, k = L.length - 1 - t := ⟨_, rfl⟩
              have hkI : (L.length : Int) - 1 - t = (k : Int) := by omega
              have hkl : k < L.length := by omega
              have HST1 := Lib.hid (HST.out t htl)
              have HTK1 := Lib.hid (HTK.out t htl)
              rw [← hk] at HST1 HTK1
              have hs1 := HLT.out k hkl
              have hm1l : (L ++ (L.reverse.take t).map (fun s => s ^^^ mkF xs q)).length ≤ 65536 := by rw [List.length_append, List.length_map, List.length_take, hrl]; omega
              have HM1 : Hid (k < (L ++ (L.reverse.take t).map (fun s => s ^^^ mkF xs q)).length ∧ (L ++ (L.reverse.take t).map (fun s => s ^^^ mkF xs q)).getD k 0 = L.getD k 0) := ⟨by rw [List.length_append]; omega, by simp [List.getD_eq_getElem?_getD, List.getElem?_append_left hkl]⟩
              have HDV := Lib.hid HD.out.2.1
              have HDB := Lib.hid HD.out.1
              have HDR := Lib.hid HD.out.2.2
              clear HD
              generalize (L ++ (L.reverse.take t).map (fun s => s ^^^ mkF xs q)) = M1 at *
              generalize (fun s => spF (mkF xs) q s || decide (s ∈ (L.reverse.take t).map (fun s => s ^^^ mkF xs q))) = S1 at *
              obtain ⟨g0, c0', hu, hge0, hgl0, hx0⟩ := HDR.out.form (by rw [IL_len]; have := HM1.out.1; omega)
              rw [IL_len] at hu
              have hkm : k < M1.length := HM1.out.1
              have hkm2 : k < M1.length + 1 := by omega
              subst hu
              have x0 := hx0 k (by rw [IL_len]; exact HM1.out.1)
              rw [IL_nth HM1.out.1, HM1.out.2] at x0
              generalize L.getD k 0 = s at *
              have hxo := bits_xor_i s (mkF xs q) (Nat.lt_of_lt_of_le hs1 h2n) (Nat.lt_of_lt_of_le hmq h2n)
              have hxl : s ^^^ mkF xs q < 2 ^ n := Nat.xor_lt_two_pow hs1 hmq
              have HO : Hid (wr.ownsRow W5.heap.size 2 1 (.slice (some ⟨g0, 0, none⟩) M1.length c0') M1.length ((IL M1).map (Value.int .i64))) := by have := HDR.out; unfold Ro at this; rw [IL_len] at this; exact this
              have h5w : W5.heap.size ≤ wr.heap.size := HDB.out.size
              have HT : Hid (t + 1 ≤ L.length) := htl
              have HKT : Hid ((k : Int) - 1 = (L.length : Int) - 1 - ((t + 1 : Nat) : Int)) := by unfold Hid; omega
              have hk0 : (0 : Int) ≤ (k : Int) := by omega
              rw [hkI]
              clear hx0 hkI hk
              go_wp2_with (at_builtin; (refine wpList_append_own_at _ rfl _ _ 42 rfl W5.heap.size 2 ni0 (.int .i64 0) 1 8 Try.underlying42 hni hni0 hni1 hni2 rfl (by decide) _ _ _ rfl (HO.out.alloc _) ⟨wr.heap.size, 0, none⟩ 1 1 [.int .i64 ((s ^^^ mkF xs q : Nat) : Int)] rfl rfl (cells_new _ _ _) (by simp [Value.oneCell']) (by unfold maxLen; omega) (by omega) (by simp; omega) ?_); intro v2 w9 hown2 hg9 _ hat2; (have hRN : Ro w9 W5.heap.size v2 (IL M1 ++ [((s ^^^ mkF xs q : Nat) : Int)]) := roSnoc (by rw [IL_len]; exact hown2)); (obtain ⟨g2, c2, hv2, hge2, hgl2, hx2⟩ := hRN.form (by simp)); (have r2 := hx2 k (by rw [List.length_append, IL_len]; have := HM1.out.1; omega)); (have e2 : nthI (IL M1 ++ [((s ^^^ mkF xs q : Nat) : Int)]) k = (s : Int) := by { have h1 := IL_nth HM1.out.1; rw [HM1.out.2] at h1; rw [← h1]; unfold nthI; simp [List.getD_eq_getElem?_getD, List.getElem?_append_left (show k < (IL M1).length by rw [IL_len]; exact HM1.out.1)] }); (rw [e2] at r2); (have hll2 : (IL M1 ++ [((s ^^^ mkF xs q : Nat) : Int)]).length = M1.length + 1 := by rw [List.length_append, IL_len]; rfl); (rw [hll2] at hv2); subst hv2; (have HRN := Lib.hid hRN); (have HV9 : Hid (Vb w9 gm (2 ^ n) S1) := (HDV.out.below (below_alloc _ _)).grown hg9 (own_typed HO.out ⟨_, HDV.out⟩ (by decide))); (have q9 := HV9.out.cell hxl); (have f9 := HV9.out.frozen (s ^^^ mkF xs q)); (have l9 := HV9.out.lt); (have HB9 : Hid (Below W5.heap.size W5 w9) := (HDB.out.alloc h5w _).grown hg9 (by rw [World.size_alloc]; omega) (own_block HO.out)); clear hown2 hg9 hat2 hRN hx2 e2 hge2)
              have HV10 : Hid (Vb (w9.setCell ⟨gm, s ^^^ mkF xs q, none⟩ (.bool true)) gm (2 ^ n) (updA S1 (s ^^^ mkF xs q) true)) := HV9.out.set _ true
              have HR10 : Hid (Ro (w9.setCell ⟨gm, s ^^^ mkF xs q, none⟩ (.bool true)) W5.heap.size (.slice (some ⟨g2, 0, none⟩) (M1.length + 1) c2) (IL M1 ++ [((s ^^^ mkF xs q : Nat) : Int)])) := World.ownsRow.kept HRN.out (grown_set (grown_refl _ (some gm)) _ _) (.inr (own_typed HRN.out ⟨_, HV9.out⟩ (by decide)))
              have HB10 := Lib.hid (HB9.out.setCell (p := ⟨gm, s ^^^ mkF xs q, none⟩) HGM.out (.bool true))
              have hIL : IL M1 ++ [((s ^^^ mkF xs q : Nat) : Int)] = IL (M1 ++ [s ^^^ mkF xs q]) := by simp [IL]
              rw [hIL, HTK1.out] at HR10
              have HV11 := Lib.hid (HV10.out.ext fun r _ => (HST1.out r).symm)
              go_wp2
              go_roundw
              case rel => exact ⟨t + 1, HT.out, by rw [← HKT.out], HB10.out, HV11.out, HR10.out⟩
              case measure => first | (simp [intOf]; done) | (simp [intOf]; omega)
            · obtain rfl : t = L.length := by omega
              have hD2 := HD.out.2
              rw [← hrl, List.take_length] at hD2
              have HDE := Lib.hid hD2
              have HWE := Lib.hid (HWD.out.more hin (List.reverse_perm L))
              have HME : Hid (Vb wr gm (2 ^ n) (spF (mkF xs) (q + 1))) := HDE.out.1.ext fun s _ => by
                rw [spF]
                congr 1
                rw [Bool.eq_iff_iff, decide_eq_true_eq, List.mem_map]
                constructor
                · rintro ⟨a, ha, rfl⟩
                  rw [xor_twice]; exact (HWD.out.mem a).1 (List.mem_reverse.1 ha)
                · intro h
                  exact ⟨s ^^^ mkF xs q, List.mem_reverse.2 ((HWD.out.mem _).2 h), xor_twice _ _⟩
              have HBE := Lib.hid HD.out.1
              clear hD2 HD
              go_wp2
              go_roundw
              case rel => exact ⟨q + 1, _, by omega, by go_num, HBE.out, HME.out, HDE.out.2, HWE.out⟩
              case measure => simp [intOf]; omega
        · rw [hin] at q0
          have HWS := Lib.hid (HWD.out.skip hin)
          have HVS := Lib.hid (HV6.out.ext (G := spF (mkF xs) (q + 1)) fun s _ => (spF_skip hin s).symm)
          go_wp2
          go_roundw
          case rel => exact ⟨q + 1, L, by omega, by go_num, HB56.out, HVS.out, HL6.out, HWS.out⟩
          case measure => simp [intOf]; omega
      · obtain rfl : q = xs.length := by omega
        have HLF := Lib.hid (own_base HC.out.2.2.1 HX.out.size)
        have HWF := Lib.hid HC.out.2.2.2
        have HBF := Lib.hid (below_up HX.out HC.out.1)
        go_wp2
        go_ret
        exact ⟨_, L, rfl, HLF.out, HWF.out, HBF.out⟩

end Go.Proofs.Ytbknpflbafjblaa

/- The contract of the reference's WordsByWeight; conditions: stated in it. -/
namespace Go.Proofs.Ytbknpflbafjblaa
open Go.RowKit
set_option maxHeartbeats 2000000
set_option maxRecDepth 100000
set_option linter.unusedSimpArgs false
set_option linter.unusedVariables false

theorem specWbw_any (v : Int) (A : Option Addr) (c : Nat) (xs : List Blk) (w : World) (hA : Bl w A xs) (hl : xs.length ≤ 1048576) :
    Calls Try.prog 29 #[.agg #[.int .i64 v, .slice A xs.length c]] w (LP w (wbR v xs).1 (wbR v xs).2) := by
  cases hs : isSysB v xs
  · have HN : Hid (wbR v xs = ([], 1)) := by unfold Hid wbR; simp [hs]
    generalize wbR v xs = R at *
    have HA := Lib.hid hA; clear hA; have HR := Lib.hid (Row.box w 30 (.int .i64 v) (.slice A xs.length c)); have HW := Lib.hid (Since.refl w); go_enter Try.func29, Try.ntmps29; go_wp2_with fail; replace HA := Lib.hid (HA.out.below (below_alloc _ (.cells #[.int .i64 v, .slice A xs.length c] 30))); replace HW := Lib.hid (HW.out.below (below_alloc _ (.cells #[.int .i64 v, .slice A xs.length c] 30)))
    refine (l01Is_any v A c xs _ HA.out hl).mono ?_; rw [hs]; rintro e w_ ⟨rfl, hb⟩; replace HW := Lib.hid (HW.out.below hb); clear hb
    go_wp2
    go_ret2
    exact LP.nil (by rw [HN.out]) (by rw [HN.out]) HW.out
  · have HS := Lib.hid (isSysB_iff.1 hs)
    have hv := HS.out.1
    obtain ⟨n, rfl⟩ := Int.eq_ofNat_of_zero_le (by omega : 0 ≤ v)
    have HN : Hid (wbR n xs = ((List.range (n + 1)).map fun t => ((wtC (onesF 15) (mkF xs) xs.length t : Nat) : Int), 0)) := by unfold Hid wbR; rw [if_pos hs]; rfl
    generalize wbR n xs = R at *
    have HMK : Hid (∀ j, j < xs.length → mkF xs j < 2 ^ n) := mk_lt HS.out
    have h2n : 2 ^ n ≤ 2 ^ 15 := Nat.pow_le_pow_right (by omega) (by omega)
    have hmk : ∀ W' : World, (Instr.makeSlice 42 (.int .i64 (IntKind.i64.wrap ((n : Int) + 1))) (.int .i64 (IntKind.i64.wrap ((n : Int) + 1)))).run Try.prog W' = .ok (.slice (some ⟨W'.heap.size, 0, none⟩) (n + 1) (n + 1)) (W'.alloc (.cells (icells (n + 1) (fun _ => 0)) 2)) := fun W' => by
      have hw1 : IntKind.i64.wrap ((n : Int) + 1) = n + 1 := by go_arith
      rw [hw1]
      have := make_ints2 ((n : Int) + 1) W' (by omega) (by omega)
      have e : ((n : Int) + 1).toNat = n + 1 := by omega
      rw [e] at this
      exact this
    have HA := Lib.hid hA; clear hA; have HR := Lib.hid (Row.box w 30 (.int .i64 n) (.slice A xs.length c)); have HW := Lib.hid (Since.refl w); go_enter Try.func29, Try.ntmps29; go_wp2_with fail; replace HA := Lib.hid (HA.out.below (below_alloc _ (.cells #[.int .i64 n, .slice A xs.length c] 30))); replace HW := Lib.hid (HW.out.below (below_alloc _ (.cells #[.int .i64 n, .slice A xs.length c] 30)))
    refine (l01Is_any n A c xs _ HA.out hl).mono ?_; rw [hs]; rintro e w_ ⟨rfl, hb⟩; replace HA := Lib.hid (HA.out.below hb); replace HW := Lib.hid (HW.out.below hb); replace HR := Lib.hid (HR.out.below hb); clear hb; (try clear c0 c1); obtain ⟨c0, c1⟩ := HR.out.c2
    go_wp2
    have HKEEP := Lib.hid (And.intro c0 c1)
    have HBB : Hid (∀ W, Below w_.heap.size w_ W → (W.cell? ⟨w.heap.size, 0, none⟩ = some (.int .i64 n) ∧ W.cell? ⟨w.heap.size, 1, none⟩ = some (.slice A xs.length c))) := fun W hb => (HR.out.below hb).c2
    clear c0 c1
    go_region_held3 (fun w' => w'.cell? ⟨w.heap.size, 0, none⟩ = some (.int .i64 n) ∧ w'.cell? ⟨w.heap.size, 1, none⟩ = some (.slice A xs.length c)) (first | exact HKEEP.out | exact HBB.out _ (by (repeat' (first | (with_reducible exact Below.refl _ _) | (with_reducible assumption) | (with_reducible refine below_drewN ?_ _) | (with_reducible refine Below.drew ?_) | (with_reducible refine Below.alloc ?_ ?_ _) | (with_reducible refine Below.setCell ?_ ?_ _) | go_size)))) (first
      | (go_at_call 71
         refine (l09Words_any n A c xs _ (HA.out.below (by (repeat' (first | (with_reducible exact Below.refl _ _) | (with_reducible assumption) | (with_reducible refine below_drewN ?_ _) | (with_reducible refine Below.drew ?_) | (with_reducible refine Below.alloc ?_ ?_ _) | (with_reducible refine Below.setCell ?_ ?_ _) | go_size)))) HS.out).mono ?_
         rintro e w3 ⟨u, L, rfl, hR, hW, hb⟩
         obtain ⟨Bw, dw, rfl, hI, hlt⟩ := hR.il
         have HI := Lib.hid hI
         have HLT := Lib.hid hlt
         have HWD := Lib.hid hW
         have HB3 : Hid (Below w_.heap.size w_ w3) := below_up (by (repeat' (first | (with_reducible exact Below.refl _ _) | (with_reducible assumption) | (with_reducible refine below_drewN ?_ _) | (with_reducible refine Below.drew ?_) | (with_reducible refine Below.alloc ?_ ?_ _) | (with_reducible refine Below.setCell ?_ ?_ _) | go_size))) hb
         have HP3 := Lib.hid hb
         replace HKEEP := Lib.hid (HBB.out _ HB3.out)
         have hb3 := HB3.out
         have hz3 := HB3.out.size
         clear hR hI hlt hW hb))
    obtain ⟨wS, hw_⟩ : ∃ x : World, x = w3.alloc (.cells (icells (n + 1) (fun _ => 0)) 2) := ⟨_, rfl⟩
    obtain ⟨g, hg_⟩ : ∃ x : Nat, x = w3.heap.size := ⟨_, rfl⟩
    have HV0 : Hid (Va wS g (n + 1) (fun _ => 0)) := by rw [hw_, hg_]; exact Row.new _ _ _
    have HBS : Hid (Below w_.heap.size w_ wS) := by rw [hw_]; exact below_up HB3.out (below_alloc _ _)
    have HIS : Hid (Il wS Bw (IL L)) := by rw [hw_]; exact HI.out.below (below_alloc _ _)
    have HNE : Hid (∀ b, Bw.map Addr.block = some b → some g ≠ some b) := fun b e e2 => by have := (HLT.out b e).1; simp only [Option.some.injEq] at e2; omega
    have HGW : Hid (w_.heap.size ≤ g) := by rw [hg_]; exact hz3
    rw [← hw_, ← hg_]
    clear hw_ hg_ HP3 hb3 hz3 HI HB3 HLT
    rotate_left
    obtain ⟨wS, hw_⟩ : ∃ x : World, x = w3 := ⟨_, rfl⟩
    obtain ⟨g, hg_⟩ : ∃ x : Nat, x = w_.heap.size := ⟨_, rfl⟩
    have HV0 : Hid (Va wS g (n + 1) (fun _ => 0)) := by rw [hw_, hg_]; exact (HP3.out.block w_.heap.size (by simp)).trans (heap_alloc_new w_ _)
    have HBS : Hid (Below w_.heap.size w_ wS) := by rw [hw_]; exact HB3.out
    have HIS : Hid (Il wS Bw (IL L)) := by rw [hw_]; exact HI.out
    have HNE : Hid (∀ b, Bw.map Addr.block = some b → some g ≠ some b) := fun b e e2 => by have := (HLT.out b e).2.1; simp only [Option.some.injEq] at e2; simp at this; omega
    have HGW : Hid (w_.heap.size ≤ g) := Nat.le_of_eq hg_.symm
    rw [← hw_, ← hg_]
    clear hw_ hg_ HP3 hb3 hz3 HI HB3 HLT
    rotate_left
    all_goals
      have hll := HWD.out.len (N := 15) fun j hj => Nat.lt_of_lt_of_le (HMK.out j hj) h2n
      have HON : Hid (∀ k, k < L.length → L.getD k 0 < 2 ^ n) := fun k hk => by
        have h1 : L.getD k 0 ∈ L := by
          have : L.getD k 0 = L[k] := by simp [hk]
          rw [this]; exact List.getElem_mem hk
        exact spF_lt _ HMK.out _ ((HWD.out.mem _).1 h1)
      have HTK : Hid (∀ k, k < L.length → L.take (k + 1) = L.take k ++ [L.getD k 0]) := fun k hk => by
        rw [List.take_succ_eq_append_getElem hk]; simp [hk]
      have HWL : Hid (∀ k t, wcL (onesF 15) t (L.take k) ≤ 32768) := fun k t => by
        unfold wcL
        have h1 := List.length_filter_le (fun s => onesF 15 s == t) (L.take k)
        have h2 := List.length_take_le k L
        have h3 : (L.take k).length ≤ L.length := by rw [List.length_take]; omega
        omega
      have HWT : Hid (∀ t, wcL (onesF 15) t L = wtC (onesF 15) (mkF xs) xs.length t) := fun t => HWD.out.wt (fun j hj => Nat.lt_of_lt_of_le (HMK.out j hj) h2n) _ t
      have HGL : Hid (w.heap.size ≤ g) := Nat.le_trans HW.out.size HGW.out
      rw [IL_len]
      clear hmk HKEEP HWD
      generalize IntKind.i64.wrap ((n : Int) + 1) = zz
      generalize hwt : wtC (onesF 15) (mkF xs) xs.length = wt at *
      clear hwt
      go_wp2
      go_loopw [6] (fun i wr => ∃ k : Nat, k ≤ L.length ∧ i = .int .i64 k ∧ Hid (wS.grownBy wr (some g) ∧ Va wr g (n + 1) (fun t => ((wcL (onesF 15) t (L.take k) : Nat) : Int)) ∧ Below w_.heap.size w_ wr)) (fun i _ => L.length - (intOf i).toNat)
      case atStart => exact ⟨0, by omega, rfl, grown_refl _ _, HV0.out, HBS.out⟩
      case round =>
        obtain ⟨k, hk, rfl, HC⟩ := hrel
        by_cases hlt : k < L.length
        · obtain ⟨b1, o1, hA1, hb1, p0⟩ := (HIS.out.grown HC.out.1 HNE.out).at_ (k := k) (by rw [IL_len]; exact hlt)
          subst hA1
          rw [IL_nth hlt] at p0
          have hs := HON.out k hlt
          have HTK1 := Lib.hid (HTK.out k hlt)
          generalize L.getD k 0 = s at *
          have hs15 : s < 32768 := Nat.lt_of_lt_of_le hs h2n
          have hon := ones_fit n 15 s hs
          have HO1 := Lib.hid (fun W => l05Ones_any s W hs15)
          have HSN : Hid (∀ t, wcL (onesF 15) t (L.take (k + 1)) = wcL (onesF 15) t (L.take k) + if onesF 15 s = t then 1 else 0) := fun t => by rw [HTK1.out, wcL_snoc]
          generalize onesF 15 s = j at *
          go_wp2_with fail
          refine (HO1.out _).mono ?_
          rintro e w6 ⟨rfl, hb⟩
          have HV6 := Lib.hid (HC.out.2.1.below hb)
          have HB6 := Lib.hid (below_up HC.out.2.2 hb)
          have HG6 : Hid (wS.grownBy w6 (some g)) := World.grownBy.trans HC.out.1 (grown_below hb _)
          have hgb := HWL.out k j
          have q0 := HV6.out.cell (i := j) (by omega)
          have qf := HV6.out.frozen j
          have ql := HV6.out.lt
          have HV8 := Lib.hid (HV6.out.set j ((wcL (onesF 15) j (L.take k) : Int) + 1))
          have HG8 : Hid (wS.grownBy (w6.setCell ⟨g, j, none⟩ (.int .i64 ((wcL (onesF 15) j (L.take k) : Int) + 1))) (some g)) := grown_set HG6.out _ _
          have HB8 := Lib.hid (HB6.out.setCell (p := ⟨g, j, none⟩) HGW.out (.int .i64 ((wcL (onesF 15) j (L.take k) : Int) + 1)))
          have HV9 : Hid (Va (w6.setCell ⟨g, j, none⟩ (.int .i64 ((wcL (onesF 15) j (L.take k) : Int) + 1))) g (n + 1) (fun t => ((wcL (onesF 15) t (L.take (k + 1)) : Nat) : Int))) := HV8.out.ext fun i _ => by
            rw [HSN.out i]
            unfold upd
            by_cases e : i = j
            · subst e; simp
            · rw [if_neg e, if_neg (fun h => e h.symm)]; simp
          clear hb p0
          go_wp2
          go_roundw
          case rel => exact ⟨k + 1, by omega, by go_num, HG8.out, HV9.out, HB8.out⟩
          case measure => simp [intOf]; omega
        · obtain rfl : k = L.length := by omega
          have HO : Hid (Ro wr w.heap.size (.slice (some ⟨g, 0, none⟩) (n + 1) (n + 1)) ((List.range (n + 1)).map fun t => ((wt t : Nat) : Int))) := by
            have h := (HC.out.2.1.ext (G := fun t => ((wt t : Nat) : Int)) (fun i _ => by rw [List.take_length, HWT.out])).own HGL.out (by unfold maxLen; omega)
            unfold Hid Ro
            simpa using h
          have HBF := Lib.hid (HW.out.below HC.out.2.2)
          go_wp2
          go_ret2
          exact LP.mk HO.out (by rw [HN.out]) (by rw [HN.out]) HBF.out

end Go.Proofs.Ytbknpflbafjblaa
