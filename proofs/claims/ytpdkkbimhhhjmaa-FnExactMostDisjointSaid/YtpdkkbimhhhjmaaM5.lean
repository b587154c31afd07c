/- Lists of lists of numbers in memory, to be read; conditions: none. -/
import Derived.Test.YtpdkkbimhhhjmaaM3
import Derived.Maps.AppendAt
namespace Go.Proofs.Ytpdkkbimhhhjmaa
open Go.RowKit

theorem cells_newH {cw : World} {vs : List Value} {t : TypeId} {H : Nat} (hH : cw.heap.size = H) : ∀ j u, vs[j]? = some u → (cw.alloc (.cells vs.toArray t)).cell? ((⟨H, 0, none⟩ : Addr).add j) = some u := by
  subst hH; exact cells_new cw vs t
def nthLL (xss : List (List Int)) (k : Nat) : List Int := xss.getD k []
/-- the block is no block of the row 'u', is there, and is none of the first -/
def Free (w : World) (base : Nat) (u : Value) (B : Option Addr) : Prop := ∀ b, B.map Addr.block = some b → b < w.heap.size ∧ u.ownBlock ≠ some b ∧ base ≤ b
theorem Il.grown {w w' : World} {B : Option Addr} {xs : List Int} {row : Option Nat} (h : Il w B xs) (hg : w.grownBy w' row) (hB : ∀ b, B.map Addr.block = some b → row ≠ some b) : Il w' B xs := by
  rcases h with rfl | ⟨b, o, rfl, hlt, hc⟩
  · exact .inl rfl
  · refine .inr ⟨b, o, rfl, Nat.lt_of_lt_of_le hlt hg.size, fun k hk => ?_⟩
    have := hg.block b hlt (fun e => hB b rfl e.symm)
    exact (World.cell?_of_block (a := ⟨b, o + k, none⟩) this).trans (hc k hk)
/-- u is a row of its own of the lists' headers; each list can be read -/
def LLr (w : World) (base : Nat) (u : Value) (xss : List (List Int)) : Prop :=
  ∃ vs, w.ownsRow base 34 1 u xss.length vs ∧ ∀ k, k < xss.length → ∃ B d, vs[k]? = some (.slice B (nthLL xss k).length d) ∧ Il w B (nthLL xss k) ∧ Free w base u B
theorem LLr.nil (w : World) (base : Nat) : LLr w base (.slice none 0 0) [] := ⟨[], World.ownsRow_nil _ _ _ _, fun k hk => by simp at hk⟩
theorem LLr.below {w w' : World} {base : Nat} {u : Value} {xss : List (List Int)} (h : LLr w base u xss) (hb : Below w.heap.size w w') : LLr w' base u xss := by
  obtain ⟨vs, ho, hi⟩ := h
  refine ⟨vs, own_below ho hb, fun k hk => ?_⟩
  obtain ⟨B, d, h1, h2, h3⟩ := hi k hk
  exact ⟨B, d, h1, h2.below hb, fun b e => ⟨Nat.lt_of_lt_of_le (h3 b e).1 hb.size, (h3 b e).2⟩⟩
theorem LLr.base {w : World} {base base' : Nat} {u : Value} {xss : List (List Int)} (h : LLr w base u xss) (hb : base' ≤ base) : LLr w base' u xss := by
  obtain ⟨vs, ho, hi⟩ := h
  refine ⟨vs, own_base ho hb, fun k hk => ?_⟩
  obtain ⟨B, d, h1, h2, h3⟩ := hi k hk
  exact ⟨B, d, h1, h2, fun b e => ⟨(h3 b e).1, (h3 b e).2.1, Nat.le_trans hb (h3 b e).2.2⟩⟩
theorem LLr.snoc {w w1 w2 : World} {base : Nat} {u v2 : Value} {xss : List (List Int)} {vs : List Value} {B : Option Addr} {d : Nat} {xs : List Int}
    (hi : ∀ k, k < xss.length → ∃ B d, vs[k]? = some (.slice B (nthLL xss k).length d) ∧ Il w B (nthLL xss k) ∧ Free w base u B) (hv : vs.length = xss.length) (hB : Il w B xs) (hf : Free w base u B)
    (hb : Below w.heap.size w w1) (hg : w1.grownBy w2 u.ownBlock) (ho : w2.ownsRow base 34 1 v2 (xss.length + 1) (vs ++ [.slice B xs.length d])) (hat : v2.ownBlock = u.ownBlock ∨ v2.ownBlock = some w1.heap.size) :
    LLr w2 base v2 (xss ++ [xs]) := by
  have key : ∀ {C : Option Addr} {ys : List Int}, Il w C ys → Free w base u C → Il w2 C ys ∧ Free w2 base v2 C := by
    intro C ys h1 h2
    refine ⟨(h1.below hb).grown hg (fun b e => (h2 b e).2.1), fun b e => ⟨?_, ?_, (h2 b e).2.2⟩⟩
    · have := (h2 b e).1; have := hb.size; have := hg.size; omega
    · rcases hat with h | h
      · rw [h]; exact (h2 b e).2.1
      · rw [h]; intro e2
        simp only [Option.some.injEq] at e2
        have := (h2 b e).1; have := hb.size; omega
  refine ⟨vs ++ [.slice B xs.length d], by rw [List.length_append]; exact ho, fun k hk => ?_⟩
  rw [List.length_append, List.length_singleton] at hk
  by_cases hkl : k < xss.length
  · obtain ⟨C, c, h1, h2, h3⟩ := hi k hkl
    have e : nthLL (xss ++ [xs]) k = nthLL xss k := by simp [nthLL, List.getElem?_append_left hkl]
    rw [e]
    exact ⟨C, c, by rw [List.getElem?_append_left (by omega)]; exact h1, key h2 h3⟩
  · obtain rfl : k = xss.length := by omega
    have e : nthLL (xss ++ [xs]) xss.length = xs := by simp [nthLL]
    rw [e]
    exact ⟨B, d, by rw [← hv]; simp, key hB hf⟩
/-- Writing into an elder block. -/
theorem LLr.far {w : World} {base : Nat} {u : Value} {xss : List (List Int)} (h : LLr w base u xss) {p : Addr} (v : Value) (hp : p.block < base) : LLr (w.setCell p v) base u xss := by
  obtain ⟨vs, ho, hi⟩ := h
  have key : ∀ g, g ≠ p.block → (w.setCell p v).heap[g]? = w.heap[g]? := fun g hg => Below.heap_setCell w p v g hg
  refine ⟨vs, ⟨ho.1, ?_⟩, fun k hk => ?_⟩
  · rcases ho.2 with h' | ⟨g, cap, cur, hv, hge, hR, r⟩
    · exact .inl h'
    · exact .inr ⟨g, cap, cur, hv, hge, (key g (by omega)).trans hR, r⟩
  · obtain ⟨B, d, h1, h2, h3⟩ := hi k hk
    refine ⟨B, d, h1, ?_, fun b e => ⟨by have := (h3 b e).1; simpa [World.setCell] using this, (h3 b e).2⟩⟩
    rcases h2 with h2 | ⟨b, o, rfl, hlt, hc⟩
    · exact .inl h2
    · refine .inr ⟨b, o, rfl, by simpa [World.setCell] using hlt, fun j hj => ?_⟩
      have h4 := (h3 b rfl).2.2
      have := key b (by omega)
      exact (World.cell?_of_block (a := ⟨b, o + j, none⟩) this).trans (hc j hj)
theorem LLr.at_ {w : World} {base : Nat} {A : Option Addr} {n c : Nat} {xss : List (List Int)} (h : LLr w base (.slice A n c) xss) {k : Nat} (hk : k < xss.length) :
    ∃ g B d, A = some ⟨g, 0, none⟩ ∧ g < w.heap.size ∧ w.cell? ⟨g, k, none⟩ = some (.slice B (nthLL xss k).length d) ∧ Il w B (nthLL xss k) ∧ base ≤ g ∧ (∀ b, B.map Addr.block = some b → base ≤ b) := by
  obtain ⟨vs, ho, hi⟩ := h
  obtain ⟨B, d, h1, h2, h3⟩ := hi k hk
  rcases ho.2 with ⟨_, hn⟩ | ⟨g, cap, cur, hv, hge, hg, hnc, _, hcs, htk⟩
  · omega
  · simp only [Value.slice.injEq] at hv
    refine ⟨g, B, d, hv.1, Row.lt hg, ?_, h2, hge, fun b e => (h3 b e).2.2⟩
    rw [Row.cell hg]
    rw [← htk, List.getElem?_take_of_lt (by omega), Array.getElem?_toList] at h1
    exact h1

end Go.Proofs.Ytpdkkbimhhhjmaa
