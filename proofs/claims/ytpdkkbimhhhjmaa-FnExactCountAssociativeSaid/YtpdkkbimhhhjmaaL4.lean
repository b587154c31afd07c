/- What a law's proof says of results that the call has made; conditions: stated in each. -/
import Derived.Test.YtpdkkbimhhhjmaaL3
namespace Go.Proofs.Ytpdkkbimhhhjmaa
open Go.RowKit Go.ChangeShapes Go.WideShapes

theorem Own.il {w : World} {base n c : Nat} {t : TypeId} {A : Option Addr} {ns : List Int} (h : Own w base t 1 (.slice A n c) ns.length (ns.map (Value.int .i64))) : Il w A ns := by
  rcases h.2 with ⟨_, hn⟩ | ⟨g, cap, cur, hv, _, hg, hnc, _, hcs, htk⟩
  · exact .inl (by simpa using hn)
  · simp only [Value.slice.injEq] at hv
    obtain ⟨rfl, _, _⟩ := hv
    refine Il.row (t := t) (cur := cur) hg fun k hk => ?_
    have h1 : (cur.toList.take (ns.length * 1))[k]? = (ns.map (Value.int .i64))[k]? := by rw [htk]
    rw [List.getElem?_take_of_lt (by omega), List.getElem?_map] at h1
    rw [← Array.getElem?_toList, h1]
    simp [nthI, hk]
/-- the cells of blocks -/
def cells3 (xs : List Blk) : List Value := xs.flatMap fun b => [.int .i64 b.1, .int .i64 b.2.1, .int .i64 b.2.2]
theorem cells3_at : ∀ (xs : List Blk) (k : Nat), k < xs.length → (cells3 xs)[k * 3]? = some (.int .i64 (nth xs k).1) ∧ (cells3 xs)[k * 3 + 1]? = some (.int .i64 (nth xs k).2.1) ∧ (cells3 xs)[k * 3 + 2]? = some (.int .i64 (nth xs k).2.2) := by
  intro xs
  induction xs with
  | nil => intro k hk; simp at hk
  | cons b xs ih =>
    intro k hk
    cases k with
    | zero => simp [cells3, nth]
    | succ k =>
      have := ih k (by simpa using hk)
      have e0 : (k + 1) * 3 = k * 3 + 3 := by omega
      have e : ∀ j, (cells3 (b :: xs))[j + 3]? = (cells3 xs)[j]? := fun j => by simp [cells3]
      have e1 : (k + 1) * 3 + 1 = (k * 3 + 1) + 3 := by omega
      have e2 : (k + 1) * 3 + 2 = (k * 3 + 2) + 3 := by omega
      rw [e1, e2, e0, e, e, e]
      simpa [nth] using this
theorem Own.bl {w : World} {base n c : Nat} {t : TypeId} {A : Option Addr} {xs : List Blk} (h : Own w base t 3 (.slice A n c) xs.length (cells3 xs)) : Bl w A xs := by
  rcases h.2 with ⟨_, hn⟩ | ⟨g, cap, cur, hv, _, hg, hnc, _, hcs, htk⟩
  · exact .inl (by simpa using hn)
  · simp only [Value.slice.injEq] at hv
    obtain ⟨rfl, _, _⟩ := hv
    have key : ∀ j, j < xs.length * 3 → cur[j]? = (cells3 xs)[j]? := fun j hj => by
      rw [← htk, List.getElem?_take_of_lt hj, Array.getElem?_toList]
    refine Bl.row (t := t) (cur := cur) hg fun k hk => ?_
    have := cells3_at xs k hk
    exact ⟨(key _ (by omega)).trans this.1, (key _ (by omega)).trans this.2.1, (key _ (by omega)).trans this.2.2⟩
theorem Own.wr {w : World} {base n size c : Nat} {t : TypeId} {A : Option Addr} {xs : List Value} (h : Own w base t size (.slice A n c) n xs) : Wr w t A (n * size) := Wr.own h
theorem Own.wr1 {w : World} {base n c : Nat} {t : TypeId} {A : Option Addr} {xs : List Value} (h : Own w base t 1 (.slice A n c) n xs) : Wr w t A n := by
  have := Wr.own h; rwa [Nat.mul_one] at this
theorem Own.blk {w : World} {base n size c : Nat} {t : TypeId} {A : Option Addr} {xs : List Value} (h : Own w base t size (.slice A n c) n xs) : ∀ k, A.map Addr.block = some k → base ≤ k := by
  intro k hk
  refine own_block h k ?_
  cases A with
  | none => simp at hk
  | some a => simpa [Value.ownBlock] using hk
/-- A row keeps while another block is written. -/
theorem Own.grown {w w' : World} {base n size c : Nat} {t : TypeId} {A B : Option Addr} {xs : List Value} (h : Own w base t size (.slice A n c) n xs) (hg : w.grownBy w' (B.map Addr.block)) (hB : ∀ k, B.map Addr.block = some k → k < base) : Own w' base t size (.slice A n c) n xs := by
  refine ⟨h.1, ?_⟩
  rcases h.2 with h' | ⟨g, cap, cur, hv, hge, hR, r⟩
  · exact .inl h'
  · refine .inr ⟨g, cap, cur, hv, hge, ?_, r⟩
    refine (hg.block g (Row.lt hR) ?_).trans hR
    intro he
    have := hB g he.symm
    omega
theorem Since.grown {w W wr : World} {B : Option Addr} (h : Since w W) (hg : W.grownBy wr (B.map Addr.block)) (hr : ∀ k, B.map Addr.block = some k → w.heap.size ≤ k) : Since w wr := below_grown h hg hr
theorem blk_ge {g n : Nat} (h : n ≤ g) : ∀ k, (some (⟨g, 0, none⟩ : Addr)).map Addr.block = some k → n ≤ k := by
  intro k hk; simp only [Option.map_some, Option.some.injEq] at hk; omega
theorem blk_lt {g n : Nat} (h : g < n) : ∀ k, (some (⟨g, 0, none⟩ : Addr)).map Addr.block = some k → k < n := by
  intro k hk; simp only [Option.map_some, Option.some.injEq] at hk; omega
theorem blk_le {A : Option Addr} {m n : Nat} (h : ∀ k, A.map Addr.block = some k → m ≤ k) (hn : n ≤ m) : ∀ k, A.map Addr.block = some k → n ≤ k := fun k hk => Nat.le_trans hn (h k hk)

set_option maxRecDepth 100000 in
theorem open_ints1 {H : Type} {enc : TypeId × Value → H} {W : World} {b0 : Nat} {v : Value} {d : DataW H} {ps : List MemPlace} (hv : Value.okWide Try.prog W .any b0 34 v) (h : DataW.Trod enc Try.prog W 0 (fun _ => true) true 34 v d ps) :
    ∃ A c xs, v = .slice A xs.length c ∧ Il W A xs ∧ (∀ x ∈ xs, -9223372036854775808 ≤ x ∧ x ≤ 9223372036854775807) ∧ xs.length ≤ 9223372036854775807 := by
  obtain ⟨a, len, cap, rfl⟩ := okWide_slice Try.underlying34 hv
  obtain ⟨fuel, hf⟩ := h
  simp only [Value.cells] at hf
  exact open_nums hf

end Go.Proofs.Ytpdkkbimhhhjmaa
