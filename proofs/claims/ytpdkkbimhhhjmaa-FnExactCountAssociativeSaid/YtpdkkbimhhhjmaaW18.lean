/- Contracts of counts of triples; conditions: stated in each. -/
import Derived.Test.YtpdkkbimhhhjmaaW17
namespace Go.Proofs.Ytpdkkbimhhhjmaa
open Go.RowKit
set_option maxHeartbeats 400000
set_option maxRecDepth 100000
set_option linter.unusedSimpArgs false
set_option linter.unusedVariables false

theorem l09Triples_any (g c m : Nat) (op : Int → Int → Int) (w : World) (hT : Tb w g op m) (hm : m ≤ 16) (hop : ∀ a b : Nat, a < m → b < m → 0 ≤ op a b ∧ op a b < m) :
    Calls Try.prog 80 #[.slice (some ⟨g, 0, none⟩) m c] w fun e w' => e = .returned (.int .i64 (cntT m (fun a b c => op (op a b) c == op a (op b c)) : Nat)) ∧ Below w.heap.size w w' := by
  have HT := Lib.hid hT; have HOP := Lib.hid hop; clear hT hop
  have HS1 : Hid (∀ a b j, sumN (fun c => if (fun a b c : Nat => op (op a b) c == op a (op b c)) a b c = true then 1 else 0) (j + 1) = sumN (fun c => if (fun a b c : Nat => op (op a b) c == op a (op b c)) a b c = true then 1 else 0) j + (if (op (op a b) j == op a (op b j)) = true then 1 else 0)) := fun a b j => rfl
  have HS2 : Hid (∀ a j, sumN (fun b => sumN (fun c => if (fun a b c : Nat => op (op a b) c == op a (op b c)) a b c = true then 1 else 0) m) (j + 1) = sumN (fun b => sumN (fun c => if (fun a b c : Nat => op (op a b) c == op a (op b c)) a b c = true then 1 else 0) m) j + sumN (fun c => if (fun a b c : Nat => op (op a b) c == op a (op b c)) a j c = true then 1 else 0) m) := fun a j => rfl
  have HS3 : Hid (∀ j, sumN (fun a => sumN (fun b => sumN (fun c => if (fun a b c : Nat => op (op a b) c == op a (op b c)) a b c = true then 1 else 0) m) m) (j + 1) = sumN (fun a => sumN (fun b => sumN (fun c => if (fun a b c : Nat => op (op a b) c == op a (op b c)) a b c = true then 1 else 0) m) m) j + sumN (fun b => sumN (fun c => if (fun a b c : Nat => op (op a b) c == op a (op b c)) j b c = true then 1 else 0) m) m) := fun j => rfl
  have HE : Hid (cntT m (fun a b c => op (op a b) c == op a (op b c)) = sumN (fun a => sumN (fun b => sumN (fun c => if (fun a b c : Nat => op (op a b) c == op a (op b c)) a b c = true then 1 else 0) m) m) m) := rfl
  have HZ1 : Hid (∀ a b, sumN (fun c => if (fun a b c : Nat => op (op a b) c == op a (op b c)) a b c = true then 1 else 0) 0 = 0) := fun a b => rfl
  have HZ2 : Hid (∀ a, sumN (fun b => sumN (fun c => if (fun a b c : Nat => op (op a b) c == op a (op b c)) a b c = true then 1 else 0) m) 0 = 0) := fun a => rfl
  have HZ3 : Hid (sumN (fun a => sumN (fun b => sumN (fun c => if (fun a b c : Nat => op (op a b) c == op a (op b c)) a b c = true then 1 else 0) m) m) 0 = 0) := rfl
  generalize (cntT m (fun a b c => op (op a b) c == op a (op b c))) = RR at *
  generalize hs1 : (fun a b j => sumN (fun c => if (fun a b c : Nat => op (op a b) c == op a (op b c)) a b c = true then 1 else 0) j) = S1
  generalize hs2 : (fun a j => sumN (fun b => sumN (fun c => if (fun a b c : Nat => op (op a b) c == op a (op b c)) a b c = true then 1 else 0) m) j) = S2
  generalize hs3 : (fun j => sumN (fun a => sumN (fun b => sumN (fun c => if (fun a b c : Nat => op (op a b) c == op a (op b c)) a b c = true then 1 else 0) m) m) j) = S3
  replace HS1 : Hid (∀ a b j, S1 a b (j + 1) = S1 a b j + (if (op (op a b) j == op a (op b j)) = true then 1 else 0)) := by subst hs1; exact HS1
  replace HS2 : Hid (∀ a j, S2 a (j + 1) = S2 a j + S1 a j m) := by subst hs1 hs2; exact HS2
  replace HS3 : Hid (∀ j, S3 (j + 1) = S3 j + S2 j m) := by subst hs2 hs3; exact HS3
  replace HE : Hid (RR = S3 m) := by subst hs3; exact HE
  replace HZ1 : Hid (∀ a b, S1 a b 0 = 0) := by subst hs1; exact HZ1
  replace HZ2 : Hid (∀ a, S2 a 0 = 0) := by subst hs2; exact HZ2
  replace HZ3 : Hid (S3 0 = 0) := by subst hs3; exact HZ3
  clear hs1 hs2 hs3
  go_enter Try.func80, Try.ntmps80
  go_wp2
  go_loopw [3, 4] (fun q i wr => ∃ k N : Nat, k ≤ m ∧ N ≤ 256 * k ∧ i = .int .i64 k ∧ q = .int .i64 N ∧ Hid (Below w.heap.size w wr ∧ N = S3 k)) (fun _ i _ => m - (intOf i).toNat)
  case atStart => exact ⟨0, 0, by omega, by omega, rfl, rfl, Below.refl _ _, HZ3.out.symm⟩
  case round =>
    obtain ⟨k, N, hk, hN, rfl, rfl, HC⟩ := hrel
    by_cases hlt : k < m
    · go_wp2
      obtain ⟨wo, rfl⟩ : ∃ wo : World, wo = wr := ⟨_, rfl⟩
      go_loopw [3, 5] (fun q i wr => ∃ j N : Nat, j ≤ m ∧ N ≤ 256 * k + 16 * j ∧ i = .int .i64 j ∧ q = .int .i64 N ∧ Hid (Below w.heap.size w wr ∧ N = S3 k + S2 k j)) (fun _ i _ => m - (intOf i).toNat)
      case atStart => exact ⟨0, N, by omega, by omega, rfl, rfl, HC.out.1, by rw [HZ2.out]; exact HC.out.2⟩
      case round =>
        obtain ⟨j, N, hj, hN, rfl, rfl, HC⟩ := hrel
        by_cases hlt2 : j < m
        · go_wp2
          obtain ⟨wo, rfl⟩ : ∃ wo : World, wo = wr := ⟨_, rfl⟩
          go_loopw [3, 6] (fun q i wr => ∃ d N : Nat, d ≤ m ∧ N ≤ 256 * k + 16 * j + d ∧ i = .int .i64 d ∧ q = .int .i64 N ∧ Hid (Below w.heap.size w wr ∧ N = S3 k + S2 k j + S1 k j d)) (fun _ i _ => m - (intOf i).toNat)
          case atStart => exact ⟨0, N, by omega, by omega, rfl, rfl, HC.out.1, by rw [HZ1.out]; exact HC.out.2⟩
          case round =>
            obtain ⟨d, N, hd, hN, rfl, rfl, HC⟩ := hrel
            by_cases hlt3 : d < m
            · have hTw := HT.out.below HC.out.1
              have hab := HOP.out k j hlt hlt2
              have hbc := HOP.out j d hlt2 hlt3
              obtain ⟨x, hx⟩ := Int.eq_ofNat_of_zero_le hab.1
              obtain ⟨y, hy⟩ := Int.eq_ofNat_of_zero_le hbc.1
              have hxm : x < m := by omega
              have hym : y < m := by omega
              obtain ⟨p1, o1, d1, hp1, q1, r1⟩ := hTw.2 k hlt
              obtain ⟨p2, o2, d2, hp2, q2, r2⟩ := hTw.2 j hlt2
              obtain ⟨p3, o3, d3, hp3, q3, r3⟩ := hTw.2 x hxm
              have t1 := r1 j hlt2
              have t2 := r1 y hym
              have t3 := r2 d hlt3
              have t4 := r3 d hlt3
              have HN := Lib.hid (HS1.out k j d)
              have HX := Lib.hid hx; have HY := Lib.hid hy
              rw [hx] at t1
              rw [hy] at t3
              have hB : ((op x d == op k y) = true) ∨ ((op x d == op k y) = false) := by cases h : (op x d == op k y) <;> simp
              clear hab hbc hx hy r1 r2 r3 hTw
              go_wp2
              have HKEEP := Lib.hid (And.intro q1 (And.intro q2 (And.intro q3 (And.intro t1 (And.intro t2 (And.intro t3 t4))))))
              clear q1 q2 q3 t1 t2 t3 t4
              go_region_held3 (fun w' => w'.cell? ⟨g, k, none⟩ = some (.slice (some ⟨p1, o1, none⟩) m d1) ∧ w'.cell? ⟨g, j, none⟩ = some (.slice (some ⟨p2, o2, none⟩) m d2) ∧ w'.cell? ⟨g, x, none⟩ = some (.slice (some ⟨p3, o3, none⟩) m d3) ∧ w'.cell? ⟨p1, o1 + j, none⟩ = some (.int .i64 (x : Int)) ∧ w'.cell? ⟨p1, o1 + y, none⟩ = some (.int .i64 (op k y)) ∧ w'.cell? ⟨p2, o2 + d, none⟩ = some (.int .i64 (y : Int)) ∧ w'.cell? ⟨p3, o3 + d, none⟩ = some (.int .i64 (op x d))) (first | exact HKEEP.out) (fail)
              rcases hB with hB | hB
              · go_wp2
                go_roundw
                case rel => exact ⟨d + 1, N + 1, by omega, by omega, by go_num, by go_num, below_up HC.out.1 (below_drew _), by rw [HN.out, HX.out, HY.out, if_pos hB, HC.out.2]; omega⟩
                case measure => simp [intOf]; omega
              · go_wp2
                go_roundw
                case rel => exact ⟨d + 1, N, by omega, by omega, by go_num, rfl, below_up HC.out.1 (below_drew _), by rw [HN.out, HX.out, HY.out, if_neg (by rw [hB]; simp), HC.out.2]; omega⟩
                case measure => simp [intOf]; omega
            · obtain rfl : d = m := by omega
              go_wp2
              go_roundw
              case rel => exact ⟨j + 1, N, by omega, by omega, by go_num, rfl, HC.out.1, by rw [HS2.out, HC.out.2]; omega⟩
              case measure => simp [intOf]; omega
        · obtain rfl : j = m := by omega
          go_wp2
          go_roundw
          case rel => exact ⟨k + 1, N, by omega, by omega, by go_num, rfl, HC.out.1, by rw [HS3.out, HC.out.2]⟩
          case measure => simp [intOf]; omega
    · obtain rfl : k = m := by omega
      go_wp2
      go_ret
      exact ⟨ret_int (by rw [HE.out, HC.out.2]), HC.out.1⟩

end Go.Proofs.Ytpdkkbimhhhjmaa
