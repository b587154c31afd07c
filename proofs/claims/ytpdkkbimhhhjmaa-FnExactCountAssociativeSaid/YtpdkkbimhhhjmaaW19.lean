/- Contracts of the program's counts of triples; conditions: stated in each. -/
import Derived.Test.YtpdkkbimhhhjmaaW18
namespace Go.Proofs.Ytpdkkbimhhhjmaa
open Go.RowKit
set_option maxHeartbeats 400000
set_option maxRecDepth 100000
set_option linter.unusedSimpArgs false
set_option linter.unusedVariables false

theorem one_any (b : Bool) (w : World) : Calls Try.prog 119 #[.bool b] w fun e w' => e = .returned (.int .i64 ((if b = true then 1 else 0 : Nat) : Int)) ∧ w = w' := by
  cases b
  · go_enter Try.func119, Try.ntmps119
    go_wp2
    go_ret
    exact ⟨rfl, rfl⟩
  · go_enter Try.func119, Try.ntmps119
    go_wp2
    go_ret
    exact ⟨rfl, rfl⟩

/-- the product of the loop that a grid tells -/
def loopG (G : Nat → Int) (v a b : Int) : Int := if a = v then b else if b = v then a else if a = b then v else G (a.toNat * 15 + b.toNat)
theorem gridLoop_any (g : Nat) (G : Nat → Int) (v a b : Int) (w : World) (hG : Gr w g G) (hv : v ≤ 15) (ha : 0 ≤ a ∧ a ≤ v) (hb : 0 ≤ b ∧ b ≤ v) :
    Calls Try.prog 74 #[.pointer (some ⟨g, 0, none⟩), .int .i64 v, .int .i64 a, .int .i64 b] w fun e w' => e = .returned (.int .i64 (loopG G v a b)) ∧ w = w' := by
  have HG := Lib.hid hG; clear hG
  by_cases h1 : a = v
  · have h1' : (a == v) = true := by simpa using h1
    have H1 := Lib.hid h1; clear h1
    go_enter Try.func74, Try.ntmps74
    go_wp2
    go_ret
    exact ⟨ret_int (by rw [loopG, if_pos H1.out]), rfl⟩
  · have h1' : (a == v) = false := by simpa using h1
    by_cases h2 : b = v
    · have h2' : (b == v) = true := by simpa using h2
      have H1 := Lib.hid h1; have H2 := Lib.hid h2; clear h1 h2
      go_enter Try.func74, Try.ntmps74
      go_wp2
      go_ret
      exact ⟨ret_int (by rw [loopG, if_neg H1.out, if_pos H2.out]), rfl⟩
    · have h2' : (b == v) = false := by simpa using h2
      by_cases h3 : a = b
      · have h3' : (a == b) = true := by simpa using h3
        have H1 := Lib.hid h1; have H2 := Lib.hid h2; have H3 := Lib.hid h3; clear h1 h2 h3
        go_enter Try.func74, Try.ntmps74
        go_wp2
        go_ret
        exact ⟨ret_int (by rw [loopG, if_neg H1.out, if_neg H2.out, if_pos H3.out]), rfl⟩
      · have h3' : (a == b) = false := by simpa using h3
        have ha15 : a < 15 := by omega
        have hb15 : b < 15 := by omega
        have p1 := HG.out.cell (i := a.toNat * 15 + b.toNat) (by omega)
        have hgl := HG.out.lt
        have H1 := Lib.hid h1; have H2 := Lib.hid h2; have H3 := Lib.hid h3; clear h1 h2 h3
        go_enter Try.func74, Try.ntmps74
        go_wp2
        go_ret
        exact ⟨ret_int (by rw [loopG, if_neg H1.out, if_neg H2.out, if_neg H3.out]), rfl⟩

theorem countTriples_any (m g : Nat) (fa la : Array Value) (p : Nat → Nat → Nat → Bool) (w : World) (hm : m ≤ 16)
    (eg : ∀ args w, (callFunc g args).run Try.prog w = .ok (.enter g args) w)
    (hp : ∀ (W : World) (a b c : Nat), a < m → b < m → c < m → Below w.heap.size w W → Calls Try.prog g (fa ++ (#[.int .i64 (a : Int), .int .i64 (b : Int), .int .i64 (c : Int)] ++ la)) W fun e w' => e = .returned (.bool (p a b c)) ∧ Below W.heap.size W w') :
    Calls Try.prog 77 #[.int .i64 m, .func (.func g) fa la] w fun e w' => e = .returned (.int .i64 (cntT m p : Nat)) ∧ Below w.heap.size w w' := by
  have HP := Lib.hid hp; clear hp
  have HS1 : Hid (∀ a b j, sumN (fun c => if p a b c = true then 1 else 0) (j + 1) = sumN (fun c => if p a b c = true then 1 else 0) j + (if p a b j = true then 1 else 0)) := fun a b j => rfl
  have HS2 : Hid (∀ a j, sumN (fun b => sumN (fun c => if p a b c = true then 1 else 0) m) (j + 1) = sumN (fun b => sumN (fun c => if p a b c = true then 1 else 0) m) j + sumN (fun c => if p a j c = true then 1 else 0) m) := fun a j => rfl
  have HS3 : Hid (∀ j, sumN (fun a => sumN (fun b => sumN (fun c => if p a b c = true then 1 else 0) m) m) (j + 1) = sumN (fun a => sumN (fun b => sumN (fun c => if p a b c = true then 1 else 0) m) m) j + sumN (fun b => sumN (fun c => if p j b c = true then 1 else 0) m) m) := fun j => rfl
  have HE : Hid (cntT m p = sumN (fun a => sumN (fun b => sumN (fun c => if p a b c = true then 1 else 0) m) m) m) := rfl
  have HZ1 : Hid (∀ a b, sumN (fun c => if p a b c = true then 1 else 0) 0 = 0) := fun a b => rfl
  have HZ2 : Hid (∀ a, sumN (fun b => sumN (fun c => if p a b c = true then 1 else 0) m) 0 = 0) := fun a => rfl
  have HZ3 : Hid (sumN (fun a => sumN (fun b => sumN (fun c => if p a b c = true then 1 else 0) m) m) 0 = 0) := rfl
  generalize cntT m p = RR at *
  generalize hs1 : (fun a b j => sumN (fun c => if p a b c = true then 1 else 0) j) = S1
  generalize hs2 : (fun a j => sumN (fun b => sumN (fun c => if p a b c = true then 1 else 0) m) j) = S2
  generalize hs3 : (fun j => sumN (fun a => sumN (fun b => sumN (fun c => if p a b c = true then 1 else 0) m) m) j) = S3
  replace HS1 : Hid (∀ a b j, S1 a b (j + 1) = S1 a b j + (if p a b j = true then 1 else 0)) := by subst hs1; exact HS1
  replace HS2 : Hid (∀ a j, S2 a (j + 1) = S2 a j + S1 a j m) := by subst hs1 hs2; exact HS2
  replace HS3 : Hid (∀ j, S3 (j + 1) = S3 j + S2 j m) := by subst hs2 hs3; exact HS3
  replace HE : Hid (RR = S3 m) := by subst hs3; exact HE
  replace HZ1 : Hid (∀ a b, S1 a b 0 = 0) := by subst hs1; exact HZ1
  replace HZ2 : Hid (∀ a, S2 a 0 = 0) := by subst hs2; exact HZ2
  replace HZ3 : Hid (S3 0 = 0) := by subst hs3; exact HZ3
  clear hs1 hs2 hs3
  go_enter Try.func77, Try.ntmps77
  go_wp2
  go_loopw [5, 10] (fun q i wr => ∃ k N : Nat, k ≤ m ∧ N ≤ 256 * k ∧ i = .int .i64 k ∧ q = .int .i64 N ∧ Hid (Below w.heap.size w wr ∧ N = S3 k)) (fun _ i _ => m - (intOf i).toNat)
  case atStart => exact ⟨0, 0, by omega, by omega, rfl, rfl, Below.refl _ _, HZ3.out.symm⟩
  case round =>
    obtain ⟨k, N, hk, hN, rfl, rfl, HC⟩ := hrel
    by_cases hlt : k < m
    · go_wp2
      obtain ⟨wo, rfl⟩ : ∃ wo : World, wo = wr := ⟨_, rfl⟩
      go_loopw [5, 14] (fun q i wr => ∃ j N : Nat, j ≤ m ∧ N ≤ 256 * k + 16 * j ∧ i = .int .i64 j ∧ q = .int .i64 N ∧ Hid (Below w.heap.size w wr ∧ N = S3 k + S2 k j)) (fun _ i _ => m - (intOf i).toNat)
      case atStart => exact ⟨0, N, by omega, by omega, rfl, rfl, HC.out.1, by rw [HZ2.out]; exact HC.out.2⟩
      case round =>
        obtain ⟨j, N, hj, hN, rfl, rfl, HC⟩ := hrel
        by_cases hlt2 : j < m
        · go_wp2
          obtain ⟨wo, rfl⟩ : ∃ wo : World, wo = wr := ⟨_, rfl⟩
          go_loopw [5, 18] (fun q i wr => ∃ d N : Nat, d ≤ m ∧ N ≤ 256 * k + 16 * j + d ∧ i = .int .i64 d ∧ q = .int .i64 N ∧ Hid (Below w.heap.size w wr ∧ N = S3 k + S2 k j + S1 k j d)) (fun _ i _ => m - (intOf i).toNat)
          case atStart => exact ⟨0, N, by omega, by omega, rfl, rfl, HC.out.1, by rw [HZ1.out]; exact HC.out.2⟩
          case round =>
            obtain ⟨d, N, hd, hN, rfl, rfl, HC⟩ := hrel
            by_cases hlt3 : d < m
            · have HN := Lib.hid (HS1.out k j d)
              go_wp2_with fail
              refine (HP.out _ k j d hlt hlt2 hlt3 HC.out.1).mono ?_
              cases hB : p k j d
              · rintro e w1 ⟨rfl, hb⟩
                have HB2 := Lib.hid (below_up HC.out.1 hb); clear hb
                go_wp2_with (go_at_call 119; refine (one_any _ _).mono ?_; rintro e w2 ⟨rfl, rfl⟩)
                go_roundw
                case rel => exact ⟨d + 1, N, by omega, by omega, by go_num, by go_num, HB2.out, by rw [HN.out, if_neg (by rw [hB]; simp), HC.out.2]; omega⟩
                case measure => simp [intOf]; omega
              · rintro e w1 ⟨rfl, hb⟩
                have HB2 := Lib.hid (below_up HC.out.1 hb); clear hb
                go_wp2_with (go_at_call 119; refine (one_any _ _).mono ?_; rintro e w2 ⟨rfl, rfl⟩)
                go_roundw
                case rel => exact ⟨d + 1, N + 1, by omega, by omega, by go_num, by go_num, HB2.out, by rw [HN.out, if_pos hB, HC.out.2]; omega⟩
                case measure => simp [intOf]; omega
            · obtain rfl : d = m := by omega
              go_wp2
              go_roundw
              case rel => exact ⟨j + 1, N, by omega, by omega, by go_num, rfl, HC.out.1, by rw [HS2.out, HC.out.2]; omega⟩
              case measure => simp [intOf]; omega
        · obtain rfl : j = m := by omega
          go_wp2
          go_roundw
          case rel => exact ⟨k + 1, N, by omega, by omega, by go_num, rfl, HC.out.1, by rw [HS3.out, HC.out.2]⟩
          case measure => simp [intOf]; omega
    · obtain rfl : k = m := by omega
      go_wp2
      go_ret
      exact ⟨ret_int (by rw [HE.out, HC.out.2]), HC.out.1⟩

theorem elementsNone_any (v : Int) (A : Option Addr) (c : Nat) (xs : List Blk) (w : World) (hA : Bl w A xs) (hl : xs.length ≤ 1048576) :
    Calls Try.prog 72 #[.agg #[.int .i64 v, .slice A xs.length c], .int .i64 0, .slice none 0 0] w fun e w' => e = .returned (.int .i64 (elCode v xs 0 [])) ∧ Below w.heap.size w w' :=
  elementsCode_any v A c xs 0 none 0 [] w hA hl (.inl rfl) (by simp)

theorem prodG_bd {G : Nat → Int} {n a b : Nat} (h : ∀ a b : Nat, a < n → b < n → a ≠ b → 0 ≤ G (a * 15 + b) ∧ G (a * 15 + b) < n) (ha : a < n) (hb : b < n) : 0 ≤ prodG G a b ∧ prodG G a b < n := by
  unfold prodG
  split
  · omega
  · have := h a b ha hb (by omega); simpa using this
theorem trip_any (r g n : Nat) (G : Nat → Int) (a b c : Nat) (w : World) (hr : w.cell? ⟨r, 0, none⟩ = some (.pointer (some ⟨g, 0, none⟩))) (hG : Gr w g G) (hn : n ≤ 15)
    (h : ∀ a b : Nat, a < n → b < n → a ≠ b → 0 ≤ G (a * 15 + b) ∧ G (a * 15 + b) < n) (ha : a < n) (hb : b < n) (hc : c < n) :
    Calls Try.prog 81 #[.int .i64 (a : Int), .int .i64 (b : Int), .int .i64 (c : Int), .pointer (some ⟨r, 0, none⟩)] w fun e w' => e = .returned (.bool (prodG G (prodG G a b) c == prodG G a (prodG G b c))) ∧ Below w.heap.size w w' := by
  have hab := prodG_bd h ha hb
  have hbc := prodG_bd h hb hc
  clear h
  have HG := Lib.hid hG; have HR := Lib.hid hr; clear hG hr
  go_enter Try.func81, Try.ntmps81
  go_wp2
  go_region_held3 (fun w' => w'.cell? ⟨r, 0, none⟩ = some (.pointer (some ⟨g, 0, none⟩))) (first | exact HR.out) (first
    | (go_at_call 79
       refine (product_any g G _ _ _ (HG.out.below (below_drew _)) (by omega) (by omega)).mono ?_
       rintro e w' ⟨rfl, rfl⟩))
  go_wp2
  go_ret
  exact ⟨rfl, below_drew _⟩

end Go.Proofs.Ytpdkkbimhhhjmaa
