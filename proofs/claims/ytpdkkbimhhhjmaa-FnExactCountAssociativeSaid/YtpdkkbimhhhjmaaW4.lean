/- Contracts of the grid: newGrid, isLeft, put; conditions: stated in each. -/
import Derived.Test.YtpdkkbimhhhjmaaM1
import Derived.Test.YtpdkkbimhhhjmaaW1
import Derived.BigRegion
namespace Go.Proofs.Ytpdkkbimhhhjmaa
open Go.RowKit
set_option maxHeartbeats 400000
set_option maxRecDepth 100000

theorem zeroGrid : Try.zeroCells132 = gcells (fun _ => 0) := by kernel_rfl
theorem newGrid_any (w : World) :
    Calls Try.prog 133 #[] w fun e w' => ∃ g, e = .returned (.pointer (some ⟨g, 0, none⟩)) ∧ Gr w' g (fun _ => -1) ∧ w.heap.size ≤ g ∧ Below w.heap.size w w' := by
  have hz : Gr (w.alloc (.cells Try.zeroCells132 132)) w.heap.size (fun _ => 0) := by
    unfold Gr; rw [zeroGrid]; exact heap_alloc_new w _
  go_enter Try.func133, Try.ntmps133
  go_wp2
  have hb0 := below_alloc w (.cells Try.zeroCells132 132)
  generalize w.alloc _ = W at *
  have HZ := Lib.hid hz; have HB0 := Lib.hid hb0; clear hz hb0
  go_loopw [4] (fun i wr => ∃ k : Nat, k ≤ 15 ∧ i = .int .i64 k ∧ Hid (Below w.heap.size w wr ∧ ∃ G, Gr wr w.heap.size G ∧ ∀ j, j < k * 15 → G j = -1)) (fun i _ => 15 - (intOf i).toNat)
  case atStart => exact ⟨0, by omega, rfl, HB0.out, _, HZ.out, fun j hj => by omega⟩
  case round =>
    obtain ⟨k, hk, rfl, HC⟩ := hrel
    by_cases hlt : k < 15
    · go_wp2
      obtain ⟨wo, rfl⟩ : ∃ wo : World, wo = wr := ⟨_, rfl⟩
      go_loopw [7] (fun i wr => ∃ j : Nat, j ≤ 15 ∧ i = .int .i64 j ∧ Hid (Below w.heap.size w wr ∧ ∃ G, Gr wr w.heap.size G ∧ ∀ m, m < k * 15 + j → G m = -1)) (fun i _ => 15 - (intOf i).toNat)
      case atStart => exact ⟨0, by omega, rfl, HC⟩
      case round =>
        obtain ⟨j, hj, rfl, HD⟩ := hrel
        by_cases hlt2 : j < 15
        · obtain ⟨hbb, G, hG, hm⟩ := HD.out
          have p0 := hG.cell (i := k * 15 + j) (by omega)
          have p1 := hG.frozen (k * 15 + j)
          have HE := Lib.hid (And.intro hbb (And.intro hG hm)); clear hbb hG hm HD
          go_wp2
          go_roundw
          case rel =>
            obtain ⟨hbb, hG, hm⟩ := HE.out
            refine ⟨j + 1, by omega, by go_num, hbb.setCell (Nat.le_refl _) _, _, hG.set _ _, fun m hm' => ?_⟩
            unfold upd
            split
            · rfl
            · exact hm m (by omega)
          case measure => simp [intOf]; omega
        · obtain rfl : j = 15 := by omega
          go_wp2
          go_roundw
          case rel => exact ⟨k + 1, by omega, by go_num, HD.out.1, (HD.out.2.elim fun G h => ⟨G, h.1, fun m hm => h.2 m (by omega)⟩)⟩
          case measure => simp [intOf]; omega
    · obtain rfl : k = 15 := by omega
      go_wp2
      go_ret
      obtain ⟨hbb, G, hG, hm⟩ := HC.out
      exact ⟨w.heap.size, rfl, hG.congr fun i hi => hm i hi, Nat.le_refl _, hbb⟩

theorem isLeft_any (g : Nat) (G : Nat → Int) (b : Blk) (w : World) (hG : Gr w g G) (hg : goodB 15 b = true) :
    Calls Try.prog 134 #[.pointer (some ⟨g, 0, none⟩), .agg #[.int .i64 b.1, .int .i64 b.2.1, .int .i64 b.2.2]] w fun e w' => e = .returned (.bool (leftB G b)) ∧ Below w.heap.size w w' := by
  obtain ⟨p, q, r⟩ := b
  unfold goodB at hg
  simp only [decide_eq_true_eq] at hg
  obtain ⟨h0, h1, h2, h3⟩ := hg
  dsimp only
  have hL : leftB G (p, q, r) = ((G (p.toNat * 15 + q.toNat) == -1) && (G (p.toNat * 15 + r.toNat) == -1) && (G (q.toNat * 15 + r.toNat) == -1)) := rfl
  generalize leftB G (p, q, r) = L at *
  have HL := Lib.hid hL; clear hL
  have p1 := hG.cell (i := p.toNat * 15 + q.toNat) (by omega)
  have p2 := hG.cell (i := p.toNat * 15 + r.toNat) (by omega)
  have p3 := hG.cell (i := q.toNat * 15 + r.toNat) (by omega)
  have hgl := hG.lt
  have HG := Lib.hid hG; clear hG
  generalize G (p.toNat * 15 + q.toNat) = x at *
  generalize G (p.toNat * 15 + r.toNat) = y at *
  generalize G (q.toNat * 15 + r.toNat) = z at *
  by_cases e1 : (x == -1) = true
  · by_cases e2 : (y == -1) = true
    · go_enter Try.func134, Try.ntmps134
      go_wp2
      go_quiet (fail)
      go_wp2
      go_ret
      refine ⟨ret_bool ?_, below_drewN (below_alloc _ _) _⟩
      rw [HL.out, e1, e2]; rfl
    · have e2' : (y == -1) = false := by simpa using e2
      clear e2
      go_enter Try.func134, Try.ntmps134
      go_wp2
      go_quiet (fail)
      go_wp2
      go_ret
      refine ⟨ret_bool ?_, below_drewN (below_alloc _ _) _⟩
      rw [HL.out, e1, e2']; rfl
  · have e1' : (x == -1) = false := by simpa using e1
    clear e1
    go_enter Try.func134, Try.ntmps134
    go_wp2
    go_quiet (fail)
    go_wp2
    go_ret
    refine ⟨ret_bool ?_, below_drewN (below_alloc _ _) _⟩
    rw [HL.out, e1']; rfl

theorem idx0 (p q r : Int) : ∀ w, (Instr.index 72 (.agg #[.int .i64 p, .int .i64 q, .int .i64 r]) (.int .i64 0)).run Try.prog w = .ok (.int .i64 p) w := fun _ => by kernel_rfl
theorem idx1 (p q r : Int) : ∀ w, (Instr.index 72 (.agg #[.int .i64 p, .int .i64 q, .int .i64 r]) (.int .i64 1)).run Try.prog w = .ok (.int .i64 q) w := fun _ => by kernel_rfl
theorem idx2 (p q r : Int) : ∀ w, (Instr.index 72 (.agg #[.int .i64 p, .int .i64 q, .int .i64 r]) (.int .i64 2)).run Try.prog w = .ok (.int .i64 r) w := fun _ => by kernel_rfl

theorem put_true (g : Nat) (G : Nat → Int) (b : Blk) (w : World) (hG : Gr w g G) (hg : goodB 15 b = true) :
    Calls Try.prog 135 #[.pointer (some ⟨g, 0, none⟩), .agg #[.int .i64 b.1, .int .i64 b.2.1, .int .i64 b.2.2], .bool true] w fun e w' => e = .returned (.tuple #[]) ∧ Gr w' g (putG G b true) ∧ w.grownBy w' (some g) := by
  obtain ⟨p, q, r⟩ := b
  unfold goodB at hg
  simp only [decide_eq_true_eq] at hg
  obtain ⟨h0, h1, h2, h3⟩ := hg
  dsimp only
  have hgl := hG.lt
  have HG := Lib.hid hG; clear hG
  have i0 := idx0 p q r
  have i1 := idx1 p q r
  have i2 := idx2 p q r
  go_enter Try.func135, Try.ntmps135
  go_wp2
  have hG1 : Gr (w.alloc (.cells #[.int .i64 p, .int .i64 q, .int .i64 r] 72)) g G := HG.out.below (below_alloc _ _)
  have hB : Box (w.alloc (.cells #[.int .i64 p, .int .i64 q, .int .i64 r] 72)) w.heap.size (p, q, r) := Box.new w (p, q, r) 72
  have hgr : w.grownBy (w.alloc (.cells #[.int .i64 p, .int .i64 q, .int .i64 r] 72)) (some g) := World.grownBy_alloc _ _ _
  have hgne : some w.heap.size ≠ some g := by intro h; injection h; omega
  generalize w.alloc _ = W at *
  have HG0 := Lib.hid hG1; have HB0 := Lib.hid hB; have HR0 := Lib.hid hgr; have HN := Lib.hid hgne; clear hG1 hB hgr HG hgne
  refine wp_loop_rounds 4 ?_
  have q0 : W.cell? ⟨w.heap.size, 0, none⟩ = some (.int .i64 p) := HB0.out.2 0 (by omega)
  have q1 : W.cell? ⟨w.heap.size, 1, none⟩ = some (.int .i64 q) := HB0.out.2 1 (by omega)
  have q2 : W.cell? ⟨w.heap.size, 2, none⟩ = some (.int .i64 r) := HB0.out.2 2 (by omega)
  rw [rounds_succ]; go_wp2; go_quiet (fail)
  have HG1 : Hid (Gr (W.drewN nq) g (G)) := HG0.out
  have HR1 : Hid (w.grownBy (W.drewN nq) (some g)) := grown_drewN HR0.out _
  have HB1 : Hid (Box (W.drewN nq) w.heap.size (p, q, r)) := HB0.out
  clear HG0 HB0 HR0 q0 q1 q2
  generalize W.drewN nq = U0 at *
  have p1 := HG1.out.cell (i := p.toNat * 15 + q.toNat) (by omega)
  have f1 := HG1.out.frozen (p.toNat * 15 + q.toNat)
  have p2 := (HG1.out.set (p.toNat * 15 + q.toNat) r).cell (i := q.toNat * 15 + p.toNat) (by omega)
  have f2 := (HG1.out.set (p.toNat * 15 + q.toNat) r).frozen (q.toNat * 15 + p.toNat)
  go_wp2
  go_region
  have HG0 : Hid (Gr ((U0.setCell ⟨g, p.toNat * 15 + q.toNat, none⟩ (.int .i64 r)).setCell ⟨g, q.toNat * 15 + p.toNat, none⟩ (.int .i64 r)).drew g (upd (upd (G) (p.toNat * 15 + q.toNat) r) (q.toNat * 15 + p.toNat) r)) := (HG1.out.set _ _).set _ _
  have HR0 : Hid (w.grownBy ((U0.setCell ⟨g, p.toNat * 15 + q.toNat, none⟩ (.int .i64 r)).setCell ⟨g, q.toNat * 15 + p.toNat, none⟩ (.int .i64 r)).drew (some g)) := grown_drewN (grown_set (grown_set HR1.out _ _) _ _) 1
  have HB0 : Hid (Box ((U0.setCell ⟨g, p.toNat * 15 + q.toNat, none⟩ (.int .i64 r)).setCell ⟨g, q.toNat * 15 + p.toNat, none⟩ (.int .i64 r)).drew w.heap.size (p, q, r)) := (HB1.out.set HN.out _ _).set HN.out _ _
  clear HG1 HB1 HR1 p1 f1 p2 f2
  go_wp2
  generalize World.drew (World.setCell (World.setCell U0 _ _) _ _) = V0 at *
  have q0 : V0.cell? ⟨w.heap.size, 0, none⟩ = some (.int .i64 p) := HB0.out.2 0 (by omega)
  have q1 : V0.cell? ⟨w.heap.size, 1, none⟩ = some (.int .i64 q) := HB0.out.2 1 (by omega)
  have q2 : V0.cell? ⟨w.heap.size, 2, none⟩ = some (.int .i64 r) := HB0.out.2 2 (by omega)
  rw [rounds_succ]; go_wp2; go_quiet (fail)
  have HG1 : Hid (Gr (V0.drewN nq) g (upd (upd (G) (p.toNat * 15 + q.toNat) r) (q.toNat * 15 + p.toNat) r)) := HG0.out
  have HR1 : Hid (w.grownBy (V0.drewN nq) (some g)) := grown_drewN HR0.out _
  have HB1 : Hid (Box (V0.drewN nq) w.heap.size (p, q, r)) := HB0.out
  clear HG0 HB0 HR0 q0 q1 q2
  generalize V0.drewN nq = U1 at *
  have p1 := HG1.out.cell (i := q.toNat * 15 + r.toNat) (by omega)
  have f1 := HG1.out.frozen (q.toNat * 15 + r.toNat)
  have p2 := (HG1.out.set (q.toNat * 15 + r.toNat) p).cell (i := r.toNat * 15 + q.toNat) (by omega)
  have f2 := (HG1.out.set (q.toNat * 15 + r.toNat) p).frozen (r.toNat * 15 + q.toNat)
  go_wp2
  go_region
  have HG0 : Hid (Gr ((U1.setCell ⟨g, q.toNat * 15 + r.toNat, none⟩ (.int .i64 p)).setCell ⟨g, r.toNat * 15 + q.toNat, none⟩ (.int .i64 p)).drew g (upd (upd (upd (upd (G) (p.toNat * 15 + q.toNat) r) (q.toNat * 15 + p.toNat) r) (q.toNat * 15 + r.toNat) p) (r.toNat * 15 + q.toNat) p)) := (HG1.out.set _ _).set _ _
  have HR0 : Hid (w.grownBy ((U1.setCell ⟨g, q.toNat * 15 + r.toNat, none⟩ (.int .i64 p)).setCell ⟨g, r.toNat * 15 + q.toNat, none⟩ (.int .i64 p)).drew (some g)) := grown_drewN (grown_set (grown_set HR1.out _ _) _ _) 1
  have HB0 : Hid (Box ((U1.setCell ⟨g, q.toNat * 15 + r.toNat, none⟩ (.int .i64 p)).setCell ⟨g, r.toNat * 15 + q.toNat, none⟩ (.int .i64 p)).drew w.heap.size (p, q, r)) := (HB1.out.set HN.out _ _).set HN.out _ _
  clear HG1 HB1 HR1 p1 f1 p2 f2
  go_wp2
  generalize World.drew (World.setCell (World.setCell U1 _ _) _ _) = V1 at *
  have q0 : V1.cell? ⟨w.heap.size, 0, none⟩ = some (.int .i64 p) := HB0.out.2 0 (by omega)
  have q1 : V1.cell? ⟨w.heap.size, 1, none⟩ = some (.int .i64 q) := HB0.out.2 1 (by omega)
  have q2 : V1.cell? ⟨w.heap.size, 2, none⟩ = some (.int .i64 r) := HB0.out.2 2 (by omega)
  rw [rounds_succ]; go_wp2; go_quiet (fail)
  have HG1 : Hid (Gr (V1.drewN nq) g (upd (upd (upd (upd (G) (p.toNat * 15 + q.toNat) r) (q.toNat * 15 + p.toNat) r) (q.toNat * 15 + r.toNat) p) (r.toNat * 15 + q.toNat) p)) := HG0.out
  have HR1 : Hid (w.grownBy (V1.drewN nq) (some g)) := grown_drewN HR0.out _
  have HB1 : Hid (Box (V1.drewN nq) w.heap.size (p, q, r)) := HB0.out
  clear HG0 HB0 HR0 q0 q1 q2
  generalize V1.drewN nq = U2 at *
  have p1 := HG1.out.cell (i := r.toNat * 15 + p.toNat) (by omega)
  have f1 := HG1.out.frozen (r.toNat * 15 + p.toNat)
  have p2 := (HG1.out.set (r.toNat * 15 + p.toNat) q).cell (i := p.toNat * 15 + r.toNat) (by omega)
  have f2 := (HG1.out.set (r.toNat * 15 + p.toNat) q).frozen (p.toNat * 15 + r.toNat)
  go_wp2
  go_region
  have HG0 : Hid (Gr ((U2.setCell ⟨g, r.toNat * 15 + p.toNat, none⟩ (.int .i64 q)).setCell ⟨g, p.toNat * 15 + r.toNat, none⟩ (.int .i64 q)).drew g (upd (upd (upd (upd (upd (upd (G) (p.toNat * 15 + q.toNat) r) (q.toNat * 15 + p.toNat) r) (q.toNat * 15 + r.toNat) p) (r.toNat * 15 + q.toNat) p) (r.toNat * 15 + p.toNat) q) (p.toNat * 15 + r.toNat) q)) := (HG1.out.set _ _).set _ _
  have HR0 : Hid (w.grownBy ((U2.setCell ⟨g, r.toNat * 15 + p.toNat, none⟩ (.int .i64 q)).setCell ⟨g, p.toNat * 15 + r.toNat, none⟩ (.int .i64 q)).drew (some g)) := grown_drewN (grown_set (grown_set HR1.out _ _) _ _) 1
  have HB0 : Hid (Box ((U2.setCell ⟨g, r.toNat * 15 + p.toNat, none⟩ (.int .i64 q)).setCell ⟨g, p.toNat * 15 + r.toNat, none⟩ (.int .i64 q)).drew w.heap.size (p, q, r)) := (HB1.out.set HN.out _ _).set HN.out _ _
  clear HG1 HB1 HR1 p1 f1 p2 f2
  go_wp2
  generalize World.drew (World.setCell (World.setCell U2 _ _) _ _) = V2 at *
  rw [rounds_succ]; go_wp2
  go_end0
  exact ⟨rfl, HG0.out, HR0.out⟩

theorem put_false (g : Nat) (G : Nat → Int) (b : Blk) (w : World) (hG : Gr w g G) (hg : goodB 15 b = true) :
    Calls Try.prog 135 #[.pointer (some ⟨g, 0, none⟩), .agg #[.int .i64 b.1, .int .i64 b.2.1, .int .i64 b.2.2], .bool false] w fun e w' => e = .returned (.tuple #[]) ∧ Gr w' g (putG G b false) ∧ w.grownBy w' (some g) := by
  obtain ⟨p, q, r⟩ := b
  unfold goodB at hg
  simp only [decide_eq_true_eq] at hg
  obtain ⟨h0, h1, h2, h3⟩ := hg
  dsimp only
  have hgl := hG.lt
  have HG := Lib.hid hG; clear hG
  have i0 := idx0 p q r
  have i1 := idx1 p q r
  have i2 := idx2 p q r
  go_enter Try.func135, Try.ntmps135
  go_wp2
  have hG1 : Gr (w.alloc (.cells #[.int .i64 p, .int .i64 q, .int .i64 r] 72)) g G := HG.out.below (below_alloc _ _)
  have hB : Box (w.alloc (.cells #[.int .i64 p, .int .i64 q, .int .i64 r] 72)) w.heap.size (p, q, r) := Box.new w (p, q, r) 72
  have hgr : w.grownBy (w.alloc (.cells #[.int .i64 p, .int .i64 q, .int .i64 r] 72)) (some g) := World.grownBy_alloc _ _ _
  have hgne : some w.heap.size ≠ some g := by intro h; injection h; omega
  generalize w.alloc _ = W at *
  have HG0 := Lib.hid hG1; have HB0 := Lib.hid hB; have HR0 := Lib.hid hgr; have HN := Lib.hid hgne; clear hG1 hB hgr HG hgne
  refine wp_loop_rounds 4 ?_
  have q0 : W.cell? ⟨w.heap.size, 0, none⟩ = some (.int .i64 p) := HB0.out.2 0 (by omega)
  have q1 : W.cell? ⟨w.heap.size, 1, none⟩ = some (.int .i64 q) := HB0.out.2 1 (by omega)
  have q2 : W.cell? ⟨w.heap.size, 2, none⟩ = some (.int .i64 r) := HB0.out.2 2 (by omega)
  rw [rounds_succ]; go_wp2; go_quiet (fail)
  have HG1 : Hid (Gr (W.drewN nq) g (G)) := HG0.out
  have HR1 : Hid (w.grownBy (W.drewN nq) (some g)) := grown_drewN HR0.out _
  have HB1 : Hid (Box (W.drewN nq) w.heap.size (p, q, r)) := HB0.out
  clear HG0 HB0 HR0 q0 q1 q2
  generalize W.drewN nq = U0 at *
  have p1 := HG1.out.cell (i := p.toNat * 15 + q.toNat) (by omega)
  have f1 := HG1.out.frozen (p.toNat * 15 + q.toNat)
  have p2 := (HG1.out.set (p.toNat * 15 + q.toNat) (-1)).cell (i := q.toNat * 15 + p.toNat) (by omega)
  have f2 := (HG1.out.set (p.toNat * 15 + q.toNat) (-1)).frozen (q.toNat * 15 + p.toNat)
  go_wp2
  go_region
  have HG0 : Hid (Gr ((U0.setCell ⟨g, p.toNat * 15 + q.toNat, none⟩ (.int .i64 (-1))).setCell ⟨g, q.toNat * 15 + p.toNat, none⟩ (.int .i64 (-1))).drew g (upd (upd (G) (p.toNat * 15 + q.toNat) (-1)) (q.toNat * 15 + p.toNat) (-1))) := (HG1.out.set _ _).set _ _
  have HR0 : Hid (w.grownBy ((U0.setCell ⟨g, p.toNat * 15 + q.toNat, none⟩ (.int .i64 (-1))).setCell ⟨g, q.toNat * 15 + p.toNat, none⟩ (.int .i64 (-1))).drew (some g)) := grown_drewN (grown_set (grown_set HR1.out _ _) _ _) 1
  have HB0 : Hid (Box ((U0.setCell ⟨g, p.toNat * 15 + q.toNat, none⟩ (.int .i64 (-1))).setCell ⟨g, q.toNat * 15 + p.toNat, none⟩ (.int .i64 (-1))).drew w.heap.size (p, q, r)) := (HB1.out.set HN.out _ _).set HN.out _ _
  clear HG1 HB1 HR1 p1 f1 p2 f2
  go_wp2
  generalize World.drew (World.setCell (World.setCell U0 _ _) _ _) = V0 at *
  have q0 : V0.cell? ⟨w.heap.size, 0, none⟩ = some (.int .i64 p) := HB0.out.2 0 (by omega)
  have q1 : V0.cell? ⟨w.heap.size, 1, none⟩ = some (.int .i64 q) := HB0.out.2 1 (by omega)
  have q2 : V0.cell? ⟨w.heap.size, 2, none⟩ = some (.int .i64 r) := HB0.out.2 2 (by omega)
  rw [rounds_succ]; go_wp2; go_quiet (fail)
  have HG1 : Hid (Gr (V0.drewN nq) g (upd (upd (G) (p.toNat * 15 + q.toNat) (-1)) (q.toNat * 15 + p.toNat) (-1))) := HG0.out
  have HR1 : Hid (w.grownBy (V0.drewN nq) (some g)) := grown_drewN HR0.out _
  have HB1 : Hid (Box (V0.drewN nq) w.heap.size (p, q, r)) := HB0.out
  clear HG0 HB0 HR0 q0 q1 q2
  generalize V0.drewN nq = U1 at *
  have p1 := HG1.out.cell (i := q.toNat * 15 + r.toNat) (by omega)
  have f1 := HG1.out.frozen (q.toNat * 15 + r.toNat)
  have p2 := (HG1.out.set (q.toNat * 15 + r.toNat) (-1)).cell (i := r.toNat * 15 + q.toNat) (by omega)
  have f2 := (HG1.out.set (q.toNat * 15 + r.toNat) (-1)).frozen (r.toNat * 15 + q.toNat)
  go_wp2
  go_region
  have HG0 : Hid (Gr ((U1.setCell ⟨g, q.toNat * 15 + r.toNat, none⟩ (.int .i64 (-1))).setCell ⟨g, r.toNat * 15 + q.toNat, none⟩ (.int .i64 (-1))).drew g (upd (upd (upd (upd (G) (p.toNat * 15 + q.toNat) (-1)) (q.toNat * 15 + p.toNat) (-1)) (q.toNat * 15 + r.toNat) (-1)) (r.toNat * 15 + q.toNat) (-1))) := (HG1.out.set _ _).set _ _
  have HR0 : Hid (w.grownBy ((U1.setCell ⟨g, q.toNat * 15 + r.toNat, none⟩ (.int .i64 (-1))).setCell ⟨g, r.toNat * 15 + q.toNat, none⟩ (.int .i64 (-1))).drew (some g)) := grown_drewN (grown_set (grown_set HR1.out _ _) _ _) 1
  have HB0 : Hid (Box ((U1.setCell ⟨g, q.toNat * 15 + r.toNat, none⟩ (.int .i64 (-1))).setCell ⟨g, r.toNat * 15 + q.toNat, none⟩ (.int .i64 (-1))).drew w.heap.size (p, q, r)) := (HB1.out.set HN.out _ _).set HN.out _ _
  clear HG1 HB1 HR1 p1 f1 p2 f2
  go_wp2
  generalize World.drew (World.setCell (World.setCell U1 _ _) _ _) = V1 at *
  have q0 : V1.cell? ⟨w.heap.size, 0, none⟩ = some (.int .i64 p) := HB0.out.2 0 (by omega)
  have q1 : V1.cell? ⟨w.heap.size, 1, none⟩ = some (.int .i64 q) := HB0.out.2 1 (by omega)
  have q2 : V1.cell? ⟨w.heap.size, 2, none⟩ = some (.int .i64 r) := HB0.out.2 2 (by omega)
  rw [rounds_succ]; go_wp2; go_quiet (fail)
  have HG1 : Hid (Gr (V1.drewN nq) g (upd (upd (upd (upd (G) (p.toNat * 15 + q.toNat) (-1)) (q.toNat * 15 + p.toNat) (-1)) (q.toNat * 15 + r.toNat) (-1)) (r.toNat * 15 + q.toNat) (-1))) := HG0.out
  have HR1 : Hid (w.grownBy (V1.drewN nq) (some g)) := grown_drewN HR0.out _
  have HB1 : Hid (Box (V1.drewN nq) w.heap.size (p, q, r)) := HB0.out
  clear HG0 HB0 HR0 q0 q1 q2
  generalize V1.drewN nq = U2 at *
  have p1 := HG1.out.cell (i := r.toNat * 15 + p.toNat) (by omega)
  have f1 := HG1.out.frozen (r.toNat * 15 + p.toNat)
  have p2 := (HG1.out.set (r.toNat * 15 + p.toNat) (-1)).cell (i := p.toNat * 15 + r.toNat) (by omega)
  have f2 := (HG1.out.set (r.toNat * 15 + p.toNat) (-1)).frozen (p.toNat * 15 + r.toNat)
  go_wp2
  go_region
  have HG0 : Hid (Gr ((U2.setCell ⟨g, r.toNat * 15 + p.toNat, none⟩ (.int .i64 (-1))).setCell ⟨g, p.toNat * 15 + r.toNat, none⟩ (.int .i64 (-1))).drew g (upd (upd (upd (upd (upd (upd (G) (p.toNat * 15 + q.toNat) (-1)) (q.toNat * 15 + p.toNat) (-1)) (q.toNat * 15 + r.toNat) (-1)) (r.toNat * 15 + q.toNat) (-1)) (r.toNat * 15 + p.toNat) (-1)) (p.toNat * 15 + r.toNat) (-1))) := (HG1.out.set _ _).set _ _
  have HR0 : Hid (w.grownBy ((U2.setCell ⟨g, r.toNat * 15 + p.toNat, none⟩ (.int .i64 (-1))).setCell ⟨g, p.toNat * 15 + r.toNat, none⟩ (.int .i64 (-1))).drew (some g)) := grown_drewN (grown_set (grown_set HR1.out _ _) _ _) 1
  have HB0 : Hid (Box ((U2.setCell ⟨g, r.toNat * 15 + p.toNat, none⟩ (.int .i64 (-1))).setCell ⟨g, p.toNat * 15 + r.toNat, none⟩ (.int .i64 (-1))).drew w.heap.size (p, q, r)) := (HB1.out.set HN.out _ _).set HN.out _ _
  clear HG1 HB1 HR1 p1 f1 p2 f2
  go_wp2
  generalize World.drew (World.setCell (World.setCell U2 _ _) _ _) = V2 at *
  rw [rounds_succ]; go_wp2
  go_end0
  exact ⟨rfl, HG0.out, HR0.out⟩

end Go.Proofs.Ytpdkkbimhhhjmaa
