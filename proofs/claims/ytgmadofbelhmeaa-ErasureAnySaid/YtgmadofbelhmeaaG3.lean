/- Texts of this claim, put together by a small program of the session's own: F38, MDecA, MDecode. -/
import Derived.Test.YtgmadofbelhmeaaG0
import Derived.Test.YtgmadofbelhmeaaG2
import Derived.Test.YtgmadofbelhmeaaG1
import Derived.Deep.RegionLaw
section
-- Printed for this claim by a small program of the session's own, drv.py, round the kit's print.py. Lean checks it.
namespace Go.Proofs.Ytgmadofbelhmeaa.L
open Go.RowKit Go.Proofs.YtgmadofbelhmeaaW.PrintWords Go.Proofs.YtgmadofbelhmeaaW.PrintLast Go.Proofs.YtgmadofbelhmeaaW.PrintMore
attribute [local go_sem] max2_int min2_int max_two min_two max_three min_three max_four min_four   -- for this text's walks alone
set_option linter.unusedVariables false
set_option linter.unusedSimpArgs false

/-! ### matrix_Pick: function 38 -/
mutual
def matrix_Pick.j0 : Nat → List Int → Bool → Int → Int → List Int → Option (Int × Int × List Int × Int)
  | 0, _, _, _, _, _ => none
  | k + 1, x1, x23, x181000, x181001, x181002 => if x23 = true then (some (0, 0, ([] : List Int), 1)) else (matrix_Pick.l0 k x1 (x1.length : Int) 0 x181000 x181001 x181002 (x1.length : Int) x181001 ([] : List Int))
def matrix_Pick.l0 : Nat → List Int → Int → Int → Int → Int → List Int → Int → Int → List Int → Option (Int × Int × List Int × Int)
  | 0, _, _, _, _, _, _, _, _, _ => none
  | k + 1, x30, x31, x32, x181000, x181001, x181002, x184000, x184001, x184002 => if x32 < x31 then (if 0 ≤ x32 then (if x32 < (x30.length : Int) then (if (rd x30 x32) < 0 then (some (0, 0, ([] : List Int), 1)) else (if (rd x30 x32) ≥ x181000 then (some (0, 0, ([] : List Int), 1)) else (if 0 ≤ (wrap64 ((rd x30 x32) * x181001)) then (if (wrap64 ((rd x30 x32) * x181001)) ≤ (wrap64 ((wrap64 ((rd x30 x32) + 1)) * x181001)) then (if (wrap64 ((wrap64 ((rd x30 x32) + 1)) * x181001)) ≤ (x181002.length : Int) then (if x184002.length + ((x181002.take ((wrap64 ((wrap64 ((rd x30 x32) + 1)) * x181001)) : Int).toNat).drop ((wrap64 ((rd x30 x32) * x181001)) : Int).toNat).length < 17592186044416 then (matrix_Pick.l0 k x30 x31 (wrap64 (x32 + 1)) x181000 x181001 x181002 x184000 x184001 (x184002 ++ ((x181002.take ((wrap64 ((wrap64 ((rd x30 x32) + 1)) * x181001)) : Int).toNat).drop ((wrap64 ((rd x30 x32) * x181001)) : Int).toNat))) else (none)) else (none)) else (none)) else (none)))) else (none)) else (none)) else (some (x184000, x184001, x184002, 0))
end
def matrix_Pick.f (k : Nat) (a0_0 : Int) (a0_1 : Int) (l0_2 : List Int) (l1 : List Int) : Option (Int × Int × List Int × Int) := (matrix_Check.f k a0_0 a0_1 l0_2).bind fun t182 => (if t182 = 0 then (if (l1.length : Int) < 1 then (matrix_Pick.j0 k l1 true a0_0 a0_1 l0_2) else (matrix_Pick.j0 k l1 (decide ((l1.length : Int) > 16)) a0_0 a0_1 l0_2)) else (some (0, 0, ([] : List Int), t182)))
theorem matrix_Pick.mono_l : ∀ k, (∀ y0 y1 y2 y3 y4, LeO (matrix_Pick.j0 k y0 y1 y2 y3 y4) (matrix_Pick.j0 (k + 1) y0 y1 y2 y3 y4)) ∧ (∀ y0 y1 y2 y3 y4 y5 y6 y7 y8, LeO (matrix_Pick.l0 k y0 y1 y2 y3 y4 y5 y6 y7 y8) (matrix_Pick.l0 (k + 1) y0 y1 y2 y3 y4 y5 y6 y7 y8))
  | 0 => ⟨fun _ _ _ _ _ r h => by simp [matrix_Pick.j0] at h, fun _ _ _ _ _ _ _ _ _ r h => by simp [matrix_Pick.l0] at h⟩
  | k + 1 => by
    obtain ⟨ih0, ih1⟩ := matrix_Pick.mono_l k
    refine ⟨?_, ?_⟩
    · intro y0 y1 y2 y3 y4
      unfold matrix_Pick.j0
      repeat' first
      | (with_reducible exact ih0 _ _ _ _ _)
      | (with_reducible exact ih1 _ _ _ _ _ _ _ _ _)
      | (with_reducible exact matrix_Check.mono _ _ _ _)
      | (with_reducible exact LeO.refl _)
      | (with_reducible exact LeO.none _)
      | (with_reducible refine LeO.ite ?_ ?_)
      | (with_reducible refine LeO.bind ?_ (fun _ => ?_))
      | exact ih0 _ _ _ _ _
      | exact ih1 _ _ _ _ _ _ _ _ _
      | exact matrix_Check.mono _ _ _ _
      | exact LeO.none _
      | refine LeO.ite ?_ ?_
      | refine LeO.bind ?_ (fun _ => ?_)
    · intro y0 y1 y2 y3 y4 y5 y6 y7 y8
      unfold matrix_Pick.l0
      repeat' first
      | (with_reducible exact ih0 _ _ _ _ _)
      | (with_reducible exact ih1 _ _ _ _ _ _ _ _ _)
      | (with_reducible exact matrix_Check.mono _ _ _ _)
      | (with_reducible exact LeO.refl _)
      | (with_reducible exact LeO.none _)
      | (with_reducible refine LeO.ite ?_ ?_)
      | (with_reducible refine LeO.bind ?_ (fun _ => ?_))
      | exact ih0 _ _ _ _ _
      | exact ih1 _ _ _ _ _ _ _ _ _
      | exact matrix_Check.mono _ _ _ _
      | exact LeO.none _
      | refine LeO.ite ?_ ?_
      | refine LeO.bind ?_ (fun _ => ?_)
theorem matrix_Pick.mono : ∀ a0 a1 a2 a3 k, LeO (matrix_Pick.f k a0 a1 a2 a3) (matrix_Pick.f (k + 1) a0 a1 a2 a3) := by
  intro a0 a1 a2 a3 k
  obtain ⟨ih0, ih1⟩ := matrix_Pick.mono_l k
  unfold matrix_Pick.f
  repeat' first
      | (with_reducible exact ih0 _ _ _ _ _)
      | (with_reducible exact ih1 _ _ _ _ _ _ _ _ _)
      | (with_reducible exact matrix_Check.mono _ _ _ _)
      | (with_reducible exact LeO.refl _)
      | (with_reducible exact LeO.none _)
      | (with_reducible refine LeO.ite ?_ ?_)
      | (with_reducible refine LeO.bind ?_ (fun _ => ?_))
      | exact ih0 _ _ _ _ _
      | exact ih1 _ _ _ _ _ _ _ _ _
      | exact matrix_Check.mono _ _ _ _
      | exact LeO.none _
      | refine LeO.ite ?_ ?_
      | refine LeO.bind ?_ (fun _ => ?_)
def matrix_Pick.T12 : Bool × List (List Nat × List Nat) := (true, [([], []), ([0], [0]), ([], []), ([2], [2]), ([], []), ([], []), ([5], [5]), ([4, 6], [4, 6]), ([], []), ([8], [8]), ([], []), ([10], [10]), ([9, 11], [9, 11]), ([3, 7, 12], [3, 7, 12]), ([1, 13], [1, 13]), ([0, 1, 2, 3, 4, 5, 6, 7, 8, 9, 10, 11, 12, 13, 14], []), ([15, 14, 14, 0, 1, 2, 3, 4, 5, 6, 7, 8, 9, 10, 11, 12, 13, 14], [14, 15])])
def matrix_Pick.B12 : List Nat := [0, 1, 0, 4, 0, 0, 32, 112, 0, 256, 0, 1024, 3840, 8188, 16383, 32767, 65535]
theorem matrix_Pick.tab12 : rtab .any (opsOf Try.f38 12) = matrix_Pick.T12 := by kernel_rfl
theorem matrix_Pick.bits12 : waitsOk matrix_Pick.T12.2 matrix_Pick.B12 = true := by kernel_rfl
set_option maxHeartbeats 8000000 in
set_option maxRecDepth 100000 in
theorem matrix_Pick.calls (k : Nat) (a0_0 : Int) (a0_1 : Int) (A0_2 : Option Addr) (c0_2 : Nat) (l0_2 : List Int) (A1 : Option Addr) (c1 : Nat) (l1 : List Int) (r1 : Int) (r2 : Int) (r3 : List Int) (r4 : Int) (w : World) (hr0_2 : Kd.C (Kd.int .i64) w A0_2 l0_2.length l0_2) (hc0_2 : l0_2.length ≤ c0_2) (hr1 : Kd.C (Kd.int .i64) w A1 l1.length l1) (hc1 : l1.length ≤ c1) (h : matrix_Pick.f k a0_0 a0_1 l0_2 l1 = some (r1, r2, r3, r4)) :
    Calls Try.prog 38 #[.agg #[.int .i64 a0_0, .int .i64 a0_1, .slice A0_2 l0_2.length c0_2], .slice A1 l1.length c1] w fun e w' => ∃ v2_ : Value, e = .returned (.tuple #[.agg #[.int .i64 r1, .int .i64 r2, v2_], .int .i64 r4]) ∧ Kd.R (Kd.int .i64) 3 w' w.heap.size (fun _ => True) v2_ r3 ∧ Below w.heap.size w w' := by
  have hu63 := Try.underlying63
  have HR0_2 := Aside0.mk hr0_2
  have HC0_2 := Aside0.mk hc0_2
  clear hr0_2 hc0_2
  have HR1 := Aside0.mk hr1
  have HC1 := Aside0.mk hc1
  clear hr1 hc1
  have HB := Aside0.mk (Below.refl w.heap.size w)
  have H : ((matrix_Check.f k a0_0 a0_1 l0_2).bind fun t182 => (if t182 = 0 then (if (l1.length : Int) < 1 then (matrix_Pick.j0 k l1 true a0_0 a0_1 l0_2) else (matrix_Pick.j0 k l1 (decide ((l1.length : Int) > 16)) a0_0 a0_1 l0_2)) else (some (0, 0, ([] : List Int), t182)))) = some (r1, r2, r3, r4) := h
  clear h
  replace H := Option.bind_eq_some_iff.mp H
  obtain ⟨t182, A30, H⟩ := H
  replace H : (if t182 = 0 then (if (l1.length : Int) < 1 then (matrix_Pick.j0 k l1 true a0_0 a0_1 l0_2) else (matrix_Pick.j0 k l1 (decide ((l1.length : Int) > 16)) a0_0 a0_1 l0_2)) else (some (0, 0, ([] : List Int), t182))) = some (r1, r2, r3, r4) := H
  have A3 := Aside0.mk A30
  clear A30
  by_cases c4 : t182 = 0
  · rw [if_pos c4] at H
    have c4b0 : (t182 == 0) = true := beq_iff_eq.mpr c4
    have c4b1 : (t182 != 0) = false := bne_eq_false_iff_eq.mpr c4
    clear c4
    have HC5 := Aside0.mk H
    clear H
    go_enter Try.func38, Try.ntmps38
    go_upto_region 4 with (first | ((with_reducible refine gate_dst (N := 2) rfl ?_); (try (refine gate_guard (by rfl) ?_; dsimp only)); refine box_event ?hg (N := 2) ?hd (cs := #[.int .i64 a0_0, .int .i64 a0_1, .slice A0_2 l0_2.length c0_2]) (t := 63) ?hr ?_; (case hd => rfl); (case hg => rfl); (case hr => first | (go_simp; done) | (go_simp; rfl)); intro gb180 hg w6 hbox hb; have n0_ := Aside0.mk (below_step (by repeat (first | (with_reducible first | exact HB.out | apply below_alloc | apply pw_below_drewN | apply below_drew1) | exact HB.out)) hb); have n1_ := Aside0.mk (hbox); have n2_ := Aside0.mk ((by rw [hg]; exact (below_size (by repeat (first | (with_reducible first | exact HB.out | apply below_alloc | apply pw_below_drewN | apply below_drew1) | exact HB.out))) : w.heap.size ≤ gb180)); have n3_ := Aside0.mk ((by rw [hg]; exact (below_size (by repeat (first | (with_reducible first | exact HB.out | apply below_alloc | apply pw_below_drewN | apply below_drew1) | exact HB.out))) : w.heap.size ≤ gb180)); clear HB; have HB := n0_; have BK180 := n1_; have GW180 := n2_; have GE180 := n3_; clear n0_ n1_ n2_ n3_; clear hb hbox hg) | ((with_reducible refine gate_dst (N := 4) rfl ?_); (try (refine gate_guard (by rfl) ?_; dsimp only)); refine box_event ?hg (N := 4) ?hd (cs := #[.int .i64 0, .int .i64 0, .slice none 0 0]) (t := 63) ?hr ?_; (case hd => rfl); (case hg => rfl); (case hr => first | (go_simp; done) | (go_simp; rfl)); intro gb181 hg w7 hbox hb; have n0_ := Aside0.mk (blk_below (g := gb180) (o := .cells #[.int .i64 a0_0, .int .i64 a0_1, .slice A0_2 l0_2.length c0_2] 63 (0, 0)) (by (with_reducible repeat (first | refine blk_drewN ?_ _ | refine blk_drew ?_ | refine blk_alloc ?_ _)); exact BK180.out) hb); have n1_ := Aside0.mk (below_step (by repeat (first | (with_reducible first | exact HB.out | apply below_alloc | apply pw_below_drewN | apply below_drew1 | refine below_set ?_ GE180.out) | exact HB.out)) hb); have n2_ := Aside0.mk (hbox); have n3_ := Aside0.mk ((by rw [hg]; exact (below_size (by repeat (first | (with_reducible first | exact HB.out | apply below_alloc | apply pw_below_drewN | apply below_drew1 | refine below_set ?_ GE180.out) | exact HB.out))) : w.heap.size ≤ gb181)); have n4_ := Aside0.mk ((by rw [hg]; exact (below_size (by repeat (first | (with_reducible first | exact HB.out | apply below_alloc | apply pw_below_drewN | apply below_drew1 | refine below_set ?_ GE180.out) | exact HB.out))) : w.heap.size ≤ gb181)); have n5_ := Aside0.mk ((by rw [hg]; exact Nat.ne_of_lt (blk_lt (g := gb180) (o := .cells #[.int .i64 a0_0, .int .i64 a0_1, .slice A0_2 l0_2.length c0_2] 63 (0, 0)) (by (with_reducible repeat (first | refine blk_drewN ?_ _ | refine blk_drew ?_ | refine blk_alloc ?_ _)); exact BK180.out)) : gb180 ≠ gb181)); have n6_ := Aside0.mk ((by rw [hg]; exact Nat.ne_of_gt (blk_lt (g := gb180) (o := .cells #[.int .i64 a0_0, .int .i64 a0_1, .slice A0_2 l0_2.length c0_2] 63 (0, 0)) (by (with_reducible repeat (first | refine blk_drewN ?_ _ | refine blk_drew ?_ | refine blk_alloc ?_ _)); exact BK180.out)) : gb181 ≠ gb180)); clear BK180; clear HB; have BK180 := n0_; have HB := n1_; have BK181 := n2_; have GW181 := n3_; have GE181 := n4_; have NB180_181 := n5_; have NB181_180 := n6_; clear n0_ n1_ n2_ n3_ n4_ n5_ n6_; clear hb hbox hg; have hnb8 := NB180_181.out; have hnc8 := NB181_180.out; have hcz9_0 : w7.cell? ⟨gb180, 0, none⟩ = some (.int .i64 a0_0) := (blk_cell BK180.out 0).trans rfl; have hcz9_1 : w7.cell? ⟨gb180, 1, none⟩ = some (.int .i64 a0_1) := (blk_cell BK180.out 1).trans rfl; have hcz9_2 : w7.cell? ⟨gb180, 2, none⟩ = some (.slice A0_2 l0_2.length c0_2) := (blk_cell BK180.out 2).trans rfl; have hfz9_0 := blk_frozen BK180.out 0; have hfz9_1 := blk_frozen BK180.out 1; have hfz9_2 := blk_frozen BK180.out 2) | ((with_reducible refine gate_callee (f := 55) rfl ?_); refine goesL_ (some 11) rfl rfl Try.func55 (by kernel_rfl) rfl #[.agg #[.int .i64 a0_0, .int .i64 a0_1, .slice A0_2 l0_2.length c0_2]] rfl (by (try simp only [List.map_toArray, List.map_cons, List.map_nil]); first | done | rfl | (simp only [List.length_drop, List.length_take]; rfl)) ?_; (with_reducible refine (matrix_Check.calls k a0_0 a0_1 _ _ l0_2 t182 _ ?side1 ?side2 A3.out).mono ?_); (case side1 => repeat (first | exact (Kd.C_below HR0_2.out HB.out) | (with_reducible refine Kd.C_alloc ?_ _) | (with_reducible refine Kd.C_drewN ?_ _) | (with_reducible refine Kd.C_drew ?_))); (case side2 => exact HC0_2.out); rintro e w10 ⟨rfl, hb⟩; refine ⟨_, rfl, ?_⟩; have n0_ := Aside0.mk (blk_below (g := gb180) (o := .cells #[.int .i64 a0_0, .int .i64 a0_1, .slice A0_2 l0_2.length c0_2] 63 (0, 0)) (by (with_reducible repeat (first | refine blk_drewN ?_ _ | refine blk_drew ?_ | refine blk_alloc ?_ _)); exact BK180.out) hb); have n1_ := Aside0.mk (blk_below (g := gb181) (o := .cells #[.int .i64 0, .int .i64 0, .slice none 0 0] 63 (0, 0)) (by (with_reducible repeat (first | refine blk_drewN ?_ _ | refine blk_drew ?_ | refine blk_alloc ?_ _)); exact BK181.out) hb); have n2_ := Aside0.mk (below_step (by repeat (first | (with_reducible first | exact HB.out | apply below_alloc | apply pw_below_drewN | apply below_drew1 | refine below_set ?_ GE180.out | refine below_set ?_ GE181.out) | exact HB.out)) hb); clear BK180; clear BK181; clear HB; have BK180 := n0_; have BK181 := n1_; have HB := n2_; clear n0_ n1_ n2_; (try clear hb); (try clear hb2); (try clear hk); (try clear hi)))
    (try simp only [Act.put, List.setIfInBounds_toArray, List.set_cons_zero, List.set_cons_succ])
    go_cut [23] (fun v23 wc => ∃ (kq : Nat) (x23_4 : Bool), v23 = .bool x23_4 ∧ Aside0 (matrix_Pick.j0 kq l1 x23_4 a0_0 a0_1 l0_2 = some (r1, r2, r3, r4)) ∧ Aside0 (kq ≤ k) ∧ Aside0 (wc.heap[gb180]? = some (.cells #[.int .i64 a0_0, .int .i64 a0_1, (.slice A0_2 l0_2.length c0_2)] 63 (0, 0))) ∧ Aside0 (wc.heap[gb181]? = some (.cells #[.int .i64 0, .int .i64 0, (.slice none 0 0)] 63 (0, 0))) ∧ Aside0 (Below w.heap.size w wc))
    case first =>
      have H := HC5.out
      clear HC5
      by_cases c11 : (l1.length : Int) < 1
      · rw [if_pos c11] at H
        have c11b0 : decide ((l1.length : Int) < 1) = true := decide_eq_true c11
        have c11b1 : decide (l1.length < 1) = true := decide_eq_true (by omega)
        clear c11
        (first | rw [c11b0] | (simp only [i64_w, i32_w]; rw [c11b0]) | skip)
        have H' := Aside0.mk H
        clear H
        go_wp2
        go_meet
        case rel => exact ⟨_, (true), (by first | rfl | (simp; done) | (simp [*]; done)), H', ⟨by first | omega | exact Nat.le_refl _⟩, ⟨by (with_reducible repeat (first | refine blk_drewN ?_ _ | refine blk_drew ?_ | refine blk_alloc ?_ _)); exact BK180.out⟩, ⟨by (with_reducible repeat (first | refine blk_drewN ?_ _ | refine blk_drew ?_ | refine blk_alloc ?_ _)); exact BK181.out⟩, ⟨by repeat (first | (with_reducible first | exact HB.out | apply below_alloc | apply pw_below_drewN | apply below_drew1 | refine below_set ?_ GE180.out | refine below_set ?_ GE181.out) | exact HB.out)⟩⟩
      · rw [if_neg c11] at H
        have c11b0 : decide ((l1.length : Int) < 1) = false := decide_eq_false c11
        have c11b1 : decide (l1.length < 1) = false := decide_eq_false (by omega)
        clear c11
        (first | rw [c11b0] | (simp only [i64_w, i32_w]; rw [c11b0]) | skip)
        have H' := Aside0.mk H
        clear H
        go_wp2
        go_meet
        case rel => exact ⟨_, (decide ((l1.length : Int) > 16)), (by first | rfl | (simp; done) | (simp [*]; done)), H', ⟨by first | omega | exact Nat.le_refl _⟩, ⟨by (with_reducible repeat (first | refine blk_drewN ?_ _ | refine blk_drew ?_ | refine blk_alloc ?_ _)); exact BK180.out⟩, ⟨by (with_reducible repeat (first | refine blk_drewN ?_ _ | refine blk_drew ?_ | refine blk_alloc ?_ _)); exact BK181.out⟩, ⟨by repeat (first | (with_reducible first | exact HB.out | apply below_alloc | apply pw_below_drewN | apply below_drew1 | refine below_set ?_ GE180.out | refine below_set ?_ GE181.out) | exact HB.out)⟩⟩
    case rest =>
      clear HC5
      try clear c1
      try clear p2
      try clear c3
      try clear c4
      try clear c4b0
      try clear c4b1
      try clear c5
      try clear c8
      try clear c11
      try clear c11b0
      try clear c11b1
      try clear hcz9_0
      try clear hcz9_1
      try clear hcz9_2
      try clear hfz9_0
      try clear hfz9_1
      try clear hfz9_2
      obtain ⟨kq, x23_4, rfl, HA, HJ4, BK180, BK181, HB⟩ := hcut
      cases kq with
      | zero => exact absurd HA.out (by simp [matrix_Pick.j0])
      | succ kj4 =>
        have H := HA.out
        clear HA
        simp only [matrix_Pick.j0] at H
        by_cases c12 : x23_4 = true
        · subst c12
          have H1 : (some (0, 0, ([] : List Int), 1)) = some (r1, r2, r3, r4) := by rw [if_pos rfl] at H; exact H
          clear H
          have H := H1
          clear H1
          simp only [Option.some.injEq, Prod.mk.injEq] at H
          obtain ⟨rfl, rfl, rfl, rfl⟩ := H
          have hnb13 := NB181_180.out
          have hnc13 := NB180_181.out
          have hcz14_0 : wc.cell? ⟨gb181, 0, none⟩ = some (.int .i64 0) := (blk_cell BK181.out 0).trans rfl
          have hcz14_1 : wc.cell? ⟨gb181, 1, none⟩ = some (.int .i64 0) := (blk_cell BK181.out 1).trans rfl
          have hcz14_2 : wc.cell? ⟨gb181, 2, none⟩ = some (.slice none 0 0) := (blk_cell BK181.out 2).trans rfl
          have hfz14_0 := blk_frozen BK181.out 0
          have hfz14_1 := blk_frozen BK181.out 1
          have hfz14_2 := blk_frozen BK181.out 2
          go_wp2
          refine bodyPost_ret (results_ct rfl _ _ gb181 63 #[.int .i64 0, .int .i64 0, .slice none 0 0] (0, 0) _ rfl (by (with_reducible repeat (first | refine blk_drewN ?_ _ | refine blk_drew ?_ | refine blk_alloc ?_ _)); refine blk_put (cs := #[.int .i64 0, .int .i64 0, .slice none 0 0]) ?_ 2 _ rfl; (with_reducible repeat (first | refine blk_drewN ?_ _ | refine blk_drew ?_ | refine blk_alloc ?_ _)); refine blk_put (cs := #[.int .i64 0, .int .i64 0, .slice none 0 0]) ?_ 1 _ rfl; (with_reducible repeat (first | refine blk_drewN ?_ _ | refine blk_drew ?_ | refine blk_alloc ?_ _)); refine blk_put (cs := #[.int .i64 0, .int .i64 0, .slice none 0 0]) ?_ 0 _ rfl; (with_reducible repeat (first | refine blk_drewN ?_ _ | refine blk_drew ?_ | refine blk_alloc ?_ _)); exact BK181.out) Try.underlying63 rfl (by kernel_rfl)) rfl ?_
          exact ⟨_, by first | rfl | (simp [errW_none, errW_some] <;> rfl) | (simp [*, errW_none, errW_some] <;> rfl), by first | exact Kd.R_nil _ _ _ _ _ | exact Kd.N_nil _ _ _ _ _ | exact Kd.V_nil _ _ _ _ _ | exact Kd.Q_nil _ _ _ _ _ | exact Kd.S_nil _ _ _ _ _, by repeat (first | (with_reducible first | exact HB.out | apply below_alloc | apply pw_below_drewN | apply below_drew1 | refine below_set ?_ GE180.out | refine below_set ?_ GE181.out) | exact HB.out)⟩
        · replace c12 := Bool.eq_false_iff.mpr c12
          subst c12
          have H1 : (matrix_Pick.l0 kj4 l1 (l1.length : Int) 0 a0_0 a0_1 l0_2 (l1.length : Int) a0_1 ([] : List Int)) = some (r1, r2, r3, r4) := by rw [if_neg (show ¬ (false = true) by decide)] at H; exact H
          clear H
          have H := H1
          clear H1
          have H' := Aside0.mk H
          clear H
          have hnb15 := NB180_181.out
          have hnc15 := NB181_180.out
          have hcz16_0 : wc.cell? ⟨gb180, 0, none⟩ = some (.int .i64 a0_0) := (blk_cell BK180.out 0).trans rfl
          have hcz16_1 : wc.cell? ⟨gb180, 1, none⟩ = some (.int .i64 a0_1) := (blk_cell BK180.out 1).trans rfl
          have hcz16_2 : wc.cell? ⟨gb180, 2, none⟩ = some (.slice A0_2 l0_2.length c0_2) := (blk_cell BK180.out 2).trans rfl
          have hfz16_0 := blk_frozen BK180.out 0
          have hfz16_1 := blk_frozen BK180.out 1
          have hfz16_2 := blk_frozen BK180.out 2
          go_wp2_with (first | ((with_reducible refine gate_dst (N := 7) rfl ?_); (try (refine gate_guard (by rfl) ?_; dsimp only)); refine box_event ?hg (N := 7) ?hd (cs := #[.int .i64 0, .int .i64 0, .slice none 0 0]) (t := 63) ?hr ?_; (case hd => rfl); (case hg => rfl); (case hr => first | (go_simp; done) | (go_simp; rfl)); intro gb183 hg w17 hbox hb; have n0_ := Aside0.mk (blk_below (g := gb180) (o := .cells #[.int .i64 a0_0, .int .i64 a0_1, .slice A0_2 l0_2.length c0_2] 63 (0, 0)) (by (with_reducible repeat (first | refine blk_drewN ?_ _ | refine blk_drew ?_ | refine blk_alloc ?_ _)); exact BK180.out) hb); have n1_ := Aside0.mk (blk_below (g := gb181) (o := .cells #[.int .i64 0, .int .i64 0, .slice none 0 0] 63 (0, 0)) (by (with_reducible repeat (first | refine blk_drewN ?_ _ | refine blk_drew ?_ | refine blk_alloc ?_ _)); exact BK181.out) hb); have n2_ := Aside0.mk (below_step (by repeat (first | (with_reducible first | exact HB.out | apply below_alloc | apply pw_below_drewN | apply below_drew1 | refine below_set ?_ GE180.out | refine below_set ?_ GE181.out) | exact HB.out)) hb); have n3_ := Aside0.mk (hbox); have n4_ := Aside0.mk ((by rw [hg]; exact (below_size (by repeat (first | (with_reducible first | exact HB.out | apply below_alloc | apply pw_below_drewN | apply below_drew1 | refine below_set ?_ GE180.out | refine below_set ?_ GE181.out) | exact HB.out))) : w.heap.size ≤ gb183)); have n5_ := Aside0.mk ((by rw [hg]; exact (below_size (by repeat (first | (with_reducible first | exact HB.out | apply below_alloc | apply pw_below_drewN | apply below_drew1 | refine below_set ?_ GE180.out | refine below_set ?_ GE181.out) | exact HB.out))) : w.heap.size ≤ gb183)); have n6_ := Aside0.mk ((by rw [hg]; exact Nat.ne_of_lt (blk_lt (g := gb180) (o := .cells #[.int .i64 a0_0, .int .i64 a0_1, .slice A0_2 l0_2.length c0_2] 63 (0, 0)) (by (with_reducible repeat (first | refine blk_drewN ?_ _ | refine blk_drew ?_ | refine blk_alloc ?_ _)); exact BK180.out)) : gb180 ≠ gb183)); have n7_ := Aside0.mk ((by rw [hg]; exact Nat.ne_of_gt (blk_lt (g := gb180) (o := .cells #[.int .i64 a0_0, .int .i64 a0_1, .slice A0_2 l0_2.length c0_2] 63 (0, 0)) (by (with_reducible repeat (first | refine blk_drewN ?_ _ | refine blk_drew ?_ | refine blk_alloc ?_ _)); exact BK180.out)) : gb183 ≠ gb180)); have n8_ := Aside0.mk ((by rw [hg]; exact Nat.ne_of_lt (blk_lt (g := gb181) (o := .cells #[.int .i64 0, .int .i64 0, .slice none 0 0] 63 (0, 0)) (by (with_reducible repeat (first | refine blk_drewN ?_ _ | refine blk_drew ?_ | refine blk_alloc ?_ _)); exact BK181.out)) : gb181 ≠ gb183)); have n9_ := Aside0.mk ((by rw [hg]; exact Nat.ne_of_gt (blk_lt (g := gb181) (o := .cells #[.int .i64 0, .int .i64 0, .slice none 0 0] 63 (0, 0)) (by (with_reducible repeat (first | refine blk_drewN ?_ _ | refine blk_drew ?_ | refine blk_alloc ?_ _)); exact BK181.out)) : gb183 ≠ gb181)); clear BK180; clear BK181; clear HB; have BK180 := n0_; have BK181 := n1_; have HB := n2_; have BK183 := n3_; have GW183 := n4_; have GE183 := n5_; have NB180_183 := n6_; have NB183_180 := n7_; have NB181_183 := n8_; have NB183_181 := n9_; clear n0_ n1_ n2_ n3_ n4_ n5_ n6_ n7_ n8_ n9_; clear hb hbox hg; have hnb18 := NB183_180.out; have hnc18 := NB180_183.out; have hnb19 := NB183_181.out; have hnc19 := NB181_183.out; have hcz20_0 : w17.cell? ⟨gb183, 0, none⟩ = some (.int .i64 0) := (blk_cell BK183.out 0).trans rfl; have hcz20_1 : w17.cell? ⟨gb183, 1, none⟩ = some (.int .i64 0) := (blk_cell BK183.out 1).trans rfl; have hcz20_2 : w17.cell? ⟨gb183, 2, none⟩ = some (.slice none 0 0) := (blk_cell BK183.out 2).trans rfl; have hfz20_0 := blk_frozen BK183.out 0; have hfz20_1 := blk_frozen BK183.out 1; have hfz20_2 := blk_frozen BK183.out 2))
          go_loopg [32] kj4 (fun kq v32 w' => ∃ (x32_2 : Int) (x182000_2 : Int) (x182001_2 : Int) (x184002_2 : List Int) (u184002 : Value), v32 = .int .i64 x32_2 ∧ Aside0 (matrix_Pick.l0 kq l1 (l1.length : Int) x32_2 a0_0 a0_1 l0_2 (l1.length : Int) a0_1 x184002_2 = some (r1, r2, r3, r4)) ∧ Aside0 (kq ≤ kj4) ∧ Aside0 (Kd.R (Kd.int .i64) 3 w' w.heap.size (fun _ => True) u184002 x184002_2) ∧ Aside0 (w'.heap[gb180]? = some (.cells #[.int .i64 a0_0, .int .i64 a0_1, (.slice A0_2 l0_2.length c0_2)] 63 (0, 0))) ∧ Aside0 (w'.heap[gb181]? = some (.cells #[.int .i64 x182000_2, .int .i64 x182001_2, (.slice none 0 0)] 63 (0, 0))) ∧ Aside0 (w'.heap[gb183]? = some (.cells #[.int .i64 (l1.length : Int), .int .i64 a0_1, u184002] 63 (0, 0))) ∧ Aside0 (Below w.heap.size w w'))
          case atStart => exact ⟨(0), (0), (0), (([] : List Int)), (.slice none 0 0), (by first | rfl | (simp; done) | (simp [*]; done)), H', ⟨Nat.le_refl _⟩, ⟨by first | exact Kd.R_nil _ _ _ _ _ | exact Kd.N_nil _ _ _ _ _ | exact Kd.V_nil _ _ _ _ _ | exact Kd.Q_nil _ _ _ _ _ | exact Kd.S_nil _ _ _ _ _⟩, ⟨by (with_reducible repeat (first | refine blk_drewN ?_ _ | refine blk_drew ?_ | refine blk_alloc ?_ _)); refine blk_far ?_ NB180_183.out _; (with_reducible repeat (first | refine blk_drewN ?_ _ | refine blk_drew ?_ | refine blk_alloc ?_ _)); refine blk_far ?_ NB180_183.out _; (with_reducible repeat (first | refine blk_drewN ?_ _ | refine blk_drew ?_ | refine blk_alloc ?_ _)); refine blk_far ?_ NB180_183.out _; (with_reducible repeat (first | refine blk_drewN ?_ _ | refine blk_drew ?_ | refine blk_alloc ?_ _)); exact BK180.out⟩, ⟨by (with_reducible repeat (first | refine blk_drewN ?_ _ | refine blk_drew ?_ | refine blk_alloc ?_ _)); refine blk_far ?_ NB181_183.out _; (with_reducible repeat (first | refine blk_drewN ?_ _ | refine blk_drew ?_ | refine blk_alloc ?_ _)); refine blk_far ?_ NB181_183.out _; (with_reducible repeat (first | refine blk_drewN ?_ _ | refine blk_drew ?_ | refine blk_alloc ?_ _)); refine blk_far ?_ NB181_183.out _; (with_reducible repeat (first | refine blk_drewN ?_ _ | refine blk_drew ?_ | refine blk_alloc ?_ _)); exact BK181.out⟩, ⟨by (with_reducible repeat (first | refine blk_drewN ?_ _ | refine blk_drew ?_ | refine blk_alloc ?_ _)); refine blk_put (cs := #[.int .i64 (l1.length : Int), .int .i64 a0_1, .slice none 0 0]) ?_ 2 _ rfl; (with_reducible repeat (first | refine blk_drewN ?_ _ | refine blk_drew ?_ | refine blk_alloc ?_ _)); refine blk_put (cs := #[.int .i64 (l1.length : Int), .int .i64 0, .slice none 0 0]) ?_ 1 _ rfl; (with_reducible repeat (first | refine blk_drewN ?_ _ | refine blk_drew ?_ | refine blk_alloc ?_ _)); refine blk_put (cs := #[.int .i64 0, .int .i64 0, .slice none 0 0]) ?_ 0 _ rfl; (with_reducible repeat (first | refine blk_drewN ?_ _ | refine blk_drew ?_ | refine blk_alloc ?_ _)); exact BK183.out⟩, ⟨by repeat (first | (with_reducible first | exact HB.out | apply below_alloc | apply pw_below_drewN | apply below_drew1 | refine below_set ?_ GE180.out | refine below_set ?_ GE181.out | refine below_set ?_ GE183.out) | exact HB.out)⟩⟩
          case round =>
            clear H'
            try clear c1
            try clear p2
            try clear c3
            try clear c4
            try clear c4b0
            try clear c4b1
            try clear c5
            try clear c8
            try clear c11
            try clear c11b0
            try clear c11b1
            try clear c12
            try clear c13
            try clear c15
            try clear c18
            try clear c19
            try clear hcz14_0
            try clear hcz14_1
            try clear hcz14_2
            try clear hcz16_0
            try clear hcz16_1
            try clear hcz16_2
            try clear hcz20_0
            try clear hcz20_1
            try clear hcz20_2
            try clear hcz9_0
            try clear hcz9_1
            try clear hcz9_2
            try clear hfz14_0
            try clear hfz14_1
            try clear hfz14_2
            try clear hfz16_0
            try clear hfz16_1
            try clear hfz16_2
            try clear hfz20_0
            try clear hfz20_1
            try clear hfz20_2
            try clear hfz9_0
            try clear hfz9_1
            try clear hfz9_2
            try clear p2
            obtain ⟨x32_2, x182000_2, x182001_2, x184002_2, u184002, rfl, HA, HK2, HO_184002, BK180, BK181, BK183, HB⟩ := hrel
            cases gk with
            | zero => exact absurd HA.out (by simp [matrix_Pick.l0])
            | succ k2 =>
              have H := HA.out
              clear HA
              simp only [matrix_Pick.l0] at H
              by_cases c21 : x32_2 < (l1.length : Int)
              · rw [if_pos c21] at H
                have c21b0 : decide (x32_2 < (l1.length : Int)) = true := decide_eq_true c21
                clear c21
                by_cases c22 : 0 ≤ x32_2
                · rw [if_pos c22] at H
                  have c22b0 : decide (0 ≤ x32_2) = true := decide_eq_true c22
                  clear c22
                  by_cases c23 : x32_2 < (l1.length : Int)
                  · rw [if_pos c23] at H
                    have c23b0 : decide (x32_2 < (l1.length : Int)) = true := decide_eq_true c23
                    clear c23
                    by_cases c24 : (rd l1 x32_2) < 0
                    · rw [if_pos c24] at H
                      have c24b0 : decide ((rd l1 x32_2) < 0) = true := decide_eq_true c24
                      clear c24
                      simp only [Option.some.injEq, Prod.mk.injEq] at H
                      obtain ⟨rfl, rfl, rfl, rfl⟩ := H
                      have p184 : 0 ≤ (x32_2 : Int) := of_decide_eq_true (by first | (with_reducible assumption) | assumption)
                      have q184 : x32_2 < (l1.length : Int) := of_decide_eq_true (by first | (with_reducible assumption) | assumption)
                      obtain ⟨ad184, e184, hx184_0⟩ := Kd.at_int HR1.out x32_2 p184 q184
                      cases e184
                      replace hx184_0 := (HB.out.cell (World.block_lt_of_cell? w _ hx184_0)).trans hx184_0
                      replace p184 := eq_true p184
                      replace q184 := eq_true q184
                      have hnb25 := NB181_180.out
                      have hnc25 := NB180_181.out
                      have hnb26 := NB181_183.out
                      have hnc26 := NB183_181.out
                      have hcz27_0 : wr.cell? ⟨gb181, 0, none⟩ = some (.int .i64 x182000_2) := (blk_cell BK181.out 0).trans rfl
                      have hcz27_1 : wr.cell? ⟨gb181, 1, none⟩ = some (.int .i64 x182001_2) := (blk_cell BK181.out 1).trans rfl
                      have hcz27_2 : wr.cell? ⟨gb181, 2, none⟩ = some (.slice none 0 0) := (blk_cell BK181.out 2).trans rfl
                      have hfz27_0 := blk_frozen BK181.out 0
                      have hfz27_1 := blk_frozen BK181.out 1
                      have hfz27_2 := blk_frozen BK181.out 2
                      go_wp2
                      refine bodyPost_ret (results_ct rfl _ _ gb181 63 #[.int .i64 0, .int .i64 0, .slice none 0 0] (0, 0) _ rfl (by (with_reducible repeat (first | refine blk_drewN ?_ _ | refine blk_drew ?_ | refine blk_alloc ?_ _)); refine blk_put (cs := #[.int .i64 0, .int .i64 0, .slice none 0 0]) ?_ 2 _ rfl; (with_reducible repeat (first | refine blk_drewN ?_ _ | refine blk_drew ?_ | refine blk_alloc ?_ _)); refine blk_put (cs := #[.int .i64 0, .int .i64 x182001_2, .slice none 0 0]) ?_ 1 _ rfl; (with_reducible repeat (first | refine blk_drewN ?_ _ | refine blk_drew ?_ | refine blk_alloc ?_ _)); refine blk_put (cs := #[.int .i64 x182000_2, .int .i64 x182001_2, .slice none 0 0]) ?_ 0 _ rfl; (with_reducible repeat (first | refine blk_drewN ?_ _ | refine blk_drew ?_ | refine blk_alloc ?_ _)); exact BK181.out) Try.underlying63 rfl (by kernel_rfl)) rfl ?_
                      exact ⟨_, by first | rfl | (simp [errW_none, errW_some] <;> rfl) | (simp [*, errW_none, errW_some] <;> rfl), by first | exact Kd.R_nil _ _ _ _ _ | exact Kd.N_nil _ _ _ _ _ | exact Kd.V_nil _ _ _ _ _ | exact Kd.Q_nil _ _ _ _ _ | exact Kd.S_nil _ _ _ _ _, by repeat (first | (with_reducible first | exact HB.out | apply below_alloc | apply pw_below_drewN | apply below_drew1 | refine below_set ?_ GE180.out | refine below_set ?_ GE181.out | refine below_set ?_ GE183.out) | exact HB.out)⟩
                    · rw [if_neg c24] at H
                      have c24b0 : decide ((rd l1 x32_2) < 0) = false := decide_eq_false c24
                      clear c24
                      by_cases c28 : (rd l1 x32_2) ≥ a0_0
                      · rw [if_pos c28] at H
                        have c28b0 : decide (a0_0 ≤ (rd l1 x32_2)) = true := decide_eq_true c28
                        clear c28
                        simp only [Option.some.injEq, Prod.mk.injEq] at H
                        obtain ⟨rfl, rfl, rfl, rfl⟩ := H
                        have p184 : 0 ≤ (x32_2 : Int) := of_decide_eq_true (by first | (with_reducible assumption) | assumption)
                        have q184 : x32_2 < (l1.length : Int) := of_decide_eq_true (by first | (with_reducible assumption) | assumption)
                        obtain ⟨ad184, e184, hx184_0⟩ := Kd.at_int HR1.out x32_2 p184 q184
                        cases e184
                        replace hx184_0 := (HB.out.cell (World.block_lt_of_cell? w _ hx184_0)).trans hx184_0
                        replace p184 := eq_true p184
                        replace q184 := eq_true q184
                        have hnb29 := NB180_181.out
                        have hnc29 := NB181_180.out
                        have hnb30 := NB180_183.out
                        have hnc30 := NB183_180.out
                        have hcz31_0 : wr.cell? ⟨gb180, 0, none⟩ = some (.int .i64 a0_0) := (blk_cell BK180.out 0).trans rfl
                        have hcz31_1 : wr.cell? ⟨gb180, 1, none⟩ = some (.int .i64 a0_1) := (blk_cell BK180.out 1).trans rfl
                        have hcz31_2 : wr.cell? ⟨gb180, 2, none⟩ = some (.slice A0_2 l0_2.length c0_2) := (blk_cell BK180.out 2).trans rfl
                        have hfz31_0 := blk_frozen BK180.out 0
                        have hfz31_1 := blk_frozen BK180.out 1
                        have hfz31_2 := blk_frozen BK180.out 2
                        have hnb32 := NB181_183.out
                        have hnc32 := NB183_181.out
                        have hcz33_0 : wr.cell? ⟨gb181, 0, none⟩ = some (.int .i64 x182000_2) := (blk_cell BK181.out 0).trans rfl
                        have hcz33_1 : wr.cell? ⟨gb181, 1, none⟩ = some (.int .i64 x182001_2) := (blk_cell BK181.out 1).trans rfl
                        have hcz33_2 : wr.cell? ⟨gb181, 2, none⟩ = some (.slice none 0 0) := (blk_cell BK181.out 2).trans rfl
                        have hfz33_0 := blk_frozen BK181.out 0
                        have hfz33_1 := blk_frozen BK181.out 1
                        have hfz33_2 := blk_frozen BK181.out 2
                        go_wp2
                        refine bodyPost_ret (results_ct rfl _ _ gb181 63 #[.int .i64 0, .int .i64 0, .slice none 0 0] (0, 0) _ rfl (by (with_reducible repeat (first | refine blk_drewN ?_ _ | refine blk_drew ?_ | refine blk_alloc ?_ _)); refine blk_put (cs := #[.int .i64 0, .int .i64 0, .slice none 0 0]) ?_ 2 _ rfl; (with_reducible repeat (first | refine blk_drewN ?_ _ | refine blk_drew ?_ | refine blk_alloc ?_ _)); refine blk_put (cs := #[.int .i64 0, .int .i64 x182001_2, .slice none 0 0]) ?_ 1 _ rfl; (with_reducible repeat (first | refine blk_drewN ?_ _ | refine blk_drew ?_ | refine blk_alloc ?_ _)); refine blk_put (cs := #[.int .i64 x182000_2, .int .i64 x182001_2, .slice none 0 0]) ?_ 0 _ rfl; (with_reducible repeat (first | refine blk_drewN ?_ _ | refine blk_drew ?_ | refine blk_alloc ?_ _)); exact BK181.out) Try.underlying63 rfl (by kernel_rfl)) rfl ?_
                        exact ⟨_, by first | rfl | (simp [errW_none, errW_some] <;> rfl) | (simp [*, errW_none, errW_some] <;> rfl), by first | exact Kd.R_nil _ _ _ _ _ | exact Kd.N_nil _ _ _ _ _ | exact Kd.V_nil _ _ _ _ _ | exact Kd.Q_nil _ _ _ _ _ | exact Kd.S_nil _ _ _ _ _, by repeat (first | (with_reducible first | exact HB.out | apply below_alloc | apply pw_below_drewN | apply below_drew1 | refine below_set ?_ GE180.out | refine below_set ?_ GE181.out | refine below_set ?_ GE183.out) | exact HB.out)⟩
                      · rw [if_neg c28] at H
                        have c28b0 : decide (a0_0 ≤ (rd l1 x32_2)) = false := decide_eq_false c28
                        clear c28
                        obtain ⟨ji34, hji34⟩ : ∃ j_ : Int, (wrap64 ((rd l1 x32_2) * a0_1)) = j_ := ⟨_, rfl⟩
                        replace H : (if 0 ≤ (ji34) then (if (ji34) ≤ (wrap64 ((wrap64 ((rd l1 x32_2) + 1)) * a0_1)) then (if (wrap64 ((wrap64 ((rd l1 x32_2) + 1)) * a0_1)) ≤ (l0_2.length : Int) then (if x184002_2.length + ((l0_2.take ((wrap64 ((wrap64 ((rd l1 x32_2) + 1)) * a0_1)) : Int).toNat).drop ((ji34) : Int).toNat).length < 17592186044416 then (matrix_Pick.l0 k2 l1 (l1.length : Int) (wrap64 (x32_2 + 1)) a0_0 a0_1 l0_2 (l1.length : Int) a0_1 (x184002_2 ++ ((l0_2.take ((wrap64 ((wrap64 ((rd l1 x32_2) + 1)) * a0_1)) : Int).toNat).drop ((ji34) : Int).toNat))) else (none)) else (none)) else (none)) else (none)) = some (r1, r2, r3, r4) := by first | (rw [hji34] at H; exact H) | (simp only [hji34] at H ⊢; exact H)
                        have hji34w : (IntKind.i64.wrap ((rd l1 x32_2) * a0_1)) = ji34 := (i64_w _).trans hji34
                        by_cases c35 : 0 ≤ (ji34)
                        · rw [if_pos c35] at H
                          have c35b0 := eq_true c35
                          have c35b1 : decide (0 ≤ (ji34)) = true := decide_eq_true c35
                          clear c35
                          by_cases c36 : (ji34) ≤ (wrap64 ((wrap64 ((rd l1 x32_2) + 1)) * a0_1))
                          · rw [if_pos c36] at H
                            have c36b0 := eq_true c36
                            have c36b1 : decide ((ji34) ≤ (wrap64 ((wrap64 ((rd l1 x32_2) + 1)) * a0_1))) = true := decide_eq_true c36
                            by_cases c37 : (wrap64 ((wrap64 ((rd l1 x32_2) + 1)) * a0_1)) ≤ (l0_2.length : Int)
                            · rw [if_pos c37] at H
                              have c37b0 := eq_true c37
                              have c37b1 : decide ((wrap64 ((wrap64 ((rd l1 x32_2) + 1)) * a0_1)) ≤ (l0_2.length : Int)) = true := decide_eq_true c37
                              by_cases c38 : x184002_2.length + ((l0_2.take ((wrap64 ((wrap64 ((rd l1 x32_2) + 1)) * a0_1)) : Int).toNat).drop ((ji34) : Int).toNat).length < 17592186044416
                              · rw [if_pos c38] at H
                                have LMc38 := Aside0.mk c38
                                clear c38
                                obtain ⟨y186, hy186⟩ : ∃ y_ : List Int, y_ = (x184002_2 ++ ((l0_2.take ((wrap64 ((wrap64 ((rd l1 x32_2) + 1)) * a0_1)) : Int).toNat).drop ((ji34) : Int).toNat)) := ⟨_, rfl⟩
                                replace H : (matrix_Pick.l0 k2 l1 (l1.length : Int) (wrap64 (x32_2 + 1)) a0_0 a0_1 l0_2 (l1.length : Int) a0_1 y186) = some (r1, r2, r3, r4) := by first | (rw [hy186]; with_reducible exact H) | (have H2_ := (Option.bind_some _ _).symm.trans H; rw [hy186]; with_reducible exact H2_) | (have H2_ := (Option.bind_some _ _).symm.trans H; with_reducible exact H2_) | with_reducible exact H | (rw [hy186]; exact H) | exact H
                                have Ny186 := Aside0.mk hy186
                                clear hy186
                                have H' := Aside0.mk H
                                clear H
                                have p184 : 0 ≤ (x32_2 : Int) := of_decide_eq_true (by first | (with_reducible assumption) | assumption)
                                have q184 : x32_2 < (l1.length : Int) := of_decide_eq_true (by first | (with_reducible assumption) | assumption)
                                obtain ⟨ad184, e184, hx184_0⟩ := Kd.at_int HR1.out x32_2 p184 q184
                                cases e184
                                replace hx184_0 := (HB.out.cell (World.block_lt_of_cell? w _ hx184_0)).trans hx184_0
                                replace p184 := eq_true p184
                                replace q184 := eq_true q184
                                have hnb39 := NB180_181.out
                                have hnc39 := NB181_180.out
                                have hnb40 := NB180_183.out
                                have hnc40 := NB183_180.out
                                have hcz41_0 : wr.cell? ⟨gb180, 0, none⟩ = some (.int .i64 a0_0) := (blk_cell BK180.out 0).trans rfl
                                have hcz41_1 : wr.cell? ⟨gb180, 1, none⟩ = some (.int .i64 a0_1) := (blk_cell BK180.out 1).trans rfl
                                have hcz41_2 : wr.cell? ⟨gb180, 2, none⟩ = some (.slice A0_2 l0_2.length c0_2) := (blk_cell BK180.out 2).trans rfl
                                have hfz41_0 := blk_frozen BK180.out 0
                                have hfz41_1 := blk_frozen BK180.out 1
                                have hfz41_2 := blk_frozen BK180.out 2
                                try go_wp2
                                have n0_ := Aside0.mk (Kd.R_drew HO_184002.out)
                                have n1_ := Aside0.mk (blk_drew BK180.out)
                                have n2_ := Aside0.mk (blk_drew BK181.out)
                                have n3_ := Aside0.mk (blk_drew BK183.out)
                                have n4_ := Aside0.mk (below_drew1 HB.out)
                                clear HO_184002
                                clear BK180
                                clear BK181
                                clear BK183
                                clear HB
                                have HO_184002 := n0_
                                have BK180 := n1_
                                have BK181 := n2_
                                have BK183 := n3_
                                have HB := n4_
                                clear n0_ n1_ n2_ n3_ n4_
                                obtain ⟨i043, hi043, _, hsz43, _⟩ := info_parts info3
                                obtain ⟨A43, hcut43, hA43, hC43⟩ := print_mid_of (P := Try.prog) (Value.int .i64) 0 22 3 .i64 .i64 Try.underlying22 hi043 hsz43 A0_2 c0_2 l0_2 (ji34) (wrap64 ((wrap64 ((rd l1 x32_2) + 1)) * a0_1)) (of_decide_eq_true (by first | (with_reducible assumption) | assumption)) (by first | omega | exact of_decide_eq_true (by first | (with_reducible assumption) | assumption)) (of_decide_eq_true (by first | (with_reducible assumption) | assumption)) HC0_2.out
                                have HR185 := Aside0.mk (Kd.C_of_reads (h1 := fun _ => rfl) (hA43 _ (Kd.reads_of_C HR0_2.out)))
                                have HC185 := Aside0.mk hC43
                                clear hA43 hC43 hi043 hsz43
                                refine start_ (n := 17) (S := fun w' => w'.cell? ⟨gb183, 0, none⟩ = some (.int .i64 (l1.length : Int)) ∧ w'.cell? ⟨gb183, 1, none⟩ = some (.int .i64 a0_1) ∧ w'.cell? ⟨gb183, 2, none⟩ = some (u184002) ∧ w'.cell? ⟨gb180, 0, none⟩ = some (.int .i64 a0_0) ∧ w'.cell? ⟨gb180, 1, none⟩ = some (.int .i64 a0_1) ∧ w'.cell? ⟨gb180, 2, none⟩ = some (.slice A0_2 l0_2.length c0_2)) (ds := [16]) #[false, false, false, false, false, false, false, false, false, false, false, false, false, false, false, false, false] (by kernel_rfl) rfl rfl ⟨(blk_cell BK183.out 0).trans rfl, (blk_cell BK183.out 1).trans rfl, (blk_cell BK183.out 2).trans rfl, (blk_cell BK180.out 0).trans rfl, (blk_cell BK180.out 1).trans rfl, (blk_cell BK180.out 2).trans rfl⟩ (fun hHeld => ?_); refine with_tabW matrix_Pick.tab12 matrix_Pick.bits12 (fun HT_ HW_ => ?_)
                                generalize wr.drew = w42 at HO_184002 BK180 BK181 BK183 HB HR185 hHeld ⊢
                                refine pure_ (i := 0) (N := some 45) (v := ?_) (a' := ?_) #[true, false, false, false, false, false, false, false, false, false, false, false, false, false, false, false, false] rfl rfl (any_of HT_.out (by kernel_rfl)) (fun _ _ _ h => h) (Or.inl ⟨by rfl, ?_⟩) ?_ ?_
                                rotate_left
                                · intro w'
                                  go_simp
                                  with_reducible rfl
                                rotate_left
                                · simp only [Act.put, List.setIfInBounds_toArray, List.set_cons_zero, List.set_cons_succ, i64_w, i32_w]
                                  rfl
                                refine pure_ (i := 2) (N := some 47) (v := ?_) (a' := ?_) #[true, false, true, false, false, false, false, false, false, false, false, false, false, false, false, false, false] rfl rfl (any_of HT_.out (by kernel_rfl)) (fun _ _ _ h => h) (Or.inl ⟨by rfl, ?_⟩) ?_ ?_
                                rotate_left
                                · intro w'
                                  go_simp
                                  with_reducible rfl
                                rotate_left
                                · simp only [Act.put, List.setIfInBounds_toArray, List.set_cons_zero, List.set_cons_succ, i64_w, i32_w]
                                  rfl
                                refine pure_ (i := 4) (N := some 49) (v := ?_) (a' := ?_) #[true, false, true, false, true, false, false, false, false, false, false, false, false, false, false, false, false] rfl rfl (any_of HT_.out (by kernel_rfl)) (fun _ _ _ h => h) (Or.inl ⟨by rfl, ?_⟩) ?_ ?_
                                rotate_left
                                · intro w'
                                  go_simp
                                  with_reducible rfl
                                rotate_left
                                · simp only [Act.put, List.setIfInBounds_toArray, List.set_cons_zero, List.set_cons_succ, i64_w, i32_w]
                                  rfl
                                refine pure_ (i := 5) (N := some 50) (v := ?_) (a' := ?_) #[true, false, true, false, true, true, false, false, false, false, false, false, false, false, false, false, false] rfl rfl (any_of HT_.out (by kernel_rfl)) (fun _ _ _ h => h) (Or.inl ⟨by rfl, ?_⟩) ?_ ?_
                                rotate_left
                                · intro w'
                                  go_simp
                                  with_reducible rfl
                                rotate_left
                                · simp only [Act.put, List.setIfInBounds_toArray, List.set_cons_zero, List.set_cons_succ, i64_w, i32_w]
                                  rfl
                                refine pure_ (i := 8) (N := some 53) (v := ?_) (a' := ?_) #[true, false, true, false, true, true, false, false, true, false, false, false, false, false, false, false, false] rfl rfl (any_of HT_.out (by kernel_rfl)) (fun _ _ _ h => h) (Or.inl ⟨by rfl, ?_⟩) ?_ ?_
                                rotate_left
                                · intro w'
                                  go_simp
                                  with_reducible rfl
                                rotate_left
                                · simp only [Act.put, List.setIfInBounds_toArray, List.set_cons_zero, List.set_cons_succ, i64_w, i32_w]
                                  rfl
                                refine pure_ (i := 9) (N := some 54) (v := ?_) (a' := ?_) #[true, false, true, false, true, true, false, false, true, true, false, false, false, false, false, false, false] rfl rfl (any_of HT_.out (by kernel_rfl)) (fun _ _ _ h => h) (Or.inl ⟨by rfl, ?_⟩) ?_ ?_
                                rotate_left
                                · intro w'
                                  go_simp
                                  with_reducible rfl
                                rotate_left
                                · simp only [Act.put, List.setIfInBounds_toArray, List.set_cons_zero, List.set_cons_succ, i64_w, i32_w]
                                  rfl
                                refine pure_ (i := 10) (N := some 55) (v := ?_) (a' := ?_) #[true, false, true, false, true, true, false, false, true, true, true, false, false, false, false, false, false] rfl rfl (any_of HT_.out (by kernel_rfl)) (fun _ _ _ h => h) (Or.inl ⟨by rfl, ?_⟩) ?_ ?_
                                rotate_left
                                · intro w'
                                  go_simp
                                  with_reducible rfl
                                rotate_left
                                · simp only [Act.put, List.setIfInBounds_toArray, List.set_cons_zero, List.set_cons_succ, i64_w, i32_w]
                                  rfl
                                refine take_ (i := 1) (N := some 46) (v := ?_) (a' := ?_) #[true, true, true, false, true, true, false, false, true, true, true, false, false, false, false, false, false] rfl rfl (take_ofW HT_.out HW_.out (by kernel_rfl)) (fun _ _ _ h => h) (Or.inl ⟨by rfl, ?_⟩) hHeld ?_ ?_
                                rotate_left
                                · rintro w' ⟨s0, s1, s2, s3, s4, s5⟩
                                  go_simp
                                  with_reducible rfl
                                rotate_left
                                · simp only [Act.put, List.setIfInBounds_toArray, List.set_cons_zero, List.set_cons_succ, i64_w, i32_w]
                                  rfl
                                refine take_ (i := 3) (N := some 48) (v := ?_) (a' := ?_) #[true, true, true, true, true, true, false, false, true, true, true, false, false, false, false, false, false] rfl rfl (take_ofW HT_.out HW_.out (by kernel_rfl)) (fun _ _ _ h => h) (Or.inl ⟨by rfl, ?_⟩) hHeld ?_ ?_
                                rotate_left
                                · rintro w' ⟨s0, s1, s2, s3, s4, s5⟩
                                  go_simp
                                  with_reducible rfl
                                rotate_left
                                · simp only [Act.put, List.setIfInBounds_toArray, List.set_cons_zero, List.set_cons_succ, i64_w, i32_w]
                                  rfl
                                refine take_ (i := 6) (N := some 51) (v := ?_) (a' := ?_) #[true, true, true, true, true, true, true, false, true, true, true, false, false, false, false, false, false] rfl rfl (take_ofW HT_.out HW_.out (by kernel_rfl)) (fun _ _ _ h => h) (Or.inl ⟨by rfl, ?_⟩) hHeld ?_ ?_
                                rotate_left
                                · rintro w' ⟨s0, s1, s2, s3, s4, s5⟩
                                  go_simp
                                  with_reducible rfl
                                rotate_left
                                · simp only [Act.put, List.setIfInBounds_toArray, List.set_cons_zero, List.set_cons_succ, i64_w, i32_w]
                                  rfl
                                refine pure_ (i := 7) (N := some 52) (v := ?_) (a' := ?_) #[true, true, true, true, true, true, true, true, true, true, true, false, false, false, false, false, false] rfl rfl (any_of HT_.out (by kernel_rfl)) (fun _ _ _ h => h) (Or.inl ⟨by rfl, ?_⟩) ?_ ?_
                                rotate_left
                                · intro w'
                                  go_simp
                                  with_reducible rfl
                                rotate_left
                                · simp only [Act.put, List.setIfInBounds_toArray, List.set_cons_zero, List.set_cons_succ, i64_w, i32_w]
                                  rfl
                                refine take_ (i := 11) (N := some 56) (v := ?_) (a' := ?_) #[true, true, true, true, true, true, true, true, true, true, true, true, false, false, false, false, false] rfl rfl (take_ofW HT_.out HW_.out (by kernel_rfl)) (fun _ _ _ h => h) (Or.inl ⟨by rfl, ?_⟩) hHeld ?_ ?_
                                rotate_left
                                · rintro w' ⟨s0, s1, s2, s3, s4, s5⟩
                                  go_simp
                                  with_reducible rfl
                                rotate_left
                                · simp only [Act.put, List.setIfInBounds_toArray, List.set_cons_zero, List.set_cons_succ, i64_w, i32_w]
                                  rfl
                                refine pure_ (i := 12) (N := some 57) (v := ?_) (a' := ?_) #[true, true, true, true, true, true, true, true, true, true, true, true, true, false, false, false, false] rfl rfl (any_of HT_.out (by kernel_rfl)) (fun _ _ _ h => h) (Or.inl ⟨by rfl, ?_⟩) ?_ ?_
                                rotate_left
                                · intro w'
                                  go_simp
                                  with_reducible rfl
                                rotate_left
                                · simp only [Act.put, List.setIfInBounds_toArray, List.set_cons_zero, List.set_cons_succ, i64_w, i32_w]
                                  rfl
                                refine pure_ (i := 13) (N := some 58) (v := ?_) (a' := ?_) #[true, true, true, true, true, true, true, true, true, true, true, true, true, true, false, false, false] rfl rfl (any_of HT_.out (by kernel_rfl)) (fun _ _ _ h => h) (Or.inl ⟨by rfl, ?_⟩) ?_ ?_
                                rotate_left
                                · intro w'
                                  go_simp
                                  with_reducible rfl
                                rotate_left
                                · simp only [Act.put, List.setIfInBounds_toArray, List.set_cons_zero, List.set_cons_succ, i64_w, i32_w]
                                  rfl
                                refine one_ (i := 14) (N := some 59) #[true, true, true, true, true, true, true, true, true, true, true, true, true, true, true, false, false] rfl rfl (one_of HT_.out (by kernel_rfl)) (by decide) (fun K hK => ?_)
                                refine Kd.R_append_rows_step (Kd.int .i64) (w0 := w) w.heap.size (by rfl) (.tmp 46) (.tmp 58) 22 3 (.int .i64 0) 8 rfl Try.underlying22 info3 rfl (by decide) (by omega) u184002 x184002_2 ((l0_2.take ((wrap64 ((wrap64 ((rd l1 x32_2) + 1)) * a0_1)) : Int).toNat).drop ((ji34) : Int).toNat) _ _ _ (fun _ => True) (fun _ => False) rfl rfl ?aO ?aR (fun _ _ h => h) (fun _ h => h.elim) ?aF ?aB ?aS ?aL ?_
                                (case aR => first | (rw [← show ((l0_2.take ((wrap64 ((wrap64 ((rd l1 x32_2) + 1)) * a0_1)) : Int).toNat).drop ((ji34) : Int).toNat).length = ((wrap64 ((wrap64 ((rd l1 x32_2) + 1)) * a0_1)).toNat - (ji34).toNat) from (by rw [List.length_drop, List.length_take]; have h_ : ((wrap64 ((wrap64 ((rd l1 x32_2) + 1)) * a0_1)) : Int) ≤ (l0_2.length : Int) := of_decide_eq_true (by first | (with_reducible assumption) | assumption); omega)]; repeat (first | exact (Kd.C_below HR185.out HB.out) | (with_reducible refine Kd.C_alloc ?_ _) | (with_reducible refine Kd.C_drewN ?_ _) | (with_reducible refine Kd.C_drew ?_))) | (repeat (first | exact (Kd.C_below HR185.out HB.out) | (with_reducible refine Kd.C_alloc ?_ _) | (with_reducible refine Kd.C_drewN ?_ _) | (with_reducible refine Kd.C_drew ?_))))
                                (case aB => exact (by repeat (first | (with_reducible first | exact HB.out | apply below_alloc | apply pw_below_drewN | apply below_drew1 | refine below_set ?_ GE180.out | refine below_set ?_ GE181.out | refine below_set ?_ GE183.out) | exact HB.out)))
                                (case aF => exact (fun _ _ => trivial))
                                (case aO => exact (by (with_reducible repeat (first | apply Kd.R_alloc | apply Kd.R_drewN | apply Kd.R_drew)); exact HO_184002.out))
                                (case aS => exact (below_size (by repeat (first | (with_reducible first | exact HB.out | apply below_alloc | apply pw_below_drewN | apply below_drew1 | refine below_set ?_ GE180.out | refine below_set ?_ GE181.out | refine below_set ?_ GE183.out) | exact HB.out))))
                                (case aL => have := LMc38.out; have hlx_ := (show ((l0_2.take ((wrap64 ((wrap64 ((rd l1 x32_2) + 1)) * a0_1)) : Int).toNat).drop ((ji34) : Int).toNat).length = ((wrap64 ((wrap64 ((rd l1 x32_2) + 1)) * a0_1)).toNat - (ji34).toNat) from (by rw [List.length_drop, List.length_take]; have h_ : ((wrap64 ((wrap64 ((rd l1 x32_2) + 1)) * a0_1)) : Int) ≤ (l0_2.length : Int) := of_decide_eq_true (by first | (with_reducible assumption) | assumption); omega)); omega)
                                intro v187 w44 ho hb hg hat
                                rw [← Ny186.out] at ho
                                have n0_ := Aside0.mk (blk_grown (g := gb180) (o := .cells #[.int .i64 a0_0, .int .i64 a0_1, .slice A0_2 l0_2.length c0_2] 63 (0, 0)) (by (with_reducible repeat (first | refine blk_drewN ?_ _ | refine blk_drew ?_ | refine blk_alloc ?_ _)); exact BK180.out) hg (Kd.R_ne HO_184002.out BK180.out (by decide)))
                                have n1_ := Aside0.mk (blk_grown (g := gb181) (o := .cells #[.int .i64 x182000_2, .int .i64 x182001_2, .slice none 0 0] 63 (0, 0)) (by (with_reducible repeat (first | refine blk_drewN ?_ _ | refine blk_drew ?_ | refine blk_alloc ?_ _)); exact BK181.out) hg (Kd.R_ne HO_184002.out BK181.out (by decide)))
                                have n2_ := Aside0.mk (blk_grown (g := gb183) (o := .cells #[.int .i64 (l1.length : Int), .int .i64 a0_1, u184002] 63 (0, 0)) (by (with_reducible repeat (first | refine blk_drewN ?_ _ | refine blk_drew ?_ | refine blk_alloc ?_ _)); exact BK183.out) hg (Kd.R_ne HO_184002.out BK183.out (by decide)))
                                have n3_ := Aside0.mk (hb)
                                have n4_ := Aside0.mk (ho)
                                clear BK180
                                clear BK181
                                clear BK183
                                clear HB
                                clear HO_184002
                                have BK180 := n0_
                                have BK181 := n1_
                                have BK183 := n2_
                                have HB := n3_
                                have HO188 := n4_
                                clear n0_ n1_ n2_ n3_ n4_
                                clear ho hb hg hat
                                obtain ⟨Ao45, co45, eo45⟩ := Kd.R_slice HO188.out
                                (first | subst eo45 | (injection eo45 with f1_ f2_ f3_; have f4_ := f1_.symm; have f5_ := f3_.symm; clear f1_ f2_ f3_; subst f4_; subst f5_))
                                refine hK.out _ _ ⟨(blk_cell BK183.out 0).trans rfl, (blk_cell BK183.out 1).trans rfl, (blk_cell BK183.out 2).trans rfl, (blk_cell BK180.out 0).trans rfl, (blk_cell BK180.out 1).trans rfl, (blk_cell BK180.out 2).trans rfl⟩ (fun hHeld => ?_)
                                clear hK K
                                refine norm_ (a' := ?_) ?_ ?_
                                rotate_left
                                · show Act.put _ (some 59) _ = _
                                  simp only [Act.put, List.setIfInBounds_toArray, List.set_cons_zero, List.set_cons_succ, i64_w, i32_w]
                                  rfl
                                refine pure_ (i := 15) (N := some 60) (v := ?_) (a' := ?_) #[true, true, true, true, true, true, true, true, true, true, true, true, true, true, true, true, false] rfl rfl (any_of HT_.out (by kernel_rfl)) (fun _ _ _ h => h) (Or.inl ⟨by rfl, ?_⟩) ?_ ?_
                                rotate_left
                                · intro w'
                                  go_simp
                                  with_reducible rfl
                                rotate_left
                                · simp only [Act.put, List.setIfInBounds_toArray, List.set_cons_zero, List.set_cons_succ, i64_w, i32_w]
                                  rfl
                                refine last_ (i := 16) (N := none) #[true, true, true, true, true, true, true, true, true, true, true, true, true, true, true, true, true] rfl rfl (one_of HT_.out (by kernel_rfl)) (by decide) (fun K hK => ?_)
                                have hs46 : w44.cell? ⟨gb183, 2, none⟩ = some (u184002) := (blk_cell BK183.out 2).trans rfl
                                have hfs46 := blk_frozen BK183.out 2
                                have hns46_0 := NB180_183.out
                                have hns46_1 := NB181_183.out
                                have hms46_0 := NB183_180.out
                                have hms46_1 := NB183_181.out
                                refine skip_ (w1 := ?_) (by rfl) rfl ?_ ?_
                                rotate_left
                                · go_simp
                                  rfl
                                refine hK.out _ _ ?_
                                clear hK K
                                refine done_ (done_of HT_.out (by kernel_rfl)) ?_
                                try go_wp2
                                go_roundg k2
                                case measure => have := HJ4.out; have := HK2.out; omega
                                case rel => exact ⟨(wrap64 (x32_2 + 1)), (x182000_2), (x182001_2), (y186), (.slice Ao45 y186.length co45), (by first | rfl | (simp; done) | (simp [*]; done)), H', ⟨by have := HJ4.out; have := HK2.out; omega⟩, ⟨by (with_reducible repeat (first | apply Kd.R_alloc | apply Kd.R_drewN | apply Kd.R_drew)); exact Kd.R_mono (Kd.R_far (p := ⟨gb183, 2, none⟩) (Kd.R_types HO188.out BK183.out (by decide)) (fun _ hk => hk.2) (.slice Ao45 y186.length co45)) (fun _ hk => trivial)⟩, ⟨by (with_reducible repeat (first | refine blk_drewN ?_ _ | refine blk_drew ?_ | refine blk_alloc ?_ _)); refine blk_far ?_ NB180_183.out _; (with_reducible repeat (first | refine blk_drewN ?_ _ | refine blk_drew ?_ | refine blk_alloc ?_ _)); exact BK180.out⟩, ⟨by (with_reducible repeat (first | refine blk_drewN ?_ _ | refine blk_drew ?_ | refine blk_alloc ?_ _)); refine blk_far ?_ NB181_183.out _; (with_reducible repeat (first | refine blk_drewN ?_ _ | refine blk_drew ?_ | refine blk_alloc ?_ _)); exact BK181.out⟩, ⟨by (with_reducible repeat (first | refine blk_drewN ?_ _ | refine blk_drew ?_ | refine blk_alloc ?_ _)); refine blk_put (cs := #[.int .i64 (l1.length : Int), .int .i64 a0_1, u184002]) ?_ 2 _ rfl; (with_reducible repeat (first | refine blk_drewN ?_ _ | refine blk_drew ?_ | refine blk_alloc ?_ _)); exact BK183.out⟩, ⟨by repeat (first | (with_reducible first | exact HB.out | apply below_alloc | apply pw_below_drewN | apply below_drew1 | refine below_set ?_ GE180.out | refine below_set ?_ GE181.out | refine below_set ?_ GE183.out) | exact HB.out)⟩⟩
                              · rw [if_neg c38] at H
                                exact absurd H (by simp)
                            · rw [if_neg c37] at H
                              exact absurd H (by simp)
                          · rw [if_neg c36] at H
                            exact absurd H (by simp)
                        · rw [if_neg c35] at H
                          exact absurd H (by simp)
                  · rw [if_neg c23] at H
                    exact absurd H (by simp)
                · rw [if_neg c22] at H
                  exact absurd H (by simp)
              · rw [if_neg c21] at H
                have c21b0 : decide (x32_2 < (l1.length : Int)) = false := decide_eq_false c21
                clear c21
                simp only [Option.some.injEq, Prod.mk.injEq] at H
                obtain ⟨rfl, rfl, rfl, rfl⟩ := H
                have hnb47 := NB183_180.out
                have hnc47 := NB180_183.out
                have hnb48 := NB183_181.out
                have hnc48 := NB181_183.out
                have hcz49_0 : wr.cell? ⟨gb183, 0, none⟩ = some (.int .i64 (l1.length : Int)) := (blk_cell BK183.out 0).trans rfl
                have hcz49_1 : wr.cell? ⟨gb183, 1, none⟩ = some (.int .i64 a0_1) := (blk_cell BK183.out 1).trans rfl
                have hcz49_2 : wr.cell? ⟨gb183, 2, none⟩ = some (u184002) := (blk_cell BK183.out 2).trans rfl
                have hfz49_0 := blk_frozen BK183.out 0
                have hfz49_1 := blk_frozen BK183.out 1
                have hfz49_2 := blk_frozen BK183.out 2
                have hnb50 := NB181_180.out
                have hnc50 := NB180_181.out
                have hcz51_0 : wr.cell? ⟨gb181, 0, none⟩ = some (.int .i64 x182000_2) := (blk_cell BK181.out 0).trans rfl
                have hcz51_1 : wr.cell? ⟨gb181, 1, none⟩ = some (.int .i64 x182001_2) := (blk_cell BK181.out 1).trans rfl
                have hcz51_2 : wr.cell? ⟨gb181, 2, none⟩ = some (.slice none 0 0) := (blk_cell BK181.out 2).trans rfl
                have hfz51_0 := blk_frozen BK181.out 0
                have hfz51_1 := blk_frozen BK181.out 1
                have hfz51_2 := blk_frozen BK181.out 2
                obtain ⟨Ao52, co52, eo52⟩ := Kd.R_slice HO_184002.out
                subst eo52
                go_wp2
                refine bodyPost_ret (results_ct rfl _ _ gb181 63 #[.int .i64 (l1.length : Int), .int .i64 a0_1, .slice Ao52 x184002_2.length co52] (0, 0) _ rfl (by (with_reducible repeat (first | refine blk_drewN ?_ _ | refine blk_drew ?_ | refine blk_alloc ?_ _)); refine blk_put (cs := #[.int .i64 (l1.length : Int), .int .i64 a0_1, .slice none 0 0]) ?_ 2 _ rfl; (with_reducible repeat (first | refine blk_drewN ?_ _ | refine blk_drew ?_ | refine blk_alloc ?_ _)); refine blk_put (cs := #[.int .i64 (l1.length : Int), .int .i64 x182001_2, .slice none 0 0]) ?_ 1 _ rfl; (with_reducible repeat (first | refine blk_drewN ?_ _ | refine blk_drew ?_ | refine blk_alloc ?_ _)); refine blk_put (cs := #[.int .i64 x182000_2, .int .i64 x182001_2, .slice none 0 0]) ?_ 0 _ rfl; (with_reducible repeat (first | refine blk_drewN ?_ _ | refine blk_drew ?_ | refine blk_alloc ?_ _)); exact BK181.out) Try.underlying63 rfl (by kernel_rfl)) rfl ?_
                exact ⟨_, by first | rfl | (simp [errW_none, errW_some] <;> rfl) | (simp [*, errW_none, errW_some] <;> rfl), by (with_reducible repeat (first | apply Kd.R_alloc | apply Kd.R_drewN | apply Kd.R_drew)); exact Kd.R_mono (Kd.R_far (p := ⟨gb181, 2, none⟩) (Kd.R_far (p := ⟨gb181, 1, none⟩) (Kd.R_far (p := ⟨gb181, 0, none⟩) (Kd.R_types HO_184002.out BK181.out (by decide)) (fun _ hk => hk.2) (.int .i64 (l1.length : Int))) (fun _ hk => hk.2) (.int .i64 a0_1)) (fun _ hk => hk.2) (.slice Ao52 x184002_2.length co52)) (fun _ hk => trivial), by repeat (first | (with_reducible first | exact HB.out | apply below_alloc | apply pw_below_drewN | apply below_drew1 | refine below_set ?_ GE180.out | refine below_set ?_ GE181.out | refine below_set ?_ GE183.out) | exact HB.out)⟩
  · rw [if_neg c4] at H
    have c4b0 : (t182 == 0) = false := beq_eq_false_iff_ne.mpr c4
    have c4b1 : (t182 != 0) = true := bne_iff_ne.mpr c4
    simp only [Option.some.injEq, Prod.mk.injEq] at H
    obtain ⟨rfl, rfl, rfl, rfl⟩ := H
    go_enter Try.func38, Try.ntmps38
    go_wp2_with (first | ((with_reducible refine gate_dst (N := 2) rfl ?_); (try (refine gate_guard (by rfl) ?_; dsimp only)); refine box_event ?hg (N := 2) ?hd (cs := #[.int .i64 a0_0, .int .i64 a0_1, .slice A0_2 l0_2.length c0_2]) (t := 63) ?hr ?_; (case hd => rfl); (case hg => rfl); (case hr => first | (go_simp; done) | (go_simp; rfl)); intro gb180 hg w53 hbox hb; have n0_ := Aside0.mk (below_step (by repeat (first | (with_reducible first | exact HB.out | apply below_alloc | apply pw_below_drewN | apply below_drew1) | exact HB.out)) hb); have n1_ := Aside0.mk (hbox); have n2_ := Aside0.mk ((by rw [hg]; exact (below_size (by repeat (first | (with_reducible first | exact HB.out | apply below_alloc | apply pw_below_drewN | apply below_drew1) | exact HB.out))) : w.heap.size ≤ gb180)); have n3_ := Aside0.mk ((by rw [hg]; exact (below_size (by repeat (first | (with_reducible first | exact HB.out | apply below_alloc | apply pw_below_drewN | apply below_drew1) | exact HB.out))) : w.heap.size ≤ gb180)); clear HB; have HB := n0_; have BK180 := n1_; have GW180 := n2_; have GE180 := n3_; clear n0_ n1_ n2_ n3_; clear hb hbox hg) | ((with_reducible refine gate_dst (N := 4) rfl ?_); (try (refine gate_guard (by rfl) ?_; dsimp only)); refine box_event ?hg (N := 4) ?hd (cs := #[.int .i64 0, .int .i64 0, .slice none 0 0]) (t := 63) ?hr ?_; (case hd => rfl); (case hg => rfl); (case hr => first | (go_simp; done) | (go_simp; rfl)); intro gb181 hg w54 hbox hb; have n0_ := Aside0.mk (blk_below (g := gb180) (o := .cells #[.int .i64 a0_0, .int .i64 a0_1, .slice A0_2 l0_2.length c0_2] 63 (0, 0)) (by (with_reducible repeat (first | refine blk_drewN ?_ _ | refine blk_drew ?_ | refine blk_alloc ?_ _)); exact BK180.out) hb); have n1_ := Aside0.mk (below_step (by repeat (first | (with_reducible first | exact HB.out | apply below_alloc | apply pw_below_drewN | apply below_drew1 | refine below_set ?_ GE180.out) | exact HB.out)) hb); have n2_ := Aside0.mk (hbox); have n3_ := Aside0.mk ((by rw [hg]; exact (below_size (by repeat (first | (with_reducible first | exact HB.out | apply below_alloc | apply pw_below_drewN | apply below_drew1 | refine below_set ?_ GE180.out) | exact HB.out))) : w.heap.size ≤ gb181)); have n4_ := Aside0.mk ((by rw [hg]; exact (below_size (by repeat (first | (with_reducible first | exact HB.out | apply below_alloc | apply pw_below_drewN | apply below_drew1 | refine below_set ?_ GE180.out) | exact HB.out))) : w.heap.size ≤ gb181)); have n5_ := Aside0.mk ((by rw [hg]; exact Nat.ne_of_lt (blk_lt (g := gb180) (o := .cells #[.int .i64 a0_0, .int .i64 a0_1, .slice A0_2 l0_2.length c0_2] 63 (0, 0)) (by (with_reducible repeat (first | refine blk_drewN ?_ _ | refine blk_drew ?_ | refine blk_alloc ?_ _)); exact BK180.out)) : gb180 ≠ gb181)); have n6_ := Aside0.mk ((by rw [hg]; exact Nat.ne_of_gt (blk_lt (g := gb180) (o := .cells #[.int .i64 a0_0, .int .i64 a0_1, .slice A0_2 l0_2.length c0_2] 63 (0, 0)) (by (with_reducible repeat (first | refine blk_drewN ?_ _ | refine blk_drew ?_ | refine blk_alloc ?_ _)); exact BK180.out)) : gb181 ≠ gb180)); clear BK180; clear HB; have BK180 := n0_; have HB := n1_; have BK181 := n2_; have GW181 := n3_; have GE181 := n4_; have NB180_181 := n5_; have NB181_180 := n6_; clear n0_ n1_ n2_ n3_ n4_ n5_ n6_; clear hb hbox hg; have hnb55 := NB180_181.out; have hnc55 := NB181_180.out; have hcz56_0 : w54.cell? ⟨gb180, 0, none⟩ = some (.int .i64 a0_0) := (blk_cell BK180.out 0).trans rfl; have hcz56_1 : w54.cell? ⟨gb180, 1, none⟩ = some (.int .i64 a0_1) := (blk_cell BK180.out 1).trans rfl; have hcz56_2 : w54.cell? ⟨gb180, 2, none⟩ = some (.slice A0_2 l0_2.length c0_2) := (blk_cell BK180.out 2).trans rfl; have hfz56_0 := blk_frozen BK180.out 0; have hfz56_1 := blk_frozen BK180.out 1; have hfz56_2 := blk_frozen BK180.out 2) | ((with_reducible refine gate_callee (f := 55) rfl ?_); refine goesL_ (some 11) rfl rfl Try.func55 (by kernel_rfl) rfl #[.agg #[.int .i64 a0_0, .int .i64 a0_1, .slice A0_2 l0_2.length c0_2]] rfl (by (try simp only [List.map_toArray, List.map_cons, List.map_nil]); first | done | rfl | (simp only [List.length_drop, List.length_take]; rfl)) ?_; (with_reducible refine (matrix_Check.calls k a0_0 a0_1 _ _ l0_2 t182 _ ?side1 ?side2 A3.out).mono ?_); (case side1 => repeat (first | exact (Kd.C_below HR0_2.out HB.out) | (with_reducible refine Kd.C_alloc ?_ _) | (with_reducible refine Kd.C_drewN ?_ _) | (with_reducible refine Kd.C_drew ?_))); (case side2 => exact HC0_2.out); rintro e w57 ⟨rfl, hb⟩; refine ⟨_, rfl, ?_⟩; have n0_ := Aside0.mk (blk_below (g := gb180) (o := .cells #[.int .i64 a0_0, .int .i64 a0_1, .slice A0_2 l0_2.length c0_2] 63 (0, 0)) (by (with_reducible repeat (first | refine blk_drewN ?_ _ | refine blk_drew ?_ | refine blk_alloc ?_ _)); exact BK180.out) hb); have n1_ := Aside0.mk (blk_below (g := gb181) (o := .cells #[.int .i64 0, .int .i64 0, .slice none 0 0] 63 (0, 0)) (by (with_reducible repeat (first | refine blk_drewN ?_ _ | refine blk_drew ?_ | refine blk_alloc ?_ _)); exact BK181.out) hb); have n2_ := Aside0.mk (below_step (by repeat (first | (with_reducible first | exact HB.out | apply below_alloc | apply pw_below_drewN | apply below_drew1 | refine below_set ?_ GE180.out | refine below_set ?_ GE181.out) | exact HB.out)) hb); clear BK180; clear BK181; clear HB; have BK180 := n0_; have BK181 := n1_; have HB := n2_; clear n0_ n1_ n2_; (try clear hb); (try clear hb2); (try clear hk); (try clear hi); have hcz58_0 : w57.cell? ⟨gb181, 0, none⟩ = some (.int .i64 0) := (blk_cell BK181.out 0).trans rfl; have hcz58_1 : w57.cell? ⟨gb181, 1, none⟩ = some (.int .i64 0) := (blk_cell BK181.out 1).trans rfl; have hcz58_2 : w57.cell? ⟨gb181, 2, none⟩ = some (.slice none 0 0) := (blk_cell BK181.out 2).trans rfl; have hfz58_0 := blk_frozen BK181.out 0; have hfz58_1 := blk_frozen BK181.out 1; have hfz58_2 := blk_frozen BK181.out 2))
    refine bodyPost_ret (results_ct rfl _ _ gb181 63 #[.int .i64 0, .int .i64 0, .slice none 0 0] (0, 0) _ rfl (by (with_reducible repeat (first | refine blk_drewN ?_ _ | refine blk_drew ?_ | refine blk_alloc ?_ _)); refine blk_put (cs := #[.int .i64 0, .int .i64 0, .slice none 0 0]) ?_ 2 _ rfl; (with_reducible repeat (first | refine blk_drewN ?_ _ | refine blk_drew ?_ | refine blk_alloc ?_ _)); refine blk_put (cs := #[.int .i64 0, .int .i64 0, .slice none 0 0]) ?_ 1 _ rfl; (with_reducible repeat (first | refine blk_drewN ?_ _ | refine blk_drew ?_ | refine blk_alloc ?_ _)); refine blk_put (cs := #[.int .i64 0, .int .i64 0, .slice none 0 0]) ?_ 0 _ rfl; (with_reducible repeat (first | refine blk_drewN ?_ _ | refine blk_drew ?_ | refine blk_alloc ?_ _)); exact BK181.out) Try.underlying63 rfl (by kernel_rfl)) rfl ?_
    exact ⟨_, by first | rfl | (simp [errW_none, errW_some] <;> rfl) | (simp [*, errW_none, errW_some] <;> rfl), by first | exact Kd.R_nil _ _ _ _ _ | exact Kd.N_nil _ _ _ _ _ | exact Kd.V_nil _ _ _ _ _ | exact Kd.Q_nil _ _ _ _ _ | exact Kd.S_nil _ _ _ _ _, by repeat (first | (with_reducible first | exact HB.out | apply below_alloc | apply pw_below_drewN | apply below_drew1 | refine below_set ?_ GE180.out | refine below_set ?_ GE181.out) | exact HB.out)⟩

end Go.Proofs.Ytgmadofbelhmeaa.L
end
section
/- erasure.Decode: the plain part. -/
namespace Go.Proofs.Ytgmadofbelhmeaa.L
open Go.RowKit Go.Proofs.YtgmadofbelhmeaaW.PrintWords Go.Proofs.YtgmadofbelhmeaaW.PrintLast Go.Proofs.YtgmadofbelhmeaaW.PrintMore
set_option linter.unusedVariables false
set_option linter.unusedSimpArgs false

/-- A number of rounds that is enough for all that is at most some thousand long. -/
def KK : Nat := 5000
def decodeTo (cells : List Int) (n : Nat) (parts : List ByteArray) (len : Int) : Nat → Option (List UInt8)
  | 0 => some []
  | i + 1 => (decodeTo cells n parts len i).bind fun b => (erasure_shard.f KK (cut cells n i) parts len).bind fun s => if b.length + s.size ≤ 1000000 then some (b ++ s.data.toList) else none
def usedS (l : List S37) (n : Nat) : List S37 := (sortS l).take n
def erasure_Decode.f (a0_0 a0_1 a1 : Int) (l2 : List S37) : Option (ByteArray × Int) :=
  (erasure_look.f a0_0 a0_1 a1 l2).bind fun t => if t.2 = 0 then
    ((erasure_rowsOf.f KK a0_0 a0_1).bind fun m => (matrix_Pick.f KK m.1 m.2.1 m.2.2 ((usedS l2 a0_0.toNat).map S37.f0)).bind fun p =>
      (matrix_Inverse.f p.1 p.2.1 p.2.2.1).bind fun q => if q.2.2.1.length = a0_0.toNat * a0_0.toNat then
        ((decodeTo q.2.2.1 a0_0.toNat ((usedS l2 a0_0.toNat).map S37.f1) t.1 a0_0.toNat).bind fun b => if a1 ≤ b.length then some ((⟨b.toArray⟩ : ByteArray).extract 0 a1.toNat, 0) else none)
      else none)
  else some (⟨#[]⟩, t.2)

theorem look_in {all len : Int} : ∀ {l : List S37} {seen : Nat → Bool}, lookAt all len l seen = 0 → (∀ s, s ∈ l → 0 ≤ s.f0 ∧ s.f0 < all ∧ (s.f1.size : Int) = len ∧ seen s.f0.toNat = false) ∧ l.Pairwise (fun a b => a.f0 ≠ b.f0)
  | [], seen, h => ⟨fun s hs => absurd hs (by simp), List.Pairwise.nil⟩
  | x :: l, seen, h => by
    unfold lookAt at h
    split at h
    · cases h
    · rename_i h1
      split at h
      · cases h
      · rename_i h2
        split at h
        · cases h
        · rename_i h3
          split at h
          · cases h
          · rename_i h4
            obtain ⟨ha, hb⟩ := look_in h
            have hx : 0 ≤ x.f0 ∧ x.f0 < all ∧ (x.f1.size : Int) = len ∧ seen x.f0.toNat = false := ⟨by omega, by omega, by simpa using h3, by simpa using h4⟩
            refine ⟨fun s hs => ?_, List.pairwise_cons.2 ⟨fun s hs => ?_, hb⟩⟩
            · rcases List.mem_cons.1 hs with rfl | hs
              · exact hx
              · obtain ⟨b1, b2, b3, b4⟩ := ha s hs
                refine ⟨b1, b2, b3, ?_⟩
                by_cases e : s.f0.toNat = x.f0.toNat
                · rw [if_pos e] at b4
                  cases b4
                · rw [if_neg e] at b4
                  exact b4
            · obtain ⟨b1, b2, b3, b4⟩ := ha s hs
              intro e
              rw [if_pos (by rw [e])] at b4
              cases b4
/-- Different numbers below 16 are at most 16. -/
theorem idx_length {l : List S37} (h : Idx l) : l.length ≤ 16 := by
  have hn : (l.map fun s => s.f0.toNat).Nodup := by
    unfold List.Nodup
    rw [List.pairwise_map]
    refine List.Pairwise.imp_of_mem ?_ h.2
    intro a b ha hb hab e
    have h1 := h.1 a ha
    have h2 := h.1 b hb
    omega
  have hs : (l.map fun s => s.f0.toNat) ⊆ List.range 16 := by
    intro x hx
    obtain ⟨s, hs, rfl⟩ := List.mem_map.1 hx
    have := h.1 s hs
    exact List.mem_range.2 (by omega)
  have := hn.length_le_of_subset hs
  simpa using this
theorem look_idx {a0 a1 s len : Int} {l : List S37} (h : erasure_look.f a0 a1 s l = some (len, 0)) : Idx l ∧ 1 ≤ a0 ∧ a0 ≤ a1 ∧ a1 ≤ 16 ∧ 0 ≤ s ∧ (a0 : Int) ≤ l.length ∧ (∀ x, x ∈ l → x.f0 < a1 ∧ (x.f1.size : Int) = len) ∧ erasure_Length.f a0 a1 s = some (len, 0) := by
  unfold erasure_look.f at h
  replace h := Option.bind_eq_some_iff.mp h
  obtain ⟨⟨t1, t2⟩, hL, h⟩ := h
  simp only at h
  split at h
  · rename_i ht
    subst ht
    obtain ⟨g1, g2, g3, g4⟩ := length_all hL
    split at h
    · rename_i hz
      split at h
      · simp at h
      · rename_i hn
        injection h with h
        injection h with h h'
        subst h
        obtain ⟨ha, hb⟩ := look_in hz
        exact ⟨⟨fun x hx => by have := ha x hx; omega, hb⟩, g1, g2, g3, g4, by omega, fun x hx => ⟨(ha x hx).2.1, (ha x hx).2.2.1⟩, hL⟩
    · rename_i hz
      injection h with h
      injection h with h h'
      exact absurd h' hz
  · rename_i ht
    injection h with h
    injection h with h h'
    exact absurd h' ht
theorem decodeTo_succ {cells : List Int} {n : Nat} {parts : List ByteArray} {len : Int} {i : Nat} {b : List UInt8} (h : decodeTo cells n parts len (i + 1) = some b) :
    ∃ b0 s, decodeTo cells n parts len i = some b0 ∧ erasure_shard.f KK (cut cells n i) parts len = some s ∧ b0.length + s.size ≤ 1000000 ∧ b = b0 ++ s.data.toList := by
  unfold decodeTo at h
  replace h := Option.bind_eq_some_iff.mp h
  obtain ⟨b0, h0, h⟩ := h
  replace h := Option.bind_eq_some_iff.mp h
  obtain ⟨s, h1, h⟩ := h
  split at h
  · rename_i h2
    injection h with h
    exact ⟨b0, s, h0, h1, h2, h.symm⟩
  · cases h
theorem decodeTo_upto {cells : List Int} {n : Nat} {parts : List ByteArray} {len : Int} {i : Nat} : ∀ (m : Nat) {b : List UInt8}, decodeTo cells n parts len m = some b → i ≤ m → ∃ b', decodeTo cells n parts len i = some b'
  | 0, b, h, hi => by
    obtain rfl : i = 0 := by omega
    exact ⟨b, h⟩
  | m + 1, b, h, hi => by
    by_cases e : i = m + 1
    · subst e
      exact ⟨b, h⟩
    · obtain ⟨b0, s, h0, _⟩ := decodeTo_succ h
      exact decodeTo_upto m h0 (by omega)
theorem C_cut {W : World} {g n i : Nat} {l : List Int} (h : (Kd.int .i64).C W (some ⟨g, 0, none⟩) l.length l) (hl : l.length = n * n) (hi : i < n) (hn : n ≤ 16) : (Kd.int .i64).C W (some ⟨g, i * n, none⟩) (cut l n i).length (cut l n i) := by
  have hc := cut_length hl hi
  have hb : i * n + n ≤ n * n := by have : (i + 1) * n ≤ n * n := Nat.mul_le_mul_right _ hi; rw [Nat.succ_mul] at this; exact this
  refine ⟨rfl, by omega, fun _ => ⟨_, rfl, fun j p hj => ⟨[.int .i64 p], rfl, rfl, fun q u hu => ?_⟩⟩⟩
  have hjl := (List.getElem?_eq_some_iff.1 hj).1
  have hq : q = 0 := by
    have := (List.getElem?_eq_some_iff.1 hu).1
    simpa using this
  subst hq
  have hu' : Value.int .i64 p = u := by simpa using hu
  subst hu'
  have hcg := cut_getD (l := l) hi (show j < n by omega)
  rw [List.getD_eq_getElem?_getD, hj] at hcg
  obtain ⟨ad, e, hcell⟩ := Kd.at_int h ((i * n + j : Nat) : Int) (by omega) (by omega)
  cases e
  rw [Int.toNat_natCast, add_plain] at hcell
  have e1 : rd l ((i * n + j : Nat) : Int) = p := by
    unfold rd
    rw [Int.toNat_natCast, ← hcg]
    rfl
  rw [e1] at hcell
  have e2 : (⟨g, i * n, none⟩ : Addr).add (j * (Kd.int .i64).sz + 0) = ⟨g, i * n + j, none⟩ := by
    show (⟨g, i * n, none⟩ : Addr).add (j * 1 + 0) = _
    rw [Nat.mul_one, Nat.add_zero]
    unfold Addr.add
    split <;> simp_all
  rw [e2]
  exact hcell
theorem size_alloc' (w : World) (o : Obj) : (w.alloc o).heap.size = w.heap.size + 1 := by simp
theorem blk_new1 (w : World) (A B : Obj) : ((w.alloc A).alloc B).heap[w.heap.size + 1]? = some B := by
  have h := blk_new (w.alloc A) B
  rwa [size_alloc'] at h
theorem blk_new2 (w : World) (A B C : Obj) : (((w.alloc A).alloc B).alloc C).heap[w.heap.size + 2]? = some C := by
  have h := blk_new ((w.alloc A).alloc B) C
  rwa [size_alloc', size_alloc'] at h
theorem grown_box {α : Type} (d : Kd α) (e : Nat) {W w1 : World} (base : Nat) (ok : Nat → Prop) {v : Value} (xs : List α) {g t : Nat} {cells : Array Value} (hg : W.grownBy w1 v.ownBlock) (h : d.R e W base ok v xs) (hb : W.heap[g]? = some (.cells cells t (0, 0))) (ht : e ≠ t) : w1.heap[g]? = some (.cells cells t (0, 0)) := blk_grown hb hg (Kd.R_ne h hb ht)
theorem over_row {α β : Type} (d : Kd α) (d' : Kd β) (e e' : Nat) {W w1 : World} (b : Nat) (ok : Nat → Prop) {u v : Value} (xs : List α) (ys : List β) (hg : W.grownBy w1 v.ownBlock) (h : d.R e W b ok u xs) (hv : d'.R e' W b ok v ys) (ht : ∀ q, q ∈ e :: d.E → q ≠ e') : d.R e w1 b ok u xs := Kd.R_over h hv ht hg
theorem reads_one {α : Type} (enc : α → Value) {W : World} {b : Nat} {T : TypeId} {x : α} (h : W.heap[b]? = some (.cells #[enc x] T (0, 0))) : ReadsRow (fun x cs => cs = [enc x]) 1 W (some ⟨b, 0, none⟩) 1 [x] :=
  ⟨rfl, by decide, fun _ => ⟨_, rfl, fun j p hj => by
    have hj0 : j = 0 := by
      have := (List.getElem?_eq_some_iff.1 hj).1
      simpa using this
    subst hj0
    have hp : x = p := by simpa using hj
    subst hp
    refine ⟨[enc x], rfl, rfl, fun i u hu => ?_⟩
    have hi0 : i = 0 := by
      have := (List.getElem?_eq_some_iff.1 hu).1
      simpa using this
    subst hi0
    have hu' : enc x = u := by simpa using hu
    subst hu'
    exact (blk_cell h 0).trans rfl⟩⟩
theorem mul_w0 {i n : Nat} (hi : i < n) (hn : n ≤ 16) : wrap64 ((i : Int) * (n : Int)) = ((i * n : Nat) : Int) := by
  have h : i * n ≤ 16 * 16 := Nat.mul_le_mul (by omega) hn
  rw [← Int.natCast_mul, w64] <;> omega
theorem mul_w1 {i n : Nat} (hi : i < n) (hn : n ≤ 16) : wrap64 (((i : Int) + 1) * (n : Int)) = (((i + 1) * n : Nat) : Int) := by
  have h : (i + 1) * n ≤ 16 * 16 := Nat.mul_le_mul (by omega) hn
  have e : ((i : Int) + 1) * (n : Int) = (((i + 1) * n : Nat) : Int) := by rw [Int.natCast_mul]; rfl
  rw [e, w64] <;> omega
theorem builder_below {w w1 : World} {B b : Nat} {bs : List Value} (h : Lib.IsBuilder 76 5 B b bs w) (hb : Below w.heap.size w w1) : Lib.IsBuilder 76 5 B b bs w1 := by
  rcases h with ⟨h1, v, h2, h3, h4⟩ | ⟨h1, v, h2, h3, h4⟩
  · exact .inl ⟨h1, v, blk_below h2 hb, pw_own_below h3 hb, h4⟩
  · exact .inr ⟨h1, v, blk_below h2 hb, pw_own_below h3 hb, h4⟩
theorem builder_lt {w : World} {B b : Nat} {bs : List Value} (h : Lib.IsBuilder 76 5 B b bs w) : B ≤ w.heap.size := by
  rcases h with h | h
  · exact Nat.le_trans h.1 (Nat.le_of_lt h.lt)
  · exact Nat.le_trans h.1 (Nat.le_of_lt h.lt)
theorem bytes_join (b : List UInt8) (s : ByteArray) : Lib.byteCells b ++ Lib.strCells s = Lib.byteCells (b ++ s.data.toList) := by
  rw [Lib.byteCells_append]; rfl
theorem bytes_len (b : List UInt8) : (Lib.byteCells b).length = b.length := by simp [Lib.byteCells]
theorem C_cut2 {W : World} {g n i lo hi2 : Nat} {l : List Int} (h : (Kd.int .i64).C W (some ⟨g, 0, none⟩) l.length l) (hl : l.length = n * n) (hi : i < n) (hn : n ≤ 16) (hlo : lo = i * n) (hhi : hi2 = (i + 1) * n) : (Kd.int .i64).C W (some ⟨g, lo, none⟩) (hi2 - lo) (cut l n i) := by
  have hc := cut_length hl hi
  have e : hi2 - lo = (cut l n i).length := by rw [hc, hhi, hlo, Nat.succ_mul]; omega
  rw [e, hlo]
  exact C_cut h hl hi hn
theorem shard_call {g n i lo hi2 c7 : Nat} {l : List Int} (hl : l.length = n * n) (hi : i < n) (hlo : lo = i * n) (hhi : hi2 = (i + 1) * n) (hc : hi2 ≤ c7) (A1 : Option Addr) (c1 m : Nat) (l1 : List ByteArray) (hm : l1.length = m) (a2 : Int) (r : ByteArray) (w : World) (hr0 : (Kd.int .i64).C w (some ⟨g, lo, none⟩) (hi2 - lo) (cut l n i)) (hr1 : Kd.C Kd.string w A1 m l1) (hc1 : m ≤ c1) (h : erasure_shard.f KK (cut l n i) l1 a2 = some r) :
    Calls Try.prog 32 #[.slice (some ⟨g, lo, none⟩) (hi2 - lo) (c7 - lo), .slice A1 m c1, .int .i64 a2] w fun e w' => e = .returned (.string r) ∧ Below w.heap.size w w' := by
  subst hm
  have hcl := cut_length hl hi
  have e : hi2 - lo = (cut l n i).length := by rw [hcl, hhi, hlo, Nat.succ_mul]; omega
  rw [e] at hr0 ⊢
  exact erasure_shard.calls KK _ _ _ _ _ _ _ _ _ hr0 (by omega) hr1 hc1 h
end Go.Proofs.Ytgmadofbelhmeaa.L
end
section
/- erasure.Decode: what it returns. -/
namespace Go.Proofs.Ytgmadofbelhmeaa.L
open Go.RowKit Go.Proofs.YtgmadofbelhmeaaW.PrintWords Go.Proofs.YtgmadofbelhmeaaW.PrintLast Go.Proofs.YtgmadofbelhmeaaW.PrintMore
set_option linter.unusedVariables false
set_option linter.unusedSimpArgs false

set_option maxHeartbeats 2000000 in
set_option maxRecDepth 100000 in
theorem erasure_Decode.calls (a0_0 a0_1 a1 : Int) (A2 : Option Addr) (c2 : Nat) (l2 : List S37) (r1 : ByteArray) (r2 : Int) (w : World) (hr2 : Kd.C k37 w A2 l2.length l2) (hc2 : l2.length ≤ c2) (h : erasure_Decode.f a0_0 a0_1 a1 l2 = some (r1, r2)) :
    Calls Try.prog 18 #[.agg #[.int .i64 a0_0, .int .i64 a0_1], .int .i64 a1, .slice A2 l2.length c2] w fun e w' => e = .returned (.tuple #[.string r1, .int .i64 r2]) ∧ Below w.heap.size w w' := by
  have HR2 := Aside0.mk hr2
  have HC2 := Aside0.mk hc2
  clear hr2 hc2
  unfold erasure_Decode.f at h
  replace h := Option.bind_eq_some_iff.mp h
  obtain ⟨⟨len, er⟩, hL, h⟩ := h
  have HL := Aside0.mk hL
  have H := Aside0.mk h
  clear hL h
  have hu28 := Try.underlying28
  have hu37 := Try.underlying37
  have hu63 := Try.underlying63
  go_enter Try.func18, Try.ntmps18
  go_wp2_with fail
  refine (erasure_look.calls _ _ _ _ _ _ _ _ _ (Kd.C_below HR2.out (below_alloc (Below.refl _ _) _)) HC2.out HL.out).mono ?_
  rintro e w1 ⟨rfl, hb1⟩
  obtain ⟨KB, HB1⟩ : Aside0 (w1.heap[w.heap.size]? = some (.cells #[.int .i64 a0_0, .int .i64 a0_1] 28 (0, 0))) ∧ Aside0 (Below w.heap.size w w1) := by
    refine ⟨⟨blk_below (blk_new w _) hb1⟩, ⟨(below_alloc (Below.refl _ _) _).trans (hb1.mono ?_)⟩⟩
    simp
  clear hb1
  by_cases he : er = 0
  · subst he
    obtain ⟨hI, g1, g2, g3, g4, g5, g6, hlen0⟩ := look_idx HL.out
    have hl16 := idx_length hI
    have H2 := H.out
    simp only [if_true] at H2
    replace H2 := Option.bind_eq_some_iff.mp H2
    obtain ⟨⟨m1, m2, m3⟩, hm, H2⟩ := H2
    replace H2 := Option.bind_eq_some_iff.mp H2
    obtain ⟨⟨p1, p2, p3, p4⟩, hp, H2⟩ := H2
    replace H2 := Option.bind_eq_some_iff.mp H2
    obtain ⟨⟨q1, q2, q3, q4⟩, hq, H2⟩ := H2
    simp only at hm hp hq H2
    split at H2
    case isFalse => cases H2
    rename_i hql
    replace H2 := Option.bind_eq_some_iff.mp H2
    obtain ⟨bs, hd, H2⟩ := H2
    split at H2
    case isFalse => cases H2
    rename_i hsz
    injection H2 with H2
    injection H2 with H21 H22
    subst H21 H22
    have HI := Aside0.mk hI
    have HM := Aside0.mk hm
    have HP := Aside0.mk hp
    have HQ := Aside0.mk hq
    have HQL := Aside0.mk hql
    have HD := Aside0.mk hd
    clear H hI hm hp hq hql hd g6 hlen0
    obtain ⟨n, rfl⟩ : ∃ n : Nat, a0_0 = (n : Int) := ⟨a0_0.toNat, by omega⟩
    obtain ⟨sz, rfl⟩ : ∃ sz : Nat, a1 = (sz : Int) := ⟨a1.toNat, by omega⟩
    rw [Int.toNat_natCast] at HP HQL HD

    have hn1 : 1 ≤ n := by omega
    have hn2 : n ≤ 16 := by omega
    have hnl : n ≤ l2.length := by omega
    go_wp2_with fail
    refine (api_Shard.calls _ _ l2 l2 _ (Kd.C_below HR2.out HB1.out) HC2.out (by unfold api_Shard.f; rw [if_pos (by omega)])).mono ?_
    rintro e w2 ⟨v0, rfl, hR, hb2⟩
    obtain ⟨g, cp2, rfl, hgb, hgl, hgc⟩ := Kd.R_form hR (by omega)
    have KB2 := Aside0.mk (blk_below KB.out hb2)
    have HB2 := Aside0.mk (HB1.out.trans (hb2.mono HB1.out.size))
    have hgk : w.heap.size ≤ g ∧ g ≠ w.heap.size := ⟨by have := HB1.out.size; omega, by have := blk_lt KB.out; omega⟩
    have hww := HB1.out.size
    clear KB HB1 hb2 hgc
    have hcap : l2.length ≤ cp2 := by
      obtain ⟨A, c, e, hle, _⟩ := Kd.R_reads hR
      injection e with _ _ e
      omega
    go_wp2_with fail
    refine (sort_calls l2 (by intro e; rw [e] at hnl; simp at hnl; omega) HI.out (by omega) _ g cp2 _ _ hR).mono ?_
    rintro e w3 ⟨rfl, hC3, hB3, hsz3, hoth3⟩
    have KB3 := Aside0.mk ((hoth3 w.heap.size (blk_lt KB2.out) (fun e => hgk.2 e.symm)).trans KB2.out)
    have HB3 := Aside0.mk (HB2.out.trans (hB3.mono hww))
    have HC3 := Aside0.mk hC3
    have hg3 : g < w3.heap.size := by omega
    clear hR hB3 hsz3 hoth3 hC3 KB2 HB2 hgb hgl
    have c30 : w3.cell? ⟨w.heap.size, 0, none⟩ = some (.int .i64 n) := (blk_cell KB3.out 0).trans rfl
    have hcn : (n : Int) ≤ (cp2 : Int) := by omega
    go_wp2_with fail
    clear c30
    go_loopw [10, 11, 37] (fun v10 v11 v37 wr => ∃ j : Nat, v37 = .int .i64 (j : Int) ∧ j ≤ n ∧ Aside0 ((Kd.int .i64).R 3 wr w3.heap.size (fun _ => True) v10 (((usedS l2 n).take j).map S37.f0)) ∧ Aside0 (Kd.string.R 9 wr w3.heap.size (fun _ => True) v11 (((usedS l2 n).take j).map S37.f1)) ∧ Aside0 (Below w3.heap.size w3 wr)) (fun _ _ v37 _ => n - (intOf v37).toNat)
    case atStart => exact ⟨0, rfl, Nat.zero_le _, ⟨Kd.R_nil _ _ _ _ _⟩, ⟨Kd.R_nil _ _ _ _ _⟩, ⟨Below.refl _ _⟩⟩
    case round =>
      obtain ⟨j, rfl, hj, HO1, HO2, HBB⟩ := hrel
      by_cases hjn : j < n
      · have hjb : decide ((j : Int) < (n : Int)) = true := decide_eq_true (by omega)
        obtain ⟨ad, e, hc0, hc1⟩ := at_T37 HC3.out (j : Int) (by omega) (by omega)
        cases e
        rw [Int.toNat_natCast, add_plain] at hc0 hc1
        replace hc0 := pw_cell_below HBB.out hc0
        replace hc1 := pw_cell_below HBB.out hc1
        have hx : (usedS l2 n)[j]? = some (rd_T37 (sortS l2) (j : Int)) := by
          unfold usedS rd_T37
          rw [List.getElem?_take, if_pos hjn, Int.toNat_natCast, List.getD_eq_getElem?_getD, List.getElem?_eq_getElem (by rw [sortS_length]; omega)]
          rfl
        have HX1 := Aside0.mk (show ((usedS l2 n).take (j + 1)).map S37.f0 = ((usedS l2 n).take j).map S37.f0 ++ [(rd_T37 (sortS l2) (j : Int)).f0] by
          rw [List.take_add_one, hx]; simp)
        have HX2 := Aside0.mk (show ((usedS l2 n).take (j + 1)).map S37.f1 = ((usedS l2 n).take j).map S37.f1 ++ [(rd_T37 (sortS l2) (j : Int)).f1] by
          rw [List.take_add_one, hx]; simp)
        clear hx
        generalize (rd_T37 (sortS l2) (j : Int)).f0 = xi at hc0 HX1
        generalize (rd_T37 (sortS l2) (j : Int)).f1 = xd at hc1 HX2
        have hI1 : (((usedS l2 n).take j).map S37.f0).length ≤ 16 := by rw [List.length_map, List.length_take]; omega
        have hI2 : (((usedS l2 n).take j).map S37.f1).length ≤ 16 := by rw [List.length_map, List.length_take]; omega
        generalize ((usedS l2 n).take j).map S37.f0 = I1 at HO1 HX1 hI1
        generalize ((usedS l2 n).take j).map S37.f1 = I2 at HO2 HX2 hI2
        obtain ⟨A10, c10, rfl⟩ := Kd.R_slice HO1.out
        obtain ⟨A11, c11, rfl⟩ := Kd.R_slice HO2.out
        go_wp2_with fail
        go_region_held3 (fun w' => w'.cell? ⟨wr.heap.size, 0, none⟩ = some (.int .i64 xi) ∧ w'.cell? ⟨wr.heap.size, 1, none⟩ = some (.string xd)) (first | go_keep | exact ⟨hbx60, hbx61⟩ | exact ⟨hbx70, hbx71⟩) (first | (refine Kd.R_append_rows_step (Kd.int .i64) (Rr := fun x cs => cs = [.int .i64 x]) (w0 := w3) w3.heap.size (by rfl) (.tmp 41) (.tmp 44) 22 3 (.int .i64 0) 8 rfl Try.underlying22 info3 rfl (by decide) (by omega) (.slice A10 I1.length c10) I1 [xi] _ 1 1 (fun _ => True) (fun _ => False) rfl rfl (by (with_reducible repeat (first | apply Kd.R_alloc | apply Kd.R_drewN | apply Kd.R_drew)); first | with_reducible exact HO1b | with_reducible exact HO1.out) (reads_one (Value.int .i64) (by first | with_reducible exact hbi7 | with_reducible exact hbi7b | with_reducible exact blk_new _ _ | with_reducible exact blk_drew (blk_new1 _ _ _) | with_reducible exact blk_drew (blk_alloc (blk_new1 _ _ _) _) | with_reducible exact blk_drew (blk_new2 _ _ _ _))) (fun _ _ h => h) (fun _ h => h.elim) (fun _ _ => trivial) (by repeat (with_reducible first | exact hb6 | exact hb7 | exact HBB.out | apply below_alloc | apply pw_below_drewN | apply below_drew1)) (below_size (by repeat (with_reducible first | exact hb6 | exact hb7 | exact HBB.out | apply below_alloc | apply pw_below_drewN | apply below_drew1))) (by omega) ?_; intro v6 w6 ho6 hb6 hg6 hat6; have hbx6 := grown_box (Kd.int .i64) 3 w3.heap.size (fun _ => True) I1 (g := wr.heap.size) (cells := #[.int .i64 xi, .string xd]) (t := 37) hg6 (by (with_reducible repeat (first | apply Kd.R_alloc | apply Kd.R_drewN | apply Kd.R_drew)); first | with_reducible exact HO1b | with_reducible exact HO1.out) (by first | with_reducible exact hbx6 | with_reducible exact hbx7 | with_reducible exact blk_alloc hbx6 _ | with_reducible exact blk_alloc hbx7 _ | with_reducible exact blk_drew (blk_alloc (blk_new _ _) _) | with_reducible exact blk_drew (blk_alloc (blk_alloc (blk_new _ _) _) _)) (by decide); have hbx60 := (blk_cell hbx6 0).trans (show _ = some (Value.int .i64 xi) from rfl); have hbx61 := (blk_cell hbx6 1).trans (show _ = some (Value.string xd) from rfl); (try have hbj6 := grown_box (Kd.int .i64) 3 w3.heap.size (fun _ => True) I1 (g := wr.heap.size + 1) (cells := #[.string xd]) (t := 9) hg6 (by (with_reducible repeat (first | apply Kd.R_alloc | apply Kd.R_drewN | apply Kd.R_drew)); first | with_reducible exact HO1b | with_reducible exact HO1.out) (by with_reducible exact blk_drew (blk_alloc (blk_new1 _ _ _) _)) (by decide)); (try have hbj6b := grown_box (Kd.int .i64) 3 w3.heap.size (fun _ => True) I1 (g := wr.heap.size + 2) (cells := #[.string xd]) (t := 9) hg6 (by (with_reducible repeat (first | apply Kd.R_alloc | apply Kd.R_drewN | apply Kd.R_drew)); first | with_reducible exact HO1b | with_reducible exact HO1.out) (by with_reducible exact blk_drew (blk_new2 _ _ _ _)) (by decide)); (first | (have HO2f := over_row Kd.string (Kd.int .i64) 9 3 w3.heap.size (fun _ => True) (u := .slice A7 (I2 ++ [xd]).length c7) (I2 ++ [xd]) I1 hg6 (by (with_reducible repeat (first | apply Kd.R_alloc | apply Kd.R_drewN | apply Kd.R_drew)); with_reducible exact ho7) (by (with_reducible repeat (first | apply Kd.R_alloc | apply Kd.R_drewN | apply Kd.R_drew)); first | with_reducible exact HO1b | with_reducible exact HO1.out) (by decide)) | (have HO2b := over_row Kd.string (Kd.int .i64) 9 3 w3.heap.size (fun _ => True) (u := .slice A11 I2.length c11) I2 I1 hg6 (by (with_reducible repeat (first | apply Kd.R_alloc | apply Kd.R_drewN | apply Kd.R_drew)); with_reducible exact HO2.out) (by (with_reducible repeat (first | apply Kd.R_alloc | apply Kd.R_drewN | apply Kd.R_drew)); first | with_reducible exact HO1b | with_reducible exact HO1.out) (by decide))); obtain ⟨A6, c6, rfl⟩ := Kd.R_slice ho6) | (refine Kd.R_append_rows_step Kd.string (Rr := fun x cs => cs = [.string x]) (w0 := w3) w3.heap.size (by rfl) (.tmp 46) (.tmp 49) 61 9 (.string ⟨#[]⟩) 16 rfl Try.underlying61 info9 rfl (by decide) (by omega) (.slice A11 I2.length c11) I2 [xd] _ 1 1 (fun _ => True) (fun _ => False) rfl rfl (by (with_reducible repeat (first | apply Kd.R_alloc | apply Kd.R_drewN | apply Kd.R_drew)); first | with_reducible exact HO2b | with_reducible exact HO2.out) (reads_one Value.string (by first | with_reducible exact hbj6 | with_reducible exact hbj6b | with_reducible exact blk_new _ _ | with_reducible exact blk_drew (blk_new1 _ _ _) | with_reducible exact blk_drew (blk_alloc (blk_new1 _ _ _) _) | with_reducible exact blk_drew (blk_new2 _ _ _ _))) (fun _ _ h => h) (fun _ h => h.elim) (fun _ _ => trivial) (by repeat (with_reducible first | exact hb6 | exact hb7 | exact HBB.out | apply below_alloc | apply pw_below_drewN | apply below_drew1)) (below_size (by repeat (with_reducible first | exact hb6 | exact hb7 | exact HBB.out | apply below_alloc | apply pw_below_drewN | apply below_drew1))) (by omega) ?_; intro v7 w7 ho7 hb7 hg7 hat7; have hbx7 := grown_box Kd.string 9 w3.heap.size (fun _ => True) I2 (g := wr.heap.size) (cells := #[.int .i64 xi, .string xd]) (t := 37) hg7 (by (with_reducible repeat (first | apply Kd.R_alloc | apply Kd.R_drewN | apply Kd.R_drew)); first | with_reducible exact HO2b | with_reducible exact HO2.out) (by first | with_reducible exact hbx6 | with_reducible exact hbx7 | with_reducible exact blk_alloc hbx6 _ | with_reducible exact blk_alloc hbx7 _ | with_reducible exact blk_drew (blk_alloc (blk_new _ _) _) | with_reducible exact blk_drew (blk_alloc (blk_alloc (blk_new _ _) _) _)) (by decide); have hbx70 := (blk_cell hbx7 0).trans (show _ = some (Value.int .i64 xi) from rfl); have hbx71 := (blk_cell hbx7 1).trans (show _ = some (Value.string xd) from rfl); (try have hbi7 := grown_box Kd.string 9 w3.heap.size (fun _ => True) I2 (g := wr.heap.size + 1) (cells := #[.int .i64 xi]) (t := 3) hg7 (by (with_reducible repeat (first | apply Kd.R_alloc | apply Kd.R_drewN | apply Kd.R_drew)); first | with_reducible exact HO2b | with_reducible exact HO2.out) (by with_reducible exact blk_drew (blk_alloc (blk_new1 _ _ _) _)) (by decide)); (try have hbi7b := grown_box Kd.string 9 w3.heap.size (fun _ => True) I2 (g := wr.heap.size + 2) (cells := #[.int .i64 xi]) (t := 3) hg7 (by (with_reducible repeat (first | apply Kd.R_alloc | apply Kd.R_drewN | apply Kd.R_drew)); first | with_reducible exact HO2b | with_reducible exact HO2.out) (by with_reducible exact blk_drew (blk_new2 _ _ _ _)) (by decide)); (first | (have HO1f := over_row (Kd.int .i64) Kd.string 3 9 w3.heap.size (fun _ => True) (u := .slice A6 (I1 ++ [xi]).length c6) (I1 ++ [xi]) I2 hg7 (by (with_reducible repeat (first | apply Kd.R_alloc | apply Kd.R_drewN | apply Kd.R_drew)); with_reducible exact ho6) (by (with_reducible repeat (first | apply Kd.R_alloc | apply Kd.R_drewN | apply Kd.R_drew)); first | with_reducible exact HO2b | with_reducible exact HO2.out) (by decide)) | (have HO1b := over_row (Kd.int .i64) Kd.string 3 9 w3.heap.size (fun _ => True) (u := .slice A10 I1.length c10) I1 I2 hg7 (by (with_reducible repeat (first | apply Kd.R_alloc | apply Kd.R_drewN | apply Kd.R_drew)); with_reducible exact HO1.out) (by (with_reducible repeat (first | apply Kd.R_alloc | apply Kd.R_drewN | apply Kd.R_drew)); first | with_reducible exact HO2b | with_reducible exact HO2.out) (by decide))); obtain ⟨A7, c7, rfl⟩ := Kd.R_slice ho7))
        all_goals
          simp only [List.length_append, List.length_singleton] at HO1f ho7
          clear hbx6 hbx60 hbx61 hbx7 hbx70 hbx71 hc0 hc1
          go_wp2_with fail
          exact ⟨⟨j + 1, rfl, by omega, ⟨by rw [HX1.out]; exact HO1f⟩, ⟨by rw [HX2.out]; exact ho7⟩, ⟨hb7⟩⟩, by simp [intOf]; omega⟩
      · have hjb : decide ((j : Int) < (n : Int)) = false := decide_eq_false (by omega)
        obtain rfl : n = j := by omega
        have hus : (usedS l2 n).length = n := by unfold usedS; rw [List.length_take, sortS_length]; omega
        rw [List.take_of_length_le (by omega)] at HO1 HO2
        have hn3 : ((usedS l2 n).map S37.f0).length = n := by rw [List.length_map, hus]
        have hn4 : ((usedS l2 n).map S37.f1).length = n := by rw [List.length_map, hus]
        generalize (usedS l2 n).map S37.f0 = I1 at HO1 HP hn3
        generalize (usedS l2 n).map S37.f1 = I2 at HO2 HD hn4
        obtain ⟨A10, c10, rfl⟩ := Kd.R_slice HO1.out
        obtain ⟨A11, c11, rfl⟩ := Kd.R_slice HO2.out
        clear hus
        have HN3 := Aside0.mk hn3
        have HN4 := Aside0.mk hn4
        clear hn3 hn4
        have KB4 := Aside0.mk (blk_below KB3.out HBB.out)
        have d0 : wr.cell? ⟨w.heap.size, 0, none⟩ = some (.int .i64 n) := (blk_cell KB4.out 0).trans rfl
        have d1 : wr.cell? ⟨w.heap.size, 1, none⟩ = some (.int .i64 a0_1) := (blk_cell KB4.out 1).trans rfl
        go_wp2_with fail
        refine (erasure_rowsOf.calls KK (n : Int) a0_1 m1 m2 m3 _ HM.out).mono ?_
        rintro e w5 ⟨vm, rfl, hRm, hb5⟩
        obtain ⟨A5, c5, rfl, hlm, hCm⟩ := Kd.R_reads hRm
        have HI1 := Aside0.mk (Kd.C_below (Kd.R_reads' HO1.out).2.2 hb5)
        have HL1 := Aside0.mk (Kd.R_reads' HO1.out).2.1
        have HI2 := Aside0.mk (Kd.C_below (Kd.R_reads' HO2.out).2.2 hb5)
        have HL2 := Aside0.mk (Kd.R_reads' HO2.out).2.1
        have HB5 := Aside0.mk ((HB3.out.trans (HBB.out.mono HB3.out.size)).trans (hb5.mono (by have := HB3.out.size; have := HBB.out.size; omega)))
        have KB5 := Aside0.mk (blk_below KB4.out hb5)
        clear hRm hb5 d0 d1 KB4 HO1 HO2 HM HB3 HBB KB3 HC3
        go_wp2_with fail
        refine (matrix_Pick.calls KK m1 m2 A5 c5 m3 A10 c10 I1 p1 p2 p3 p4 _ hCm hlm HI1.out HL1.out HP.out).mono ?_
        rintro e w6 ⟨vp, rfl, hRp, hb6⟩
        obtain ⟨A6, c6, rfl, hlp, hCp⟩ := Kd.R_reads hRp
        have HI6 := Aside0.mk (Kd.C_below HI2.out hb6)
        have HB6 := Aside0.mk (HB5.out.trans (hb6.mono HB5.out.size))
        have KB6 := Aside0.mk (blk_below KB5.out hb6)
        clear hRp hb6 hCm hlm HI1 HL1 HI2 HB5 KB5 HP
        go_wp2_with fail
        refine (matrix_Inverse.calls p1 p2 A6 c6 p3 q1 q2 q3 q4 _ (Kd.C_below hCp (below_alloc (Below.refl _ _) _)) hlp HQ.out).mono ?_
        rintro e w7 ⟨vq, rfl, hRq, hb7⟩
        have K14 := blk_below (blk_new w6 _) hb7
        have hb67 : Below w6.heap.size w6 w7 := (below_alloc (Below.refl _ _) _).trans (hb7.mono (by simp))
        obtain ⟨g7, c7, rfl, hg7, hg7l, hg7c⟩ := Kd.R_form hRq (by rw [HQL.out]; exact Nat.mul_pos hn1 hn1)
        have hsz6 : w.heap.size ≤ w6.heap.size ∧ w6.heap.size < w7.heap.size ∧ w.heap.size < w6.heap.size := ⟨HB6.out.size, blk_lt K14, blk_lt KB6.out⟩
        have c140 : w7.cell? ⟨w6.heap.size, 0, none⟩ = some (.int .i64 p1) := (blk_cell K14 0).trans rfl
        have c141 : w7.cell? ⟨w6.heap.size, 1, none⟩ = some (.int .i64 p2) := (blk_cell K14 1).trans rfl
        have c142 : w7.cell? ⟨w6.heap.size, 2, none⟩ = some (.slice A6 p3.length c6) := (blk_cell K14 2).trans rfl
        have f140 := blk_frozen K14 0
        have f141 := blk_frozen K14 1
        have f142 := blk_frozen K14 2
        obtain ⟨W8, hW8⟩ : ∃ W8, W8 = ((w7.setCell ⟨w6.heap.size, 0, none⟩ (.int .i64 q1)).setCell ⟨w6.heap.size, 1, none⟩ (.int .i64 q2)).setCell ⟨w6.heap.size, 2, none⟩ (.slice (some ⟨g7, 0, none⟩) q3.length c7) := ⟨_, rfl⟩
        have hb68 : Below w6.heap.size w6 W8 := by
          rw [hW8]
          exact ((hb67.setCell (p := ⟨w6.heap.size, 0, none⟩) (Nat.le_refl _) _).setCell (p := ⟨w6.heap.size, 1, none⟩) (Nat.le_refl _) _).setCell (p := ⟨w6.heap.size, 2, none⟩) (Nat.le_refl _) _
        have hR8 : Kd.R (Kd.int .i64) 3 W8 (w6.alloc (.cells #[.int .i64 p1, .int .i64 p2, .slice A6 p3.length c6] 63)).heap.size (fun _ => True) (.slice (some ⟨g7, 0, none⟩) q3.length c7) q3 := by
          rw [hW8]
          exact Kd.R_set (Kd.R_set (Kd.R_set hRq K14 (t := 63) (by decide) 0 _) (blk_put K14 0 _ rfl) (t := 63) (by decide) 1 _) (blk_put (blk_put K14 0 _ rfl) 1 _ rfl) (t := 63) (by decide) 2 _
        have K148 : W8.heap[w6.heap.size]? = some (.cells #[.int .i64 q1, .int .i64 q2, .slice (some ⟨g7, 0, none⟩) q3.length c7] 63 (0, 0)) := by
          rw [hW8]
          exact blk_put (blk_put (blk_put K14 0 _ rfl) 1 _ rfl) 2 _ rfl
        have hq8 := Kd.R_reads' hR8
        have HCQ := Aside0.mk hq8.2.2
        have HLQ := Aside0.mk hq8.2.1
        have HI8 := Aside0.mk (Kd.C_below HI6.out hb68)
        have KB8 := Aside0.mk (blk_below KB6.out hb68)
        have HB8 := Aside0.mk (HB6.out.trans (hb68.mono HB6.out.size))
        have HK14 := Aside0.mk K148
        have hs8 : W8.heap.size = w7.heap.size := by rw [hW8]; simp
        have HS8 := Aside0.mk hs8
        have HW8 := Aside0.mk hW8
        have hld : ∀ o, (((((w7.setCell ⟨w6.heap.size, 0, none⟩ (.int .i64 q1)).setCell ⟨w6.heap.size, 1, none⟩ (.int .i64 q2)).setCell ⟨w6.heap.size, 2, none⟩ (.slice (some ⟨g7, 0, none⟩) q3.length c7))).alloc o).cell? ⟨w.heap.size, 0, none⟩ = some (.int .i64 n) := by
          intro o
          rw [← hW8]
          exact (blk_cell (blk_alloc KB8.out o) 0).trans rfl
        clear hRq hb7 hq8 hCp hlp K14 HQ HI6 HB6 KB6 hg7c hb67 hb68 hR8 K148 hs8 hW8 hg7
        go_wp2_with fail
        rw [← HW8.out]
        clear hld c140 c141 c142 f140 f141 f142
        go_loopw [66] (fun v wr => ∃ (i : Nat) (b : List UInt8), v = .int .i64 (i : Int) ∧ i ≤ n ∧ Aside0 (decodeTo q3 n I2 len i = some b) ∧ Aside0 (Lib.IsBuilder 76 5 w7.heap.size w7.heap.size (Lib.byteCells b) wr) ∧ Aside0 (Below w7.heap.size W8 wr)) (fun v _ => n - (intOf v).toNat)
        case atStart =>
          refine ⟨0, [], rfl, Nat.zero_le _, ⟨rfl⟩, ⟨.inl ⟨Nat.le_refl _, .slice none 0 0, ?_, own_nil _ _ _ _, by simp [Value.ownBlock]⟩⟩, ⟨?_⟩⟩
          · have h1 := blk_new W8 (.cells #[.pointer none, .slice none 0 0] 76)
            rw [HS8.out] at h1
            exact h1
          · have h1 := below_alloc (Below.refl W8.heap.size W8) (.cells #[.pointer none, .slice none 0 0] 76)
            rw [HS8.out] at h1
            exact h1
        case round =>
          rename_i wr2 _
          obtain ⟨i, b, rfl, hi, HDI, HIB, HBB⟩ := hrel
          by_cases hin : i < n
          · have hib : decide ((i : Int) < (n : Int)) = true := decide_eq_true (by omega)
            obtain ⟨b1, hb1⟩ := decodeTo_upto n HD.out (show i + 1 ≤ n from hin)
            obtain ⟨b0, s, h0, hsh, hle, hb1e⟩ := decodeTo_succ hb1
            have hbb : b0 = b := by
              have := HDI.out
              rw [h0] at this
              exact Option.some.inj this
            subst hbb
            have hBB8 := HBB.out
            rw [← HS8.out] at hBB8
            have hCQr := Kd.C_below HCQ.out hBB8
            have HI2r := Aside0.mk (Kd.C_below HI8.out hBB8)
            have KBr := blk_below KB8.out hBB8
            have K14r := blk_below HK14.out hBB8
            have e0 := (blk_cell KBr 0).trans (show _ = some (Value.int .i64 n) from rfl)
            have e2 := (blk_cell K14r 2).trans (show _ = some (Value.slice (some ⟨g7, 0, none⟩) q3.length c7) from rfl)
            have HSH := Aside0.mk hsh
            have HLE := Aside0.mk hle
            have HB1 := Aside0.mk hb1
            have HB1E := Aside0.mk hb1e
            obtain ⟨lo, hlo⟩ : ∃ lo : Nat, lo = i * n := ⟨_, rfl⟩
            obtain ⟨hi2, hhi⟩ : ∃ hi2 : Nat, hi2 = (i + 1) * n := ⟨_, rfl⟩
            have hlh : hi2 = lo + n := by rw [hhi, hlo, Nat.succ_mul]
            have hq3 : hi2 ≤ q3.length := by rw [HQL.out, hhi]; exact Nat.mul_le_mul_right _ hin
            have hm1 : wrap64 ((i : Int) * (n : Int)) = (lo : Int) := by rw [hlo]; exact mul_w0 hin hn2
            have hm2 : wrap64 (((i : Int) + 1) * (n : Int)) = (hi2 : Int) := by rw [hhi]; exact mul_w1 hin hn2
            have HCQr := Aside0.mk (C_cut2 hCQr HQL.out hin hn2 hlo hhi)
            have HSL := Aside0.mk (fun hc => @shard_call g7 n i lo hi2 c7 q3 HQL.out hin hlo hhi hc A11 c11)
            have hlc : hi2 ≤ c7 := Nat.le_trans hq3 HLQ.out
            have hll : lo ≤ hi2 := Nat.le_trans (Nat.le_add_right _ _) (Nat.le_of_eq hlh.symm)
            have hlc2 : lo < c7 := Nat.lt_of_lt_of_le (Nat.lt_of_lt_of_eq (Nat.lt_add_of_pos_right hn1) hlh.symm) hlc
            clear h0 hsh hle hb1 hb1e KBr K14r hCQr hlh hlo hhi
            go_wp2_with fail
            refine (HSL.out hlc _ I2 rfl len s _ HCQr.out HI2r.out HL2.out HSH.out).mono ?_
            rintro e w9 ⟨rfl, hb9⟩
            have hIB9 := builder_below HIB.out hb9
            have HB9 := Aside0.mk (HBB.out.trans (hb9.mono (builder_lt HIB.out)))
            clear hb9
            go_wp2_with fail
            refine (writeString w7.heap.size w7.heap.size (Lib.byteCells b0) s _ hIB9 (by rw [bytes_len]; exact Nat.le_trans HLE.out (by decide)) (builder_lt hIB9)).mono ?_
            rintro e w10 ⟨rfl, hat, hb10⟩
            rw [bytes_join, ← HB1E.out] at hat
            go_wp2_with fail
            exact ⟨⟨i + 1, b1, rfl, hin, HB1, ⟨.inr hat⟩, ⟨HB9.out.trans hb10⟩⟩, by simp [intOf]; exact Nat.sub_lt_sub_left hin (Nat.lt_succ_self i)⟩
          · have hib : decide ((i : Int) < (n : Int)) = false := decide_eq_false (fun h => hin (Int.ofNat_lt.1 h))
            obtain rfl : n = i := Nat.le_antisymm (Nat.le_of_not_lt hin) hi
            have hbb : b = bs := Option.some.inj (HDI.out.symm.trans HD.out)
            subst hbb
            go_wp2_with fail
            refine (Try.Builder_String_any w7.heap.size w7.heap.size b _ HIB.out (builder_lt HIB.out)).mono ?_
            rintro e w9 ⟨rfl, hb9⟩
            have hsz8 : w.heap.size ≤ w7.heap.size := Nat.le_trans hsz6.1 (Nat.le_of_lt hsz6.2.1)
            have HBZ := Aside0.mk ((HB8.out.trans (HBB.out.mono hsz8)).trans (hb9.mono hsz8))
            go_wp2_with fail
            go_ret2
            exact ⟨by simp, HBZ.out⟩
  · have H2 := H.out
    simp only [he, if_false] at H2
    injection H2 with H2
    injection H2 with H21 H22
    subst H21 H22
    go_wp2_with fail
    go_ret2
    exact ⟨rfl, HB1.out⟩
#print axioms erasure_Decode.calls
end Go.Proofs.Ytgmadofbelhmeaa.L
end
