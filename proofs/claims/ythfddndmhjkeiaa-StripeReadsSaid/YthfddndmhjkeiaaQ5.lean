/- Texts of this claim, put together by a small program of the session's own: F45, MDecA, MDecode, MRight, MKept. -/
import Derived.Test.YthfddndmhjkeiaaQ0
import Derived.Test.YthfddndmhjkeiaaQ4
import Derived.Test.YthfddndmhjkeiaaQ3
import Derived.Test.YthfddndmhjkeiaaQ2
import Derived.Test.YthfddndmhjkeiaaQ1
import Derived.Deep.RegionLaw
import Derived.Deep.QuietTactic
import Derived.BigQuiet
import Derived.Maps.Own
import Derived.Maps.Views
import Derived.DeepKeys4
section
-- Printed for this claim by a small program of the session's own, drv.py, round the kit's print.py. Lean checks it.
namespace Go.Proofs.Ythfddndmhjkeiaa.L
open Go.RowKit Go.Proofs.YthfddndmhjkeiaaW.PrintWords Go.Proofs.YthfddndmhjkeiaaW.PrintLast Go.Proofs.YthfddndmhjkeiaaW.PrintMore
attribute [local go_sem] max2_int min2_int max_two min_two max_three min_three max_four min_four   -- for this text's walks alone
set_option linter.unusedVariables false
set_option linter.unusedSimpArgs false

/-! ### matrix_Pick: function 45 -/
mutual
def matrix_Pick.j0 : Nat → List Int → Bool → Int → Int → List Int → Option (Int × Int × List Int × Int)
  | 0, _, _, _, _, _ => none
  | k + 1, x1, x23, x228000, x228001, x228002 => if x23 = true then (none) else (matrix_Pick.l0 k x1 (x1.length : Int) 0 x228000 x228001 x228002 (x1.length : Int) x228001 ([] : List Int))
def matrix_Pick.l0 : Nat → List Int → Int → Int → Int → Int → List Int → Int → Int → List Int → Option (Int × Int × List Int × Int)
  | 0, _, _, _, _, _, _, _, _, _ => none
  | k + 1, x30, x31, x32, x228000, x228001, x228002, x231000, x231001, x231002 => if x32 < x31 then (if 0 ≤ x32 then (if x32 < (x30.length : Int) then (if (rd x30 x32) < 0 then (none) else (if (rd x30 x32) ≥ x228000 then (none) else (if 0 ≤ (wrap64 ((rd x30 x32) * x228001)) then (if (wrap64 ((rd x30 x32) * x228001)) ≤ (wrap64 ((wrap64 ((rd x30 x32) + 1)) * x228001)) then (if (wrap64 ((wrap64 ((rd x30 x32) + 1)) * x228001)) ≤ (x228002.length : Int) then (if x231002.length + ((x228002.take ((wrap64 ((wrap64 ((rd x30 x32) + 1)) * x228001)) : Int).toNat).drop ((wrap64 ((rd x30 x32) * x228001)) : Int).toNat).length < 17592186044416 then (matrix_Pick.l0 k x30 x31 (wrap64 (x32 + 1)) x228000 x228001 x228002 x231000 x231001 (x231002 ++ ((x228002.take ((wrap64 ((wrap64 ((rd x30 x32) + 1)) * x228001)) : Int).toNat).drop ((wrap64 ((rd x30 x32) * x228001)) : Int).toNat))) else (none)) else (none)) else (none)) else (none)))) else (none)) else (none)) else (some (x231000, x231001, x231002, 0))
end
def matrix_Pick.f (k : Nat) (a0_0 : Int) (a0_1 : Int) (l0_2 : List Int) (l1 : List Int) : Option (Int × Int × List Int × Int) := (matrix_Check.f k a0_0 a0_1 l0_2).bind fun t229 => (if t229 = 0 then (if (l1.length : Int) < 1 then (matrix_Pick.j0 k l1 true a0_0 a0_1 l0_2) else (matrix_Pick.j0 k l1 (decide ((l1.length : Int) > 16)) a0_0 a0_1 l0_2)) else (none))
theorem matrix_Pick.mono_l : ∀ k, (∀ y0 y1 y2 y3 y4, LeO (matrix_Pick.j0 k y0 y1 y2 y3 y4) (matrix_Pick.j0 (k + 1) y0 y1 y2 y3 y4)) ∧ (∀ y0 y1 y2 y3 y4 y5 y6 y7 y8, LeO (matrix_Pick.l0 k y0 y1 y2 y3 y4 y5 y6 y7 y8) (matrix_Pick.l0 (k + 1) y0 y1 y2 y3 y4 y5 y6 y7 y8))
  | 0 => ⟨fun _ _ _ _ _ r h => by simp [matrix_Pick.j0] at h, fun _ _ _ _ _ _ _ _ _ r h => by simp [matrix_Pick.l0] at h⟩
  | k + 1 => by
    obtain ⟨ih0, ih1⟩ := matrix_Pick.mono_l k
    refine ⟨?_, ?_⟩
    · intro y0 y1 y2 y3 y4
      unfold matrix_Pick.j0
      repeat' first | (with_reducible exact ih1 _ _ _ _ _ _ _ _ _) | (with_reducible exact LeO.refl _) | (with_reducible refine LeO.ite ?_ ?_)
    · intro y0 y1 y2 y3 y4 y5 y6 y7 y8
      unfold matrix_Pick.l0
      repeat' first | (with_reducible exact ih1 _ _ _ _ _ _ _ _ _) | (with_reducible exact LeO.refl _) | (with_reducible refine LeO.ite ?_ ?_)
theorem matrix_Pick.mono : ∀ a0 a1 a2 a3 k, LeO (matrix_Pick.f k a0 a1 a2 a3) (matrix_Pick.f (k + 1) a0 a1 a2 a3) := by
  intro a0 a1 a2 a3 k
  obtain ⟨ih0, ih1⟩ := matrix_Pick.mono_l k
  unfold matrix_Pick.f
  repeat' first | (with_reducible exact ih0 _ _ _ _ _) | (with_reducible exact matrix_Check.mono _ _ _ _) | (with_reducible exact LeO.refl _) | (with_reducible refine LeO.ite ?_ ?_) | (with_reducible refine LeO.bind ?_ (fun _ => ?_))
def matrix_Pick.T12 : Bool × List (List Nat × List Nat) := (true, [([], []), ([0], [0]), ([], []), ([2], [2]), ([], []), ([], []), ([5], [5]), ([4, 6], [4, 6]), ([], []), ([8], [8]), ([], []), ([10], [10]), ([9, 11], [9, 11]), ([3, 7, 12], [3, 7, 12]), ([1, 13], [1, 13]), ([0, 1, 2, 3, 4, 5, 6, 7, 8, 9, 10, 11, 12, 13, 14], []), ([15, 14, 14, 0, 1, 2, 3, 4, 5, 6, 7, 8, 9, 10, 11, 12, 13, 14], [14, 15])])
def matrix_Pick.B12 : List Nat := [0, 1, 0, 4, 0, 0, 32, 112, 0, 256, 0, 1024, 3840, 8188, 16383, 32767, 65535]
theorem matrix_Pick.tab12 : rtab .any (opsOf Try.f45 12) = matrix_Pick.T12 := by kernel_rfl
theorem matrix_Pick.bits12 : waitsOk matrix_Pick.T12.2 matrix_Pick.B12 = true := by kernel_rfl
set_option maxHeartbeats 8000000 in
set_option maxRecDepth 100000 in
theorem matrix_Pick.calls (k : Nat) (a0_0 : Int) (a0_1 : Int) (A0_2 : Option Addr) (c0_2 : Nat) (l0_2 : List Int) (A1 : Option Addr) (c1 : Nat) (l1 : List Int) (r1 : Int) (r2 : Int) (r3 : List Int) (r4 : Int) (w : World) (hr0_2 : Kd.C (Kd.int .i64) w A0_2 l0_2.length l0_2) (hc0_2 : l0_2.length ≤ c0_2) (hr1 : Kd.C (Kd.int .i64) w A1 l1.length l1) (hc1 : l1.length ≤ c1) (h : matrix_Pick.f k a0_0 a0_1 l0_2 l1 = some (r1, r2, r3, r4)) :
    Calls Try.prog 45 #[.agg #[.int .i64 a0_0, .int .i64 a0_1, .slice A0_2 l0_2.length c0_2], .slice A1 l1.length c1] w fun e w' => ∃ v2_ : Value, e = .returned (.tuple #[.agg #[.int .i64 r1, .int .i64 r2, v2_], .int .i64 r4]) ∧ Kd.R (Kd.int .i64) 3 w' w.heap.size (fun _ => True) v2_ r3 ∧ Below w.heap.size w w' := by
  have hu79 := Try.underlying79
  have HR0_2 := Aside0.mk hr0_2
  have HC0_2 := Aside0.mk hc0_2
  clear hr0_2 hc0_2
  have HR1 := Aside0.mk hr1
  have HC1 := Aside0.mk hc1
  clear hr1 hc1
  have HB := Aside0.mk (Below.refl w.heap.size w)
  have H : ((matrix_Check.f k a0_0 a0_1 l0_2).bind fun t229 => (if t229 = 0 then (if (l1.length : Int) < 1 then (matrix_Pick.j0 k l1 true a0_0 a0_1 l0_2) else (matrix_Pick.j0 k l1 (decide ((l1.length : Int) > 16)) a0_0 a0_1 l0_2)) else (none))) = some (r1, r2, r3, r4) := h
  clear h
  replace H := Option.bind_eq_some_iff.mp H
  obtain ⟨t229, A30, H⟩ := H
  replace H : (if t229 = 0 then (if (l1.length : Int) < 1 then (matrix_Pick.j0 k l1 true a0_0 a0_1 l0_2) else (matrix_Pick.j0 k l1 (decide ((l1.length : Int) > 16)) a0_0 a0_1 l0_2)) else (none)) = some (r1, r2, r3, r4) := H
  have A3 := Aside0.mk A30
  clear A30
  by_cases c4 : t229 = 0
  · rw [if_pos c4] at H
    have c4b0 : (t229 == 0) = true := beq_iff_eq.mpr c4
    have c4b1 : (t229 != 0) = false := bne_eq_false_iff_eq.mpr c4
    clear c4
    have HC5 := Aside0.mk H
    clear H
    go_enter Try.func45, Try.ntmps45
    go_upto_region 4 with (first | ((with_reducible refine gate_dst (N := 2) rfl ?_); ((refine gate_guard (by rfl) ?_; dsimp only)); refine box_event ?hg (N := 2) ?hd (cs := #[.int .i64 a0_0, .int .i64 a0_1, .slice A0_2 l0_2.length c0_2]) (t := 79) ?hr ?_; (case hd => rfl); (case hg => rfl); (case hr => (go_simp; done)); intro gb227 hg w6 hbox hb; have n0_ := Aside0.mk (below_step HB.out hb); have n1_ := Aside0.mk (hbox); have n2_ := Aside0.mk ((by rw [hg]; exact (below_size HB.out) : w.heap.size ≤ gb227)); have n3_ := Aside0.mk ((by rw [hg]; exact (below_size HB.out) : w.heap.size ≤ gb227)); clear HB; have HB := n0_; have BK227 := n1_; have GW227 := n2_; have GE227 := n3_; clear n0_ n1_ n2_ n3_; clear hb hbox hg) | ((with_reducible refine gate_dst (N := 4) rfl ?_); ((refine gate_guard (by rfl) ?_; dsimp only)); refine box_event ?hg (N := 4) ?hd (cs := #[.int .i64 0, .int .i64 0, .slice none 0 0]) (t := 79) ?hr ?_; (case hd => rfl); (case hg => rfl); (case hr => (go_simp; done)); intro gb228 hg w7 hbox hb; have n0_ := Aside0.mk (blk_below (g := gb227) (o := .cells #[.int .i64 a0_0, .int .i64 a0_1, .slice A0_2 l0_2.length c0_2] 79 (0, 0)) (by exact BK227.out) hb); have n1_ := Aside0.mk (below_step HB.out hb); have n2_ := Aside0.mk (hbox); have n3_ := Aside0.mk ((by rw [hg]; exact (below_size HB.out) : w.heap.size ≤ gb228)); have n4_ := Aside0.mk ((by rw [hg]; exact (below_size HB.out) : w.heap.size ≤ gb228)); have n5_ := Aside0.mk ((by rw [hg]; exact Nat.ne_of_lt (blk_lt (g := gb227) (o := .cells #[.int .i64 a0_0, .int .i64 a0_1, .slice A0_2 l0_2.length c0_2] 79 (0, 0)) (by exact BK227.out)) : gb227 ≠ gb228)); have n6_ := Aside0.mk ((by rw [hg]; exact Nat.ne_of_gt (blk_lt (g := gb227) (o := .cells #[.int .i64 a0_0, .int .i64 a0_1, .slice A0_2 l0_2.length c0_2] 79 (0, 0)) (by exact BK227.out)) : gb228 ≠ gb227)); clear BK227 HB; have BK227 := n0_; have HB := n1_; have BK228 := n2_; have GW228 := n3_; have GE228 := n4_; have NB227_228 := n5_; have NB228_227 := n6_; clear n0_ n1_ n2_ n3_ n4_ n5_ n6_; clear hb hbox hg; have hnb8 := NB227_228.out; have hnc8 := NB228_227.out; have hcz9_0 : w7.cell? ⟨gb227, 0, none⟩ = some (.int .i64 a0_0) := (blk_cell BK227.out 0).trans rfl; have hcz9_1 : w7.cell? ⟨gb227, 1, none⟩ = some (.int .i64 a0_1) := (blk_cell BK227.out 1).trans rfl; have hcz9_2 : w7.cell? ⟨gb227, 2, none⟩ = some (.slice A0_2 l0_2.length c0_2) := (blk_cell BK227.out 2).trans rfl; have hfz9_0 := blk_frozen BK227.out 0; have hfz9_1 := blk_frozen BK227.out 1; have hfz9_2 := blk_frozen BK227.out 2) | ((with_reducible refine gate_callee (f := 63) rfl ?_); refine goesL_ (some 11) rfl rfl Try.func63 (by kernel_rfl) rfl #[.agg #[.int .i64 a0_0, .int .i64 a0_1, .slice A0_2 l0_2.length c0_2]] rfl (by ((simp only [List.map_toArray, List.map_cons, List.map_nil])); (rfl)) ?_; (with_reducible refine (matrix_Check.calls k a0_0 a0_1 _ _ l0_2 t229 _ ?side1 ?side2 A3.out).mono ?_); (case side1 => repeat ((exact (Kd.C_below HR0_2.out HB.out)))); (case side2 => exact HC0_2.out); rintro e w10 ⟨rfl, hb⟩; refine ⟨_, rfl, ?_⟩; have n0_ := Aside0.mk (blk_below (g := gb227) (o := .cells #[.int .i64 a0_0, .int .i64 a0_1, .slice A0_2 l0_2.length c0_2] 79 (0, 0)) (by exact BK227.out) hb); have n1_ := Aside0.mk (blk_below (g := gb228) (o := .cells #[.int .i64 0, .int .i64 0, .slice none 0 0] 79 (0, 0)) (by exact BK228.out) hb); have n2_ := Aside0.mk (below_step HB.out hb); clear BK227 BK228 HB; have BK227 := n0_; have BK228 := n1_; have HB := n2_; clear n0_ n1_ n2_; clear hb))
    go_cut [23] (fun v23 wc => ∃ (kq : Nat) (x23_4 : Bool), v23 = .bool x23_4 ∧ Aside0 (matrix_Pick.j0 kq l1 x23_4 a0_0 a0_1 l0_2 = some (r1, r2, r3, r4)) ∧ Aside0 (kq ≤ k) ∧ Aside0 (wc.heap[gb227]? = some (.cells #[.int .i64 a0_0, .int .i64 a0_1, (.slice A0_2 l0_2.length c0_2)] 79 (0, 0))) ∧ Aside0 (wc.heap[gb228]? = some (.cells #[.int .i64 0, .int .i64 0, (.slice none 0 0)] 79 (0, 0))) ∧ Aside0 (Below w.heap.size w wc))
    case first =>
      have H := HC5.out
      clear HC5
      by_cases c11 : (l1.length : Int) < 1
      · rw [if_pos c11] at H
        have c11b0 : decide ((l1.length : Int) < 1) = true := decide_eq_true c11
        have c11b1 : decide (l1.length < 1) = true := decide_eq_true (by omega)
        clear c11
        ((skip))
        have H' := Aside0.mk H
        clear H
        go_wp2
        go_meet
        case rel => exact ⟨_, (true), (by (rfl)), H', ⟨by (omega)⟩, ⟨by exact BK227.out⟩, ⟨by exact BK228.out⟩, ⟨HB.out⟩⟩
      · rw [if_neg c11] at H
        have c11b0 : decide ((l1.length : Int) < 1) = false := decide_eq_false c11
        have c11b1 : decide (l1.length < 1) = false := decide_eq_false (by omega)
        clear c11
        ((skip))
        have H' := Aside0.mk H
        clear H
        go_wp2
        go_meet
        case rel => exact ⟨_, (decide ((l1.length : Int) > 16)), (by (rfl)), H', ⟨by (omega)⟩, ⟨by exact BK227.out⟩, ⟨by exact BK228.out⟩, ⟨HB.out⟩⟩
    case rest =>
      clear HC5 c4b0 c4b1 hcz9_0 hcz9_1 hcz9_2 hfz9_0 hfz9_1 hfz9_2
      obtain ⟨kq, x23_4, rfl, HA, HJ4, BK227, BK228, HB⟩ := hcut
      cases kq with
      | zero => exact absurd HA.out (by simp [matrix_Pick.j0])
      | succ kj4 =>
        have H := HA.out
        clear HA
        simp only [matrix_Pick.j0] at H
        by_cases c12 : x23_4 = true
        · subst c12
          have H1 : (none) = some (r1, r2, r3, r4) := by rw [if_pos rfl] at H; exact H
          clear H
          have H := H1
          clear H1
          exact absurd H (by simp)
        · replace c12 := Bool.eq_false_iff.mpr c12
          subst c12
          have H1 : (matrix_Pick.l0 kj4 l1 (l1.length : Int) 0 a0_0 a0_1 l0_2 (l1.length : Int) a0_1 ([] : List Int)) = some (r1, r2, r3, r4) := by rw [if_neg (show ¬ (false = true) by decide)] at H; exact H
          clear H
          have H := H1
          clear H1
          have H' := Aside0.mk H
          clear H
          have hnb13 := NB227_228.out
          have hnc13 := NB228_227.out
          have hcz14_0 : wc.cell? ⟨gb227, 0, none⟩ = some (.int .i64 a0_0) := (blk_cell BK227.out 0).trans rfl
          have hcz14_1 : wc.cell? ⟨gb227, 1, none⟩ = some (.int .i64 a0_1) := (blk_cell BK227.out 1).trans rfl
          have hcz14_2 : wc.cell? ⟨gb227, 2, none⟩ = some (.slice A0_2 l0_2.length c0_2) := (blk_cell BK227.out 2).trans rfl
          have hfz14_0 := blk_frozen BK227.out 0
          have hfz14_1 := blk_frozen BK227.out 1
          have hfz14_2 := blk_frozen BK227.out 2
          go_wp2_with (((with_reducible refine gate_dst (N := 7) rfl ?_); ((refine gate_guard (by rfl) ?_; dsimp only)); refine box_event ?hg (N := 7) ?hd (cs := #[.int .i64 0, .int .i64 0, .slice none 0 0]) (t := 79) ?hr ?_; (case hd => rfl); (case hg => rfl); (case hr => (go_simp; done)); intro gb230 hg w15 hbox hb; have n0_ := Aside0.mk (blk_below (g := gb227) (o := .cells #[.int .i64 a0_0, .int .i64 a0_1, .slice A0_2 l0_2.length c0_2] 79 (0, 0)) (by exact BK227.out) hb); have n1_ := Aside0.mk (blk_below (g := gb228) (o := .cells #[.int .i64 0, .int .i64 0, .slice none 0 0] 79 (0, 0)) (by exact BK228.out) hb); have n2_ := Aside0.mk (below_step HB.out hb); have n3_ := Aside0.mk (hbox); have n4_ := Aside0.mk ((by rw [hg]; exact (below_size HB.out) : w.heap.size ≤ gb230)); have n5_ := Aside0.mk ((by rw [hg]; exact (below_size HB.out) : w.heap.size ≤ gb230)); have n6_ := Aside0.mk ((by rw [hg]; exact Nat.ne_of_lt (blk_lt (g := gb227) (o := .cells #[.int .i64 a0_0, .int .i64 a0_1, .slice A0_2 l0_2.length c0_2] 79 (0, 0)) (by exact BK227.out)) : gb227 ≠ gb230)); have n7_ := Aside0.mk ((by rw [hg]; exact Nat.ne_of_gt (blk_lt (g := gb227) (o := .cells #[.int .i64 a0_0, .int .i64 a0_1, .slice A0_2 l0_2.length c0_2] 79 (0, 0)) (by exact BK227.out)) : gb230 ≠ gb227)); have n8_ := Aside0.mk ((by rw [hg]; exact Nat.ne_of_lt (blk_lt (g := gb228) (o := .cells #[.int .i64 0, .int .i64 0, .slice none 0 0] 79 (0, 0)) (by exact BK228.out)) : gb228 ≠ gb230)); have n9_ := Aside0.mk ((by rw [hg]; exact Nat.ne_of_gt (blk_lt (g := gb228) (o := .cells #[.int .i64 0, .int .i64 0, .slice none 0 0] 79 (0, 0)) (by exact BK228.out)) : gb230 ≠ gb228)); clear BK227 BK228 HB; have BK227 := n0_; have BK228 := n1_; have HB := n2_; have BK230 := n3_; have GW230 := n4_; have GE230 := n5_; have NB227_230 := n6_; have NB230_227 := n7_; have NB228_230 := n8_; have NB230_228 := n9_; clear n0_ n1_ n2_ n3_ n4_ n5_ n6_ n7_ n8_ n9_; clear hb hbox hg; have hnb16 := NB230_227.out; have hnc16 := NB227_230.out; have hnb17 := NB230_228.out; have hnc17 := NB228_230.out; have hcz18_0 : w15.cell? ⟨gb230, 0, none⟩ = some (.int .i64 0) := (blk_cell BK230.out 0).trans rfl; have hcz18_1 : w15.cell? ⟨gb230, 1, none⟩ = some (.int .i64 0) := (blk_cell BK230.out 1).trans rfl; have hcz18_2 : w15.cell? ⟨gb230, 2, none⟩ = some (.slice none 0 0) := (blk_cell BK230.out 2).trans rfl; have hfz18_0 := blk_frozen BK230.out 0; have hfz18_1 := blk_frozen BK230.out 1; have hfz18_2 := blk_frozen BK230.out 2))
          go_loopg [32] kj4 (fun kq v32 w' => ∃ (x32_2 : Int) (x229000_2 : Int) (x229001_2 : Int) (x231002_2 : List Int) (u231002 : Value), v32 = .int .i64 x32_2 ∧ Aside0 (matrix_Pick.l0 kq l1 (l1.length : Int) x32_2 a0_0 a0_1 l0_2 (l1.length : Int) a0_1 x231002_2 = some (r1, r2, r3, r4)) ∧ Aside0 (kq ≤ kj4) ∧ Aside0 (Kd.R (Kd.int .i64) 3 w' w.heap.size (fun _ => True) u231002 x231002_2) ∧ Aside0 (w'.heap[gb227]? = some (.cells #[.int .i64 a0_0, .int .i64 a0_1, (.slice A0_2 l0_2.length c0_2)] 79 (0, 0))) ∧ Aside0 (w'.heap[gb228]? = some (.cells #[.int .i64 x229000_2, .int .i64 x229001_2, (.slice none 0 0)] 79 (0, 0))) ∧ Aside0 (w'.heap[gb230]? = some (.cells #[.int .i64 (l1.length : Int), .int .i64 a0_1, u231002] 79 (0, 0))) ∧ Aside0 (Below w.heap.size w w'))
          case atStart => exact ⟨(0), (0), (0), (([] : List Int)), (.slice none 0 0), (by (rfl)), H', ⟨Nat.le_refl _⟩, ⟨by (exact Kd.R_nil _ _ _ _ _)⟩, ⟨by refine blk_far ?_ NB227_230.out _; refine blk_far ?_ NB227_230.out _; refine blk_far ?_ NB227_230.out _; exact BK227.out⟩, ⟨by refine blk_far ?_ NB228_230.out _; refine blk_far ?_ NB228_230.out _; refine blk_far ?_ NB228_230.out _; exact BK228.out⟩, ⟨by refine blk_put (cs := #[.int .i64 (l1.length : Int), .int .i64 a0_1, .slice none 0 0]) ?_ 2 _ rfl; refine blk_put (cs := #[.int .i64 (l1.length : Int), .int .i64 0, .slice none 0 0]) ?_ 1 _ rfl; refine blk_put (cs := #[.int .i64 0, .int .i64 0, .slice none 0 0]) ?_ 0 _ rfl; exact BK230.out⟩, ⟨by repeat ((with_reducible first | exact HB.out | refine below_set ?_ GE230.out))⟩⟩
          case round =>
            clear H'
            clear hcz14_0 hcz14_1 hcz14_2 hcz18_0 hcz18_1 hcz18_2 hfz14_0 hfz14_1 hfz14_2 hfz18_0 hfz18_1 hfz18_2
            obtain ⟨x32_2, x229000_2, x229001_2, x231002_2, u231002, rfl, HA, HK2, HO_231002, BK227, BK228, BK230, HB⟩ := hrel
            cases gk with
            | zero => exact absurd HA.out (by simp [matrix_Pick.l0])
            | succ k2 =>
              have H := HA.out
              clear HA
              simp only [matrix_Pick.l0] at H
              by_cases c19 : x32_2 < (l1.length : Int)
              · rw [if_pos c19] at H
                have c19b0 : decide (x32_2 < (l1.length : Int)) = true := decide_eq_true c19
                clear c19
                by_cases c20 : 0 ≤ x32_2
                · rw [if_pos c20] at H
                  have c20b0 : decide (0 ≤ x32_2) = true := decide_eq_true c20
                  clear c20
                  by_cases c21 : x32_2 < (l1.length : Int)
                  · rw [if_pos c21] at H
                    have c21b0 : decide (x32_2 < (l1.length : Int)) = true := decide_eq_true c21
                    clear c21
                    by_cases c22 : (rd l1 x32_2) < 0
                    · rw [if_pos c22] at H
                      have c22b0 : decide ((rd l1 x32_2) < 0) = true := decide_eq_true c22
                      clear c22
                      exact absurd H (by simp)
                    · rw [if_neg c22] at H
                      have c22b0 : decide ((rd l1 x32_2) < 0) = false := decide_eq_false c22
                      clear c22
                      by_cases c23 : (rd l1 x32_2) ≥ a0_0
                      · rw [if_pos c23] at H
                        have c23b0 : decide (a0_0 ≤ (rd l1 x32_2)) = true := decide_eq_true c23
                        clear c23
                        exact absurd H (by simp)
                      · rw [if_neg c23] at H
                        have c23b0 : decide (a0_0 ≤ (rd l1 x32_2)) = false := decide_eq_false c23
                        clear c23
                        obtain ⟨ji24, hji24⟩ : ∃ j_ : Int, (wrap64 ((rd l1 x32_2) * a0_1)) = j_ := ⟨_, rfl⟩
                        replace H : (if 0 ≤ (ji24) then (if (ji24) ≤ (wrap64 ((wrap64 ((rd l1 x32_2) + 1)) * a0_1)) then (if (wrap64 ((wrap64 ((rd l1 x32_2) + 1)) * a0_1)) ≤ (l0_2.length : Int) then (if x231002_2.length + ((l0_2.take ((wrap64 ((wrap64 ((rd l1 x32_2) + 1)) * a0_1)) : Int).toNat).drop ((ji24) : Int).toNat).length < 17592186044416 then (matrix_Pick.l0 k2 l1 (l1.length : Int) (wrap64 (x32_2 + 1)) a0_0 a0_1 l0_2 (l1.length : Int) a0_1 (x231002_2 ++ ((l0_2.take ((wrap64 ((wrap64 ((rd l1 x32_2) + 1)) * a0_1)) : Int).toNat).drop ((ji24) : Int).toNat))) else (none)) else (none)) else (none)) else (none)) = some (r1, r2, r3, r4) := by (rw [hji24] at H; exact H)
                        have hji24w : (IntKind.i64.wrap ((rd l1 x32_2) * a0_1)) = ji24 := (i64_w _).trans hji24
                        by_cases c25 : 0 ≤ (ji24)
                        · rw [if_pos c25] at H
                          have c25b0 := eq_true c25
                          have c25b1 : decide (0 ≤ (ji24)) = true := decide_eq_true c25
                          clear c25
                          by_cases c26 : (ji24) ≤ (wrap64 ((wrap64 ((rd l1 x32_2) + 1)) * a0_1))
                          · rw [if_pos c26] at H
                            have c26b0 := eq_true c26
                            have c26b1 : decide ((ji24) ≤ (wrap64 ((wrap64 ((rd l1 x32_2) + 1)) * a0_1))) = true := decide_eq_true c26
                            by_cases c27 : (wrap64 ((wrap64 ((rd l1 x32_2) + 1)) * a0_1)) ≤ (l0_2.length : Int)
                            · rw [if_pos c27] at H
                              have c27b0 := eq_true c27
                              have c27b1 : decide ((wrap64 ((wrap64 ((rd l1 x32_2) + 1)) * a0_1)) ≤ (l0_2.length : Int)) = true := decide_eq_true c27
                              by_cases c28 : x231002_2.length + ((l0_2.take ((wrap64 ((wrap64 ((rd l1 x32_2) + 1)) * a0_1)) : Int).toNat).drop ((ji24) : Int).toNat).length < 17592186044416
                              · rw [if_pos c28] at H
                                have LMc28 := Aside0.mk c28
                                clear c28
                                obtain ⟨y233, hy233⟩ : ∃ y_ : List Int, y_ = (x231002_2 ++ ((l0_2.take ((wrap64 ((wrap64 ((rd l1 x32_2) + 1)) * a0_1)) : Int).toNat).drop ((ji24) : Int).toNat)) := ⟨_, rfl⟩
                                replace H : (matrix_Pick.l0 k2 l1 (l1.length : Int) (wrap64 (x32_2 + 1)) a0_0 a0_1 l0_2 (l1.length : Int) a0_1 y233) = some (r1, r2, r3, r4) := by (rw [hy233]; with_reducible exact H)
                                have Ny233 := Aside0.mk hy233
                                clear hy233
                                have H' := Aside0.mk H
                                clear H
                                have p231 : 0 ≤ (x32_2 : Int) := of_decide_eq_true (by (with_reducible assumption))
                                have q231 : x32_2 < (l1.length : Int) := of_decide_eq_true (by (with_reducible assumption))
                                obtain ⟨ad231, e231, hx231_0⟩ := Kd.at_int HR1.out x32_2 p231 q231
                                cases e231
                                replace hx231_0 := (HB.out.cell (World.block_lt_of_cell? w _ hx231_0)).trans hx231_0
                                replace p231 := eq_true p231
                                replace q231 := eq_true q231
                                have hnb29 := NB227_228.out
                                have hnc29 := NB228_227.out
                                have hnb30 := NB227_230.out
                                have hnc30 := NB230_227.out
                                have hcz31_0 : wr.cell? ⟨gb227, 0, none⟩ = some (.int .i64 a0_0) := (blk_cell BK227.out 0).trans rfl
                                have hcz31_1 : wr.cell? ⟨gb227, 1, none⟩ = some (.int .i64 a0_1) := (blk_cell BK227.out 1).trans rfl
                                have hcz31_2 : wr.cell? ⟨gb227, 2, none⟩ = some (.slice A0_2 l0_2.length c0_2) := (blk_cell BK227.out 2).trans rfl
                                have hfz31_0 := blk_frozen BK227.out 0
                                have hfz31_1 := blk_frozen BK227.out 1
                                have hfz31_2 := blk_frozen BK227.out 2
                                (go_wp2)
                                have n0_ := Aside0.mk (Kd.R_drew HO_231002.out)
                                have n1_ := Aside0.mk (blk_drew BK227.out)
                                have n2_ := Aside0.mk (blk_drew BK228.out)
                                have n3_ := Aside0.mk (blk_drew BK230.out)
                                have n4_ := Aside0.mk (below_drew1 HB.out)
                                clear HO_231002 BK227 BK228 BK230 HB
                                have HO_231002 := n0_
                                have BK227 := n1_
                                have BK228 := n2_
                                have BK230 := n3_
                                have HB := n4_
                                clear n0_ n1_ n2_ n3_ n4_
                                obtain ⟨i033, hi033, _, hsz33, _⟩ := info_parts info3
                                obtain ⟨A33, hcut33, hA33, hC33⟩ := print_mid_of (P := Try.prog) (Value.int .i64) 0 22 3 .i64 .i64 Try.underlying22 hi033 hsz33 A0_2 c0_2 l0_2 (ji24) (wrap64 ((wrap64 ((rd l1 x32_2) + 1)) * a0_1)) (of_decide_eq_true (by (with_reducible assumption))) (by (omega)) (of_decide_eq_true (by (with_reducible assumption))) HC0_2.out
                                have HR232 := Aside0.mk (Kd.C_of_reads (h1 := fun _ => rfl) (hA33 _ (Kd.reads_of_C HR0_2.out)))
                                have HC232 := Aside0.mk hC33
                                clear hA33 hC33 hi033 hsz33
                                refine start_ (n := 17) (S := fun w' => w'.cell? ⟨gb230, 0, none⟩ = some (.int .i64 (l1.length : Int)) ∧ w'.cell? ⟨gb230, 1, none⟩ = some (.int .i64 a0_1) ∧ w'.cell? ⟨gb230, 2, none⟩ = some (u231002) ∧ w'.cell? ⟨gb227, 0, none⟩ = some (.int .i64 a0_0) ∧ w'.cell? ⟨gb227, 1, none⟩ = some (.int .i64 a0_1) ∧ w'.cell? ⟨gb227, 2, none⟩ = some (.slice A0_2 l0_2.length c0_2)) (ds := [16]) #[false, false, false, false, false, false, false, false, false, false, false, false, false, false, false, false, false] (by kernel_rfl) rfl rfl ⟨(blk_cell BK230.out 0).trans rfl, (blk_cell BK230.out 1).trans rfl, (blk_cell BK230.out 2).trans rfl, (blk_cell BK227.out 0).trans rfl, (blk_cell BK227.out 1).trans rfl, (blk_cell BK227.out 2).trans rfl⟩ (fun hHeld => ?_); refine with_tabW matrix_Pick.tab12 matrix_Pick.bits12 (fun HT_ HW_ => ?_)
                                generalize wr.drew = w32 at HO_231002 BK227 BK228 BK230 HB HR232 hHeld ⊢
                                refine pure_ (i := 0) (N := some 45) (v := ?_) (a' := ?_) #[true, false, false, false, false, false, false, false, false, false, false, false, false, false, false, false, false] rfl rfl (any_of HT_.out (by kernel_rfl)) (fun _ _ _ h => h) (Or.inl ⟨by rfl, ?_⟩) ?_ ?_
                                rotate_left
                                · intro w'
                                  go_simp
                                  with_reducible rfl
                                rotate_left
                                · simp only [Act.put, List.setIfInBounds_toArray, List.set_cons_zero, List.set_cons_succ, i64_w, i32_w]
                                  rfl
                                refine pure_ (i := 2) (N := some 47) (v := ?_) (a' := ?_) #[true, false, true, false, false, false, false, false, false, false, false, false, false, false, false, false, false] rfl rfl (any_of HT_.out (by kernel_rfl)) (fun _ _ _ h => h) (Or.inl ⟨by rfl, ?_⟩) ?_ ?_
                                rotate_left
                                · intro w'
                                  go_simp
                                  with_reducible rfl
                                rotate_left
                                · simp only [Act.put, List.setIfInBounds_toArray, List.set_cons_zero, List.set_cons_succ, i64_w, i32_w]
                                  rfl
                                refine pure_ (i := 4) (N := some 49) (v := ?_) (a' := ?_) #[true, false, true, false, true, false, false, false, false, false, false, false, false, false, false, false, false] rfl rfl (any_of HT_.out (by kernel_rfl)) (fun _ _ _ h => h) (Or.inl ⟨by rfl, ?_⟩) ?_ ?_
                                rotate_left
                                · intro w'
                                  go_simp
                                  with_reducible rfl
                                rotate_left
                                · simp only [Act.put, List.setIfInBounds_toArray, List.set_cons_zero, List.set_cons_succ, i64_w, i32_w]
                                  rfl
                                refine pure_ (i := 5) (N := some 50) (v := ?_) (a' := ?_) #[true, false, true, false, true, true, false, false, false, false, false, false, false, false, false, false, false] rfl rfl (any_of HT_.out (by kernel_rfl)) (fun _ _ _ h => h) (Or.inl ⟨by rfl, ?_⟩) ?_ ?_
                                rotate_left
                                · intro w'
                                  go_simp
                                  with_reducible rfl
                                rotate_left
                                · simp only [Act.put, List.setIfInBounds_toArray, List.set_cons_zero, List.set_cons_succ, i64_w, i32_w]
                                  rfl
                                refine pure_ (i := 8) (N := some 53) (v := ?_) (a' := ?_) #[true, false, true, false, true, true, false, false, true, false, false, false, false, false, false, false, false] rfl rfl (any_of HT_.out (by kernel_rfl)) (fun _ _ _ h => h) (Or.inl ⟨by rfl, ?_⟩) ?_ ?_
                                rotate_left
                                · intro w'
                                  go_simp
                                  with_reducible rfl
                                rotate_left
                                · simp only [Act.put, List.setIfInBounds_toArray, List.set_cons_zero, List.set_cons_succ, i64_w, i32_w]
                                  rfl
                                refine pure_ (i := 9) (N := some 54) (v := ?_) (a' := ?_) #[true, false, true, false, true, true, false, false, true, true, false, false, false, false, false, false, false] rfl rfl (any_of HT_.out (by kernel_rfl)) (fun _ _ _ h => h) (Or.inl ⟨by rfl, ?_⟩) ?_ ?_
                                rotate_left
                                · intro w'
                                  go_simp
                                  with_reducible rfl
                                rotate_left
                                · simp only [Act.put, List.setIfInBounds_toArray, List.set_cons_zero, List.set_cons_succ, i64_w, i32_w]
                                  rfl
                                refine pure_ (i := 10) (N := some 55) (v := ?_) (a' := ?_) #[true, false, true, false, true, true, false, false, true, true, true, false, false, false, false, false, false] rfl rfl (any_of HT_.out (by kernel_rfl)) (fun _ _ _ h => h) (Or.inl ⟨by rfl, ?_⟩) ?_ ?_
                                rotate_left
                                · intro w'
                                  go_simp
                                  with_reducible rfl
                                rotate_left
                                · simp only [Act.put, List.setIfInBounds_toArray, List.set_cons_zero, List.set_cons_succ, i64_w, i32_w]
                                  rfl
                                refine take_ (i := 1) (N := some 46) (v := ?_) (a' := ?_) #[true, true, true, false, true, true, false, false, true, true, true, false, false, false, false, false, false] rfl rfl (take_ofW HT_.out HW_.out (by kernel_rfl)) (fun _ _ _ h => h) (Or.inl ⟨by rfl, ?_⟩) hHeld ?_ ?_
                                rotate_left
                                · rintro w' ⟨s0, s1, s2, s3, s4, s5⟩
                                  go_simp
                                  with_reducible rfl
                                rotate_left
                                · simp only [Act.put, List.setIfInBounds_toArray, List.set_cons_zero, List.set_cons_succ, i64_w, i32_w]
                                  rfl
                                refine take_ (i := 3) (N := some 48) (v := ?_) (a' := ?_) #[true, true, true, true, true, true, false, false, true, true, true, false, false, false, false, false, false] rfl rfl (take_ofW HT_.out HW_.out (by kernel_rfl)) (fun _ _ _ h => h) (Or.inl ⟨by rfl, ?_⟩) hHeld ?_ ?_
                                rotate_left
                                · rintro w' ⟨s0, s1, s2, s3, s4, s5⟩
                                  go_simp
                                  with_reducible rfl
                                rotate_left
                                · simp only [Act.put, List.setIfInBounds_toArray, List.set_cons_zero, List.set_cons_succ, i64_w, i32_w]
                                  rfl
                                refine take_ (i := 6) (N := some 51) (v := ?_) (a' := ?_) #[true, true, true, true, true, true, true, false, true, true, true, false, false, false, false, false, false] rfl rfl (take_ofW HT_.out HW_.out (by kernel_rfl)) (fun _ _ _ h => h) (Or.inl ⟨by rfl, ?_⟩) hHeld ?_ ?_
                                rotate_left
                                · rintro w' ⟨s0, s1, s2, s3, s4, s5⟩
                                  go_simp
                                  with_reducible rfl
                                rotate_left
                                · simp only [Act.put, List.setIfInBounds_toArray, List.set_cons_zero, List.set_cons_succ, i64_w, i32_w]
                                  rfl
                                refine pure_ (i := 7) (N := some 52) (v := ?_) (a' := ?_) #[true, true, true, true, true, true, true, true, true, true, true, false, false, false, false, false, false] rfl rfl (any_of HT_.out (by kernel_rfl)) (fun _ _ _ h => h) (Or.inl ⟨by rfl, ?_⟩) ?_ ?_
                                rotate_left
                                · intro w'
                                  go_simp
                                  with_reducible rfl
                                rotate_left
                                · simp only [Act.put, List.setIfInBounds_toArray, List.set_cons_zero, List.set_cons_succ, i64_w, i32_w]
                                  rfl
                                refine take_ (i := 11) (N := some 56) (v := ?_) (a' := ?_) #[true, true, true, true, true, true, true, true, true, true, true, true, false, false, false, false, false] rfl rfl (take_ofW HT_.out HW_.out (by kernel_rfl)) (fun _ _ _ h => h) (Or.inl ⟨by rfl, ?_⟩) hHeld ?_ ?_
                                rotate_left
                                · rintro w' ⟨s0, s1, s2, s3, s4, s5⟩
                                  go_simp
                                  with_reducible rfl
                                rotate_left
                                · simp only [Act.put, List.setIfInBounds_toArray, List.set_cons_zero, List.set_cons_succ, i64_w, i32_w]
                                  rfl
                                refine pure_ (i := 12) (N := some 57) (v := ?_) (a' := ?_) #[true, true, true, true, true, true, true, true, true, true, true, true, true, false, false, false, false] rfl rfl (any_of HT_.out (by kernel_rfl)) (fun _ _ _ h => h) (Or.inl ⟨by rfl, ?_⟩) ?_ ?_
                                rotate_left
                                · intro w'
                                  go_simp
                                  with_reducible rfl
                                rotate_left
                                · simp only [Act.put, List.setIfInBounds_toArray, List.set_cons_zero, List.set_cons_succ, i64_w, i32_w]
                                  rfl
                                refine pure_ (i := 13) (N := some 58) (v := ?_) (a' := ?_) #[true, true, true, true, true, true, true, true, true, true, true, true, true, true, false, false, false] rfl rfl (any_of HT_.out (by kernel_rfl)) (fun _ _ _ h => h) (Or.inl ⟨by rfl, ?_⟩) ?_ ?_
                                rotate_left
                                · intro w'
                                  go_simp
                                  with_reducible rfl
                                rotate_left
                                · simp only [Act.put, List.setIfInBounds_toArray, List.set_cons_zero, List.set_cons_succ, i64_w, i32_w]
                                  rfl
                                refine one_ (i := 14) (N := some 59) #[true, true, true, true, true, true, true, true, true, true, true, true, true, true, true, false, false] rfl rfl (one_of HT_.out (by kernel_rfl)) (by decide) (fun K hK => ?_)
                                refine Kd.R_append_rows_step (Kd.int .i64) (w0 := w) w.heap.size (by rfl) (.tmp 46) (.tmp 58) 22 3 (.int .i64 0) 8 rfl Try.underlying22 info3 rfl (by decide) (by omega) u231002 x231002_2 ((l0_2.take ((wrap64 ((wrap64 ((rd l1 x32_2) + 1)) * a0_1)) : Int).toNat).drop ((ji24) : Int).toNat) _ _ _ (fun _ => True) (fun _ => False) rfl rfl ?aO ?aR (fun _ _ h => h) (fun _ h => h.elim) ?aF ?aB ?aS ?aL ?_
                                (case aR => (rw [← show ((l0_2.take ((wrap64 ((wrap64 ((rd l1 x32_2) + 1)) * a0_1)) : Int).toNat).drop ((ji24) : Int).toNat).length = ((wrap64 ((wrap64 ((rd l1 x32_2) + 1)) * a0_1)).toNat - (ji24).toNat) from (by rw [List.length_drop, List.length_take]; have h_ : ((wrap64 ((wrap64 ((rd l1 x32_2) + 1)) * a0_1)) : Int) ≤ (l0_2.length : Int) := of_decide_eq_true (by (with_reducible assumption)); omega)]; repeat ((exact (Kd.C_below HR232.out HB.out)))))
                                (case aB => exact HB.out)
                                (case aF => exact (fun _ _ => trivial))
                                (case aO => exact (by exact HO_231002.out))
                                (case aS => exact (below_size HB.out))
                                (case aL => have := LMc28.out; have hlx_ := (show ((l0_2.take ((wrap64 ((wrap64 ((rd l1 x32_2) + 1)) * a0_1)) : Int).toNat).drop ((ji24) : Int).toNat).length = ((wrap64 ((wrap64 ((rd l1 x32_2) + 1)) * a0_1)).toNat - (ji24).toNat) from (by rw [List.length_drop, List.length_take]; have h_ : ((wrap64 ((wrap64 ((rd l1 x32_2) + 1)) * a0_1)) : Int) ≤ (l0_2.length : Int) := of_decide_eq_true (by (with_reducible assumption)); omega)); omega)
                                intro v234 w34 ho hb hg hat
                                rw [← Ny233.out] at ho
                                have n0_ := Aside0.mk (blk_grown (g := gb227) (o := .cells #[.int .i64 a0_0, .int .i64 a0_1, .slice A0_2 l0_2.length c0_2] 79 (0, 0)) (by exact BK227.out) hg (Kd.R_ne HO_231002.out BK227.out (by decide)))
                                have n1_ := Aside0.mk (blk_grown (g := gb228) (o := .cells #[.int .i64 x229000_2, .int .i64 x229001_2, .slice none 0 0] 79 (0, 0)) (by exact BK228.out) hg (Kd.R_ne HO_231002.out BK228.out (by decide)))
                                have n2_ := Aside0.mk (blk_grown (g := gb230) (o := .cells #[.int .i64 (l1.length : Int), .int .i64 a0_1, u231002] 79 (0, 0)) (by exact BK230.out) hg (Kd.R_ne HO_231002.out BK230.out (by decide)))
                                have n3_ := Aside0.mk (hb)
                                have n4_ := Aside0.mk (ho)
                                clear BK227 BK228 BK230 HB HO_231002
                                have BK227 := n0_
                                have BK228 := n1_
                                have BK230 := n2_
                                have HB := n3_
                                have HO235 := n4_
                                clear n0_ n1_ n2_ n3_ n4_ ho hb hg hat
                                obtain ⟨Ao35, co35, eo35⟩ := Kd.R_slice HO235.out
                                ((subst eo35))
                                refine hK.out _ _ ⟨(blk_cell BK230.out 0).trans rfl, (blk_cell BK230.out 1).trans rfl, (blk_cell BK230.out 2).trans rfl, (blk_cell BK227.out 0).trans rfl, (blk_cell BK227.out 1).trans rfl, (blk_cell BK227.out 2).trans rfl⟩ (fun hHeld => ?_)
                                clear hK K
                                refine norm_ (a' := ?_) ?_ ?_
                                rotate_left
                                · show Act.put _ (some 59) _ = _
                                  simp only [Act.put, List.setIfInBounds_toArray, List.set_cons_zero, List.set_cons_succ, i64_w, i32_w]
                                  rfl
                                refine pure_ (i := 15) (N := some 60) (v := ?_) (a' := ?_) #[true, true, true, true, true, true, true, true, true, true, true, true, true, true, true, true, false] rfl rfl (any_of HT_.out (by kernel_rfl)) (fun _ _ _ h => h) (Or.inl ⟨by rfl, ?_⟩) ?_ ?_
                                rotate_left
                                · intro w'
                                  go_simp
                                  with_reducible rfl
                                rotate_left
                                · simp only [Act.put, List.setIfInBounds_toArray, List.set_cons_zero, List.set_cons_succ, i64_w, i32_w]
                                  rfl
                                refine last_ (i := 16) (N := none) #[true, true, true, true, true, true, true, true, true, true, true, true, true, true, true, true, true] rfl rfl (one_of HT_.out (by kernel_rfl)) (by decide) (fun K hK => ?_)
                                have hs36 : w34.cell? ⟨gb230, 2, none⟩ = some (u231002) := (blk_cell BK230.out 2).trans rfl
                                have hfs36 := blk_frozen BK230.out 2
                                have hns36_0 := NB227_230.out
                                have hns36_1 := NB228_230.out
                                have hms36_0 := NB230_227.out
                                have hms36_1 := NB230_228.out
                                refine skip_ (w1 := ?_) (by rfl) rfl ?_ ?_
                                rotate_left
                                · go_simp
                                  rfl
                                refine hK.out _ _ ?_
                                clear hK K
                                refine done_ (done_of HT_.out (by kernel_rfl)) ?_
                                (go_wp2)
                                go_roundg k2
                                case measure => have := HJ4.out; have := HK2.out; omega
                                case rel => exact ⟨(wrap64 (x32_2 + 1)), (x229000_2), (x229001_2), (y233), (.slice Ao35 y233.length co35), (by (rfl)), H', ⟨by have := HJ4.out; have := HK2.out; omega⟩, ⟨by exact Kd.R_mono (Kd.R_far (p := ⟨gb230, 2, none⟩) (Kd.R_types HO235.out BK230.out (by decide)) (fun _ hk => hk.2) (.slice Ao35 y233.length co35)) (fun _ hk => trivial)⟩, ⟨by refine blk_far ?_ NB227_230.out _; exact BK227.out⟩, ⟨by refine blk_far ?_ NB228_230.out _; exact BK228.out⟩, ⟨by refine blk_put (cs := #[.int .i64 (l1.length : Int), .int .i64 a0_1, u231002]) ?_ 2 _ rfl; exact BK230.out⟩, ⟨by repeat ((with_reducible first | exact HB.out | refine below_set ?_ GE230.out))⟩⟩
                              · rw [if_neg c28] at H
                                exact absurd H (by simp)
                            · rw [if_neg c27] at H
                              exact absurd H (by simp)
                          · rw [if_neg c26] at H
                            exact absurd H (by simp)
                        · rw [if_neg c25] at H
                          exact absurd H (by simp)
                  · rw [if_neg c21] at H
                    exact absurd H (by simp)
                · rw [if_neg c20] at H
                  exact absurd H (by simp)
              · rw [if_neg c19] at H
                have c19b0 : decide (x32_2 < (l1.length : Int)) = false := decide_eq_false c19
                clear c19
                simp only [Option.some.injEq, Prod.mk.injEq] at H
                obtain ⟨rfl, rfl, rfl, rfl⟩ := H
                have hnb37 := NB230_227.out
                have hnc37 := NB227_230.out
                have hnb38 := NB230_228.out
                have hnc38 := NB228_230.out
                have hcz39_0 : wr.cell? ⟨gb230, 0, none⟩ = some (.int .i64 (l1.length : Int)) := (blk_cell BK230.out 0).trans rfl
                have hcz39_1 : wr.cell? ⟨gb230, 1, none⟩ = some (.int .i64 a0_1) := (blk_cell BK230.out 1).trans rfl
                have hcz39_2 : wr.cell? ⟨gb230, 2, none⟩ = some (u231002) := (blk_cell BK230.out 2).trans rfl
                have hfz39_0 := blk_frozen BK230.out 0
                have hfz39_1 := blk_frozen BK230.out 1
                have hfz39_2 := blk_frozen BK230.out 2
                have hnb40 := NB228_227.out
                have hnc40 := NB227_228.out
                have hcz41_0 : wr.cell? ⟨gb228, 0, none⟩ = some (.int .i64 x229000_2) := (blk_cell BK228.out 0).trans rfl
                have hcz41_1 : wr.cell? ⟨gb228, 1, none⟩ = some (.int .i64 x229001_2) := (blk_cell BK228.out 1).trans rfl
                have hcz41_2 : wr.cell? ⟨gb228, 2, none⟩ = some (.slice none 0 0) := (blk_cell BK228.out 2).trans rfl
                have hfz41_0 := blk_frozen BK228.out 0
                have hfz41_1 := blk_frozen BK228.out 1
                have hfz41_2 := blk_frozen BK228.out 2
                obtain ⟨Ao42, co42, eo42⟩ := Kd.R_slice HO_231002.out
                subst eo42
                go_wp2
                refine bodyPost_ret (results_ct rfl _ _ gb228 79 #[.int .i64 (l1.length : Int), .int .i64 a0_1, .slice Ao42 x231002_2.length co42] (0, 0) _ rfl (by refine blk_put (cs := #[.int .i64 (l1.length : Int), .int .i64 a0_1, .slice none 0 0]) ?_ 2 _ rfl; refine blk_put (cs := #[.int .i64 (l1.length : Int), .int .i64 x229001_2, .slice none 0 0]) ?_ 1 _ rfl; refine blk_put (cs := #[.int .i64 x229000_2, .int .i64 x229001_2, .slice none 0 0]) ?_ 0 _ rfl; exact BK228.out) Try.underlying79 rfl (by kernel_rfl)) rfl ?_
                exact ⟨_, by (rfl), by exact Kd.R_mono (Kd.R_far (p := ⟨gb228, 2, none⟩) (Kd.R_far (p := ⟨gb228, 1, none⟩) (Kd.R_far (p := ⟨gb228, 0, none⟩) (Kd.R_types HO_231002.out BK228.out (by decide)) (fun _ hk => hk.2) (.int .i64 (l1.length : Int))) (fun _ hk => hk.2) (.int .i64 a0_1)) (fun _ hk => hk.2) (.slice Ao42 x231002_2.length co42)) (fun _ hk => trivial), by repeat ((with_reducible first | exact HB.out | refine below_set ?_ GE228.out))⟩
  · rw [if_neg c4] at H
    have c4b0 : (t229 == 0) = false := beq_eq_false_iff_ne.mpr c4
    have c4b1 : (t229 != 0) = true := bne_iff_ne.mpr c4
    exact absurd H (by simp)

end Go.Proofs.Ythfddndmhjkeiaa.L
end
section
/- erasure.Decode: the plain part. -/
namespace Go.Proofs.Ythfddndmhjkeiaa.L
open Go.RowKit Go.Proofs.YthfddndmhjkeiaaW.PrintWords Go.Proofs.YthfddndmhjkeiaaW.PrintLast Go.Proofs.YthfddndmhjkeiaaW.PrintMore
set_option linter.unusedVariables false
set_option linter.unusedSimpArgs false

/-- A number of rounds that is enough for all that is at most some thousand long. -/
def KK : Nat := 5000
def decodeTo (cells : List Int) (n : Nat) (parts : List ByteArray) (len : Int) : Nat → Option (List UInt8)
  | 0 => some []
  | i + 1 => (decodeTo cells n parts len i).bind fun b => (erasure_shard.f KK (cut cells n i) parts len).bind fun s => if b.length + s.size ≤ 1000000 then some (b ++ s.data.toList) else none
def usedS (l : List S41) (n : Nat) : List S41 := (sortS l).take n
def erasure_Decode.f (a0_0 a0_1 a1 : Int) (l2 : List S41) : Option (ByteArray × Int) :=
  (erasure_look.f a0_0 a0_1 a1 l2).bind fun t => if t.2 = 0 then
    ((erasure_rowsOf.f KK a0_0 a0_1).bind fun m => (matrix_Pick.f KK m.1 m.2.1 m.2.2 ((usedS l2 a0_0.toNat).map S41.f0)).bind fun p =>
      (matrix_Inverse.f p.1 p.2.1 p.2.2.1).bind fun q => if q.2.2.1.length = a0_0.toNat * a0_0.toNat then
        ((decodeTo q.2.2.1 a0_0.toNat ((usedS l2 a0_0.toNat).map S41.f1) t.1 a0_0.toNat).bind fun b => if a1 ≤ b.length then some ((⟨b.toArray⟩ : ByteArray).extract 0 a1.toNat, 0) else none)
      else none)
  else some (⟨#[]⟩, t.2)

theorem look_in {all len : Int} : ∀ {l : List S41} {seen : Nat → Bool}, lookAt all len l seen = 0 → (∀ s, s ∈ l → 0 ≤ s.f0 ∧ s.f0 < all ∧ (s.f1.size : Int) = len ∧ seen s.f0.toNat = false) ∧ l.Pairwise (fun a b => a.f0 ≠ b.f0)
  | [], seen, h => ⟨fun s hs => absurd hs (by simp), List.Pairwise.nil⟩
  | x :: l, seen, h => by
    unfold lookAt at h
    split at h
    · cases h
    · rename_i h1
      split at h
      · cases h
      · rename_i h2
        split at h
        · cases h
        · rename_i h3
          split at h
          · cases h
          · rename_i h4
            obtain ⟨ha, hb⟩ := look_in h
            have hx : 0 ≤ x.f0 ∧ x.f0 < all ∧ (x.f1.size : Int) = len ∧ seen x.f0.toNat = false := ⟨by omega, by omega, by simpa using h3, by simpa using h4⟩
            refine ⟨fun s hs => ?_, List.pairwise_cons.2 ⟨fun s hs => ?_, hb⟩⟩
            · rcases List.mem_cons.1 hs with rfl | hs
              · exact hx
              · obtain ⟨b1, b2, b3, b4⟩ := ha s hs
                refine ⟨b1, b2, b3, ?_⟩
                by_cases e : s.f0.toNat = x.f0.toNat
                · rw [if_pos e] at b4
                  cases b4
                · rw [if_neg e] at b4
                  exact b4
            · obtain ⟨b1, b2, b3, b4⟩ := ha s hs
              intro e
              rw [if_pos (by rw [e])] at b4
              cases b4
/-- Different numbers below 16 are at most 16. -/
theorem idx_length {l : List S41} (h : Idx l) : l.length ≤ 16 := by
  have hn : (l.map fun s => s.f0.toNat).Nodup := by
    unfold List.Nodup
    rw [List.pairwise_map]
    refine List.Pairwise.imp_of_mem ?_ h.2
    intro a b ha hb hab e
    have h1 := h.1 a ha
    have h2 := h.1 b hb
    omega
  have hs : (l.map fun s => s.f0.toNat) ⊆ List.range 16 := by
    intro x hx
    obtain ⟨s, hs, rfl⟩ := List.mem_map.1 hx
    have := h.1 s hs
    exact List.mem_range.2 (by omega)
  have := hn.length_le_of_subset hs
  simpa using this
theorem look_idx {a0 a1 s len : Int} {l : List S41} (h : erasure_look.f a0 a1 s l = some (len, 0)) : Idx l ∧ 1 ≤ a0 ∧ a0 ≤ a1 ∧ a1 ≤ 16 ∧ 0 ≤ s ∧ (a0 : Int) ≤ l.length ∧ (∀ x, x ∈ l → x.f0 < a1 ∧ (x.f1.size : Int) = len) ∧ erasure_Length.f a0 a1 s = some (len, 0) := by
  unfold erasure_look.f at h
  replace h := Option.bind_eq_some_iff.mp h
  obtain ⟨⟨t1, t2⟩, hL, h⟩ := h
  simp only at h
  split at h
  · rename_i ht
    subst ht
    obtain ⟨g1, g2, g3, g4⟩ := length_all hL
    split at h
    · rename_i hz
      split at h
      · simp at h
      · rename_i hn
        injection h with h
        injection h with h h'
        subst h
        obtain ⟨ha, hb⟩ := look_in hz
        exact ⟨⟨fun x hx => by have := ha x hx; omega, hb⟩, g1, g2, g3, g4, by omega, fun x hx => ⟨(ha x hx).2.1, (ha x hx).2.2.1⟩, hL⟩
    · rename_i hz
      injection h with h
      injection h with h h'
      exact absurd h' hz
  · rename_i ht
    injection h with h
    injection h with h h'
    exact absurd h' ht
theorem decodeTo_succ {cells : List Int} {n : Nat} {parts : List ByteArray} {len : Int} {i : Nat} {b : List UInt8} (h : decodeTo cells n parts len (i + 1) = some b) :
    ∃ b0 s, decodeTo cells n parts len i = some b0 ∧ erasure_shard.f KK (cut cells n i) parts len = some s ∧ b0.length + s.size ≤ 1000000 ∧ b = b0 ++ s.data.toList := by
  unfold decodeTo at h
  replace h := Option.bind_eq_some_iff.mp h
  obtain ⟨b0, h0, h⟩ := h
  replace h := Option.bind_eq_some_iff.mp h
  obtain ⟨s, h1, h⟩ := h
  split at h
  · rename_i h2
    injection h with h
    exact ⟨b0, s, h0, h1, h2, h.symm⟩
  · cases h
theorem decodeTo_upto {cells : List Int} {n : Nat} {parts : List ByteArray} {len : Int} {i : Nat} : ∀ (m : Nat) {b : List UInt8}, decodeTo cells n parts len m = some b → i ≤ m → ∃ b', decodeTo cells n parts len i = some b'
  | 0, b, h, hi => by
    obtain rfl : i = 0 := by omega
    exact ⟨b, h⟩
  | m + 1, b, h, hi => by
    by_cases e : i = m + 1
    · subst e
      exact ⟨b, h⟩
    · obtain ⟨b0, s, h0, _⟩ := decodeTo_succ h
      exact decodeTo_upto m h0 (by omega)
theorem C_cut {W : World} {g n i : Nat} {l : List Int} (h : (Kd.int .i64).C W (some ⟨g, 0, none⟩) l.length l) (hl : l.length = n * n) (hi : i < n) (hn : n ≤ 16) : (Kd.int .i64).C W (some ⟨g, i * n, none⟩) (cut l n i).length (cut l n i) := by
  have hc := cut_length hl hi
  have hb : i * n + n ≤ n * n := by have : (i + 1) * n ≤ n * n := Nat.mul_le_mul_right _ hi; rw [Nat.succ_mul] at this; exact this
  refine ⟨rfl, by omega, fun _ => ⟨_, rfl, fun j p hj => ⟨[.int .i64 p], rfl, rfl, fun q u hu => ?_⟩⟩⟩
  have hjl := (List.getElem?_eq_some_iff.1 hj).1
  have hq : q = 0 := by
    have := (List.getElem?_eq_some_iff.1 hu).1
    simpa using this
  subst hq
  have hu' : Value.int .i64 p = u := by simpa using hu
  subst hu'
  have hcg := cut_getD (l := l) hi (show j < n by omega)
  rw [List.getD_eq_getElem?_getD, hj] at hcg
  obtain ⟨ad, e, hcell⟩ := Kd.at_int h ((i * n + j : Nat) : Int) (by omega) (by omega)
  cases e
  rw [Int.toNat_natCast, add_plain] at hcell
  have e1 : rd l ((i * n + j : Nat) : Int) = p := by
    unfold rd
    rw [Int.toNat_natCast, ← hcg]
    rfl
  rw [e1] at hcell
  have e2 : (⟨g, i * n, none⟩ : Addr).add (j * (Kd.int .i64).sz + 0) = ⟨g, i * n + j, none⟩ := by
    show (⟨g, i * n, none⟩ : Addr).add (j * 1 + 0) = _
    rw [Nat.mul_one, Nat.add_zero]
    unfold Addr.add
    split <;> simp_all
  rw [e2]
  exact hcell
theorem size_alloc' (w : World) (o : Obj) : (w.alloc o).heap.size = w.heap.size + 1 := by simp
theorem blk_new1 (w : World) (A B : Obj) : ((w.alloc A).alloc B).heap[w.heap.size + 1]? = some B := by
  have h := blk_new (w.alloc A) B
  rwa [size_alloc'] at h
theorem blk_new2 (w : World) (A B C : Obj) : (((w.alloc A).alloc B).alloc C).heap[w.heap.size + 2]? = some C := by
  have h := blk_new ((w.alloc A).alloc B) C
  rwa [size_alloc', size_alloc'] at h
theorem grown_box {α : Type} (d : Kd α) (e : Nat) {W w1 : World} (base : Nat) (ok : Nat → Prop) {v : Value} (xs : List α) {g t : Nat} {cells : Array Value} (hg : W.grownBy w1 v.ownBlock) (h : d.R e W base ok v xs) (hb : W.heap[g]? = some (.cells cells t (0, 0))) (ht : e ≠ t) : w1.heap[g]? = some (.cells cells t (0, 0)) := blk_grown hb hg (Kd.R_ne h hb ht)
theorem over_row {α β : Type} (d : Kd α) (d' : Kd β) (e e' : Nat) {W w1 : World} (b : Nat) (ok : Nat → Prop) {u v : Value} (xs : List α) (ys : List β) (hg : W.grownBy w1 v.ownBlock) (h : d.R e W b ok u xs) (hv : d'.R e' W b ok v ys) (ht : ∀ q, q ∈ e :: d.E → q ≠ e') : d.R e w1 b ok u xs := Kd.R_over h hv ht hg
theorem reads_one {α : Type} (enc : α → Value) {W : World} {b : Nat} {T : TypeId} {x : α} (h : W.heap[b]? = some (.cells #[enc x] T (0, 0))) : ReadsRow (fun x cs => cs = [enc x]) 1 W (some ⟨b, 0, none⟩) 1 [x] :=
  ⟨rfl, by decide, fun _ => ⟨_, rfl, fun j p hj => by
    have hj0 : j = 0 := by
      have := (List.getElem?_eq_some_iff.1 hj).1
      simpa using this
    subst hj0
    have hp : x = p := by simpa using hj
    subst hp
    refine ⟨[enc x], rfl, rfl, fun i u hu => ?_⟩
    have hi0 : i = 0 := by
      have := (List.getElem?_eq_some_iff.1 hu).1
      simpa using this
    subst hi0
    have hu' : enc x = u := by simpa using hu
    subst hu'
    exact (blk_cell h 0).trans rfl⟩⟩
theorem mul_w0 {i n : Nat} (hi : i < n) (hn : n ≤ 16) : wrap64 ((i : Int) * (n : Int)) = ((i * n : Nat) : Int) := by
  have h : i * n ≤ 16 * 16 := Nat.mul_le_mul (by omega) hn
  rw [← Int.natCast_mul, w64] <;> omega
theorem mul_w1 {i n : Nat} (hi : i < n) (hn : n ≤ 16) : wrap64 (((i : Int) + 1) * (n : Int)) = (((i + 1) * n : Nat) : Int) := by
  have h : (i + 1) * n ≤ 16 * 16 := Nat.mul_le_mul (by omega) hn
  have e : ((i : Int) + 1) * (n : Int) = (((i + 1) * n : Nat) : Int) := by rw [Int.natCast_mul]; rfl
  rw [e, w64] <;> omega
theorem builder_below {w w1 : World} {B b : Nat} {bs : List Value} (h : Lib.IsBuilder 91 5 B b bs w) (hb : Below w.heap.size w w1) : Lib.IsBuilder 91 5 B b bs w1 := by
  rcases h with ⟨h1, v, h2, h3, h4⟩ | ⟨h1, v, h2, h3, h4⟩
  · exact .inl ⟨h1, v, blk_below h2 hb, pw_own_below h3 hb, h4⟩
  · exact .inr ⟨h1, v, blk_below h2 hb, pw_own_below h3 hb, h4⟩
theorem builder_lt {w : World} {B b : Nat} {bs : List Value} (h : Lib.IsBuilder 91 5 B b bs w) : B ≤ w.heap.size := by
  rcases h with h | h
  · exact Nat.le_trans h.1 (Nat.le_of_lt h.lt)
  · exact Nat.le_trans h.1 (Nat.le_of_lt h.lt)
theorem bytes_join (b : List UInt8) (s : ByteArray) : Lib.byteCells b ++ Lib.strCells s = Lib.byteCells (b ++ s.data.toList) := by
  rw [Lib.byteCells_append]; rfl
theorem bytes_len (b : List UInt8) : (Lib.byteCells b).length = b.length := by simp [Lib.byteCells]
theorem C_cut2 {W : World} {g n i lo hi2 : Nat} {l : List Int} (h : (Kd.int .i64).C W (some ⟨g, 0, none⟩) l.length l) (hl : l.length = n * n) (hi : i < n) (hn : n ≤ 16) (hlo : lo = i * n) (hhi : hi2 = (i + 1) * n) : (Kd.int .i64).C W (some ⟨g, lo, none⟩) (hi2 - lo) (cut l n i) := by
  have hc := cut_length hl hi
  have e : hi2 - lo = (cut l n i).length := by rw [hc, hhi, hlo, Nat.succ_mul]; omega
  rw [e, hlo]
  exact C_cut h hl hi hn
theorem shard_call {g n i lo hi2 c7 : Nat} {l : List Int} (hl : l.length = n * n) (hi : i < n) (hlo : lo = i * n) (hhi : hi2 = (i + 1) * n) (hc : hi2 ≤ c7) (A1 : Option Addr) (c1 m : Nat) (l1 : List ByteArray) (hm : l1.length = m) (a2 : Int) (r : ByteArray) (w : World) (hr0 : (Kd.int .i64).C w (some ⟨g, lo, none⟩) (hi2 - lo) (cut l n i)) (hr1 : Kd.C Kd.string w A1 m l1) (hc1 : m ≤ c1) (h : erasure_shard.f KK (cut l n i) l1 a2 = some r) :
    Calls Try.prog 40 #[.slice (some ⟨g, lo, none⟩) (hi2 - lo) (c7 - lo), .slice A1 m c1, .int .i64 a2] w fun e w' => e = .returned (.string r) ∧ Below w.heap.size w w' := by
  subst hm
  have hcl := cut_length hl hi
  have e : hi2 - lo = (cut l n i).length := by rw [hcl, hhi, hlo, Nat.succ_mul]; omega
  rw [e] at hr0 ⊢
  exact erasure_shard.calls KK _ _ _ _ _ _ _ _ _ hr0 (by omega) hr1 hc1 h
end Go.Proofs.Ythfddndmhjkeiaa.L
end
section
/- erasure.Decode: what it returns. -/
namespace Go.Proofs.Ythfddndmhjkeiaa.L
open Go.RowKit Go.Proofs.YthfddndmhjkeiaaW.PrintWords Go.Proofs.YthfddndmhjkeiaaW.PrintLast Go.Proofs.YthfddndmhjkeiaaW.PrintMore
set_option linter.unusedVariables false
set_option linter.unusedSimpArgs false

set_option maxHeartbeats 2000000 in
set_option maxRecDepth 100000 in
theorem erasure_Decode.calls (a0_0 a0_1 a1 : Int) (A2 : Option Addr) (c2 : Nat) (l2 : List S41) (r1 : ByteArray) (r2 : Int) (w : World) (hr2 : Kd.C k41 w A2 l2.length l2) (hc2 : l2.length ≤ c2) (h : erasure_Decode.f a0_0 a0_1 a1 l2 = some (r1, r2)) :
    Calls Try.prog 25 #[.agg #[.int .i64 a0_0, .int .i64 a0_1], .int .i64 a1, .slice A2 l2.length c2] w fun e w' => e = .returned (.tuple #[.string r1, .int .i64 r2]) ∧ Below w.heap.size w w' := by
  have HR2 := Aside0.mk hr2
  have HC2 := Aside0.mk hc2
  clear hr2 hc2
  unfold erasure_Decode.f at h
  replace h := Option.bind_eq_some_iff.mp h
  obtain ⟨⟨len, er⟩, hL, h⟩ := h
  have HL := Aside0.mk hL
  have H := Aside0.mk h
  clear hL h
  have hu30 := Try.underlying30
  have hu41 := Try.underlying41
  have hu79 := Try.underlying79
  go_enter Try.func25, Try.ntmps25
  go_wp2_with fail
  refine (erasure_look.calls _ _ _ _ _ _ _ _ _ (Kd.C_below HR2.out (below_alloc (Below.refl _ _) _)) HC2.out HL.out).mono ?_
  rintro e w1 ⟨rfl, hb1⟩
  obtain ⟨KB, HB1⟩ : Aside0 (w1.heap[w.heap.size]? = some (.cells #[.int .i64 a0_0, .int .i64 a0_1] 30 (0, 0))) ∧ Aside0 (Below w.heap.size w w1) := by
    refine ⟨⟨blk_below (blk_new w _) hb1⟩, ⟨(below_alloc (Below.refl _ _) _).trans (hb1.mono ?_)⟩⟩
    simp
  clear hb1
  by_cases he : er = 0
  · subst he
    obtain ⟨hI, g1, g2, g3, g4, g5, g6, hlen0⟩ := look_idx HL.out
    have hl16 := idx_length hI
    have H2 := H.out
    simp only [if_true] at H2
    replace H2 := Option.bind_eq_some_iff.mp H2
    obtain ⟨⟨m1, m2, m3⟩, hm, H2⟩ := H2
    replace H2 := Option.bind_eq_some_iff.mp H2
    obtain ⟨⟨p1, p2, p3, p4⟩, hp, H2⟩ := H2
    replace H2 := Option.bind_eq_some_iff.mp H2
    obtain ⟨⟨q1, q2, q3, q4⟩, hq, H2⟩ := H2
    simp only at hm hp hq H2
    split at H2
    case isFalse => cases H2
    rename_i hql
    replace H2 := Option.bind_eq_some_iff.mp H2
    obtain ⟨bs, hd, H2⟩ := H2
    split at H2
    case isFalse => cases H2
    rename_i hsz
    injection H2 with H2
    injection H2 with H21 H22
    subst H21 H22
    have HI := Aside0.mk hI
    have HM := Aside0.mk hm
    have HP := Aside0.mk hp
    have HQ := Aside0.mk hq
    have HQL := Aside0.mk hql
    have HD := Aside0.mk hd
    clear H hI hm hp hq hql hd g6 hlen0
    obtain ⟨n, rfl⟩ : ∃ n : Nat, a0_0 = (n : Int) := ⟨a0_0.toNat, by omega⟩
    obtain ⟨sz, rfl⟩ : ∃ sz : Nat, a1 = (sz : Int) := ⟨a1.toNat, by omega⟩
    rw [Int.toNat_natCast] at HP HQL HD

    have hn1 : 1 ≤ n := by omega
    have hn2 : n ≤ 16 := by omega
    have hnl : n ≤ l2.length := by omega
    go_wp2_with fail
    refine (api_Shard.calls _ _ l2 l2 _ (Kd.C_below HR2.out HB1.out) HC2.out (by unfold api_Shard.f; rw [if_pos (by omega)])).mono ?_
    rintro e w2 ⟨v0, rfl, hR, hb2⟩
    obtain ⟨g, cp2, rfl, hgb, hgl, hgc⟩ := Kd.R_form hR (by omega)
    have KB2 := Aside0.mk (blk_below KB.out hb2)
    have HB2 := Aside0.mk (HB1.out.trans (hb2.mono HB1.out.size))
    have hgk : w.heap.size ≤ g ∧ g ≠ w.heap.size := ⟨by have := HB1.out.size; omega, by have := blk_lt KB.out; omega⟩
    have hww := HB1.out.size
    clear KB HB1 hb2 hgc
    have hcap : l2.length ≤ cp2 := by
      obtain ⟨A, c, e, hle, _⟩ := Kd.R_reads hR
      injection e with _ _ e
      omega
    go_wp2_with fail
    refine (sort_calls l2 (by intro e; rw [e] at hnl; simp at hnl; omega) HI.out (by omega) _ g cp2 _ _ hR).mono ?_
    rintro e w3 ⟨rfl, hC3, hB3, hsz3, hoth3⟩
    have KB3 := Aside0.mk ((hoth3 w.heap.size (blk_lt KB2.out) (fun e => hgk.2 e.symm)).trans KB2.out)
    have HB3 := Aside0.mk (HB2.out.trans (hB3.mono hww))
    have HC3 := Aside0.mk hC3
    have hg3 : g < w3.heap.size := by omega
    clear hR hB3 hsz3 hoth3 hC3 KB2 HB2 hgb hgl
    have c30 : w3.cell? ⟨w.heap.size, 0, none⟩ = some (.int .i64 n) := (blk_cell KB3.out 0).trans rfl
    have hcn : (n : Int) ≤ (cp2 : Int) := by omega
    go_wp2_with fail
    clear c30
    go_loopw [10, 11, 37] (fun v10 v11 v37 wr => ∃ j : Nat, v37 = .int .i64 (j : Int) ∧ j ≤ n ∧ Aside0 ((Kd.int .i64).R 3 wr w3.heap.size (fun _ => True) v10 (((usedS l2 n).take j).map S41.f0)) ∧ Aside0 (Kd.string.R 9 wr w3.heap.size (fun _ => True) v11 (((usedS l2 n).take j).map S41.f1)) ∧ Aside0 (Below w3.heap.size w3 wr)) (fun _ _ v37 _ => n - (intOf v37).toNat)
    case atStart => exact ⟨0, rfl, Nat.zero_le _, ⟨Kd.R_nil _ _ _ _ _⟩, ⟨Kd.R_nil _ _ _ _ _⟩, ⟨Below.refl _ _⟩⟩
    case round =>
      obtain ⟨j, rfl, hj, HO1, HO2, HBB⟩ := hrel
      by_cases hjn : j < n
      · have hjb : decide ((j : Int) < (n : Int)) = true := decide_eq_true (by omega)
        obtain ⟨ad, e, hc0, hc1⟩ := at_T41 HC3.out (j : Int) (by omega) (by omega)
        cases e
        rw [Int.toNat_natCast, add_plain] at hc0 hc1
        replace hc0 := pw_cell_below HBB.out hc0
        replace hc1 := pw_cell_below HBB.out hc1
        have hx : (usedS l2 n)[j]? = some (rd_T41 (sortS l2) (j : Int)) := by
          unfold usedS rd_T41
          rw [List.getElem?_take, if_pos hjn, Int.toNat_natCast, List.getD_eq_getElem?_getD, List.getElem?_eq_getElem (by rw [sortS_length]; omega)]
          rfl
        have HX1 := Aside0.mk (show ((usedS l2 n).take (j + 1)).map S41.f0 = ((usedS l2 n).take j).map S41.f0 ++ [(rd_T41 (sortS l2) (j : Int)).f0] by
          rw [List.take_add_one, hx]; simp)
        have HX2 := Aside0.mk (show ((usedS l2 n).take (j + 1)).map S41.f1 = ((usedS l2 n).take j).map S41.f1 ++ [(rd_T41 (sortS l2) (j : Int)).f1] by
          rw [List.take_add_one, hx]; simp)
        clear hx
        generalize (rd_T41 (sortS l2) (j : Int)).f0 = xi at hc0 HX1
        generalize (rd_T41 (sortS l2) (j : Int)).f1 = xd at hc1 HX2
        have hI1 : (((usedS l2 n).take j).map S41.f0).length ≤ 16 := by rw [List.length_map, List.length_take]; omega
        have hI2 : (((usedS l2 n).take j).map S41.f1).length ≤ 16 := by rw [List.length_map, List.length_take]; omega
        generalize ((usedS l2 n).take j).map S41.f0 = I1 at HO1 HX1 hI1
        generalize ((usedS l2 n).take j).map S41.f1 = I2 at HO2 HX2 hI2
        obtain ⟨A10, c10, rfl⟩ := Kd.R_slice HO1.out
        obtain ⟨A11, c11, rfl⟩ := Kd.R_slice HO2.out
        go_wp2_with fail
        go_region_held3 (fun w' => w'.cell? ⟨wr.heap.size, 0, none⟩ = some (.int .i64 xi) ∧ w'.cell? ⟨wr.heap.size, 1, none⟩ = some (.string xd)) (first | go_keep | exact ⟨hbx60, hbx61⟩ | exact ⟨hbx70, hbx71⟩) (first | (refine Kd.R_append_rows_step (Kd.int .i64) (Rr := fun x cs => cs = [.int .i64 x]) (w0 := w3) w3.heap.size (by rfl) (.tmp 41) (.tmp 44) 22 3 (.int .i64 0) 8 rfl Try.underlying22 info3 rfl (by decide) (by omega) (.slice A10 I1.length c10) I1 [xi] _ 1 1 (fun _ => True) (fun _ => False) rfl rfl (by (with_reducible repeat (first | apply Kd.R_alloc | apply Kd.R_drewN | apply Kd.R_drew)); first | with_reducible exact HO1b | with_reducible exact HO1.out) (reads_one (Value.int .i64) (by first | with_reducible exact hbi7 | with_reducible exact hbi7b | with_reducible exact blk_new _ _ | with_reducible exact blk_drew (blk_new1 _ _ _) | with_reducible exact blk_drew (blk_alloc (blk_new1 _ _ _) _) | with_reducible exact blk_drew (blk_new2 _ _ _ _))) (fun _ _ h => h) (fun _ h => h.elim) (fun _ _ => trivial) (by repeat (with_reducible first | exact hb6 | exact hb7 | exact HBB.out | apply below_alloc | apply pw_below_drewN | apply below_drew1)) (below_size (by repeat (with_reducible first | exact hb6 | exact hb7 | exact HBB.out | apply below_alloc | apply pw_below_drewN | apply below_drew1))) (by omega) ?_; intro v6 w6 ho6 hb6 hg6 hat6; have hbx6 := grown_box (Kd.int .i64) 3 w3.heap.size (fun _ => True) I1 (g := wr.heap.size) (cells := #[.int .i64 xi, .string xd]) (t := 41) hg6 (by (with_reducible repeat (first | apply Kd.R_alloc | apply Kd.R_drewN | apply Kd.R_drew)); first | with_reducible exact HO1b | with_reducible exact HO1.out) (by first | with_reducible exact hbx6 | with_reducible exact hbx7 | with_reducible exact blk_alloc hbx6 _ | with_reducible exact blk_alloc hbx7 _ | with_reducible exact blk_drew (blk_alloc (blk_new _ _) _) | with_reducible exact blk_drew (blk_alloc (blk_alloc (blk_new _ _) _) _)) (by decide); have hbx60 := (blk_cell hbx6 0).trans (show _ = some (Value.int .i64 xi) from rfl); have hbx61 := (blk_cell hbx6 1).trans (show _ = some (Value.string xd) from rfl); (try have hbj6 := grown_box (Kd.int .i64) 3 w3.heap.size (fun _ => True) I1 (g := wr.heap.size + 1) (cells := #[.string xd]) (t := 9) hg6 (by (with_reducible repeat (first | apply Kd.R_alloc | apply Kd.R_drewN | apply Kd.R_drew)); first | with_reducible exact HO1b | with_reducible exact HO1.out) (by with_reducible exact blk_drew (blk_alloc (blk_new1 _ _ _) _)) (by decide)); (try have hbj6b := grown_box (Kd.int .i64) 3 w3.heap.size (fun _ => True) I1 (g := wr.heap.size + 2) (cells := #[.string xd]) (t := 9) hg6 (by (with_reducible repeat (first | apply Kd.R_alloc | apply Kd.R_drewN | apply Kd.R_drew)); first | with_reducible exact HO1b | with_reducible exact HO1.out) (by with_reducible exact blk_drew (blk_new2 _ _ _ _)) (by decide)); (first | (have HO2f := over_row Kd.string (Kd.int .i64) 9 3 w3.heap.size (fun _ => True) (u := .slice A7 (I2 ++ [xd]).length c7) (I2 ++ [xd]) I1 hg6 (by (with_reducible repeat (first | apply Kd.R_alloc | apply Kd.R_drewN | apply Kd.R_drew)); with_reducible exact ho7) (by (with_reducible repeat (first | apply Kd.R_alloc | apply Kd.R_drewN | apply Kd.R_drew)); first | with_reducible exact HO1b | with_reducible exact HO1.out) (by decide)) | (have HO2b := over_row Kd.string (Kd.int .i64) 9 3 w3.heap.size (fun _ => True) (u := .slice A11 I2.length c11) I2 I1 hg6 (by (with_reducible repeat (first | apply Kd.R_alloc | apply Kd.R_drewN | apply Kd.R_drew)); with_reducible exact HO2.out) (by (with_reducible repeat (first | apply Kd.R_alloc | apply Kd.R_drewN | apply Kd.R_drew)); first | with_reducible exact HO1b | with_reducible exact HO1.out) (by decide))); obtain ⟨A6, c6, rfl⟩ := Kd.R_slice ho6) | (refine Kd.R_append_rows_step Kd.string (Rr := fun x cs => cs = [.string x]) (w0 := w3) w3.heap.size (by rfl) (.tmp 46) (.tmp 49) 77 9 (.string ⟨#[]⟩) 16 rfl Try.underlying77 info9 rfl (by decide) (by omega) (.slice A11 I2.length c11) I2 [xd] _ 1 1 (fun _ => True) (fun _ => False) rfl rfl (by (with_reducible repeat (first | apply Kd.R_alloc | apply Kd.R_drewN | apply Kd.R_drew)); first | with_reducible exact HO2b | with_reducible exact HO2.out) (reads_one Value.string (by first | with_reducible exact hbj6 | with_reducible exact hbj6b | with_reducible exact blk_new _ _ | with_reducible exact blk_drew (blk_new1 _ _ _) | with_reducible exact blk_drew (blk_alloc (blk_new1 _ _ _) _) | with_reducible exact blk_drew (blk_new2 _ _ _ _))) (fun _ _ h => h) (fun _ h => h.elim) (fun _ _ => trivial) (by repeat (with_reducible first | exact hb6 | exact hb7 | exact HBB.out | apply below_alloc | apply pw_below_drewN | apply below_drew1)) (below_size (by repeat (with_reducible first | exact hb6 | exact hb7 | exact HBB.out | apply below_alloc | apply pw_below_drewN | apply below_drew1))) (by omega) ?_; intro v7 w7 ho7 hb7 hg7 hat7; have hbx7 := grown_box Kd.string 9 w3.heap.size (fun _ => True) I2 (g := wr.heap.size) (cells := #[.int .i64 xi, .string xd]) (t := 41) hg7 (by (with_reducible repeat (first | apply Kd.R_alloc | apply Kd.R_drewN | apply Kd.R_drew)); first | with_reducible exact HO2b | with_reducible exact HO2.out) (by first | with_reducible exact hbx6 | with_reducible exact hbx7 | with_reducible exact blk_alloc hbx6 _ | with_reducible exact blk_alloc hbx7 _ | with_reducible exact blk_drew (blk_alloc (blk_new _ _) _) | with_reducible exact blk_drew (blk_alloc (blk_alloc (blk_new _ _) _) _)) (by decide); have hbx70 := (blk_cell hbx7 0).trans (show _ = some (Value.int .i64 xi) from rfl); have hbx71 := (blk_cell hbx7 1).trans (show _ = some (Value.string xd) from rfl); (try have hbi7 := grown_box Kd.string 9 w3.heap.size (fun _ => True) I2 (g := wr.heap.size + 1) (cells := #[.int .i64 xi]) (t := 3) hg7 (by (with_reducible repeat (first | apply Kd.R_alloc | apply Kd.R_drewN | apply Kd.R_drew)); first | with_reducible exact HO2b | with_reducible exact HO2.out) (by with_reducible exact blk_drew (blk_alloc (blk_new1 _ _ _) _)) (by decide)); (try have hbi7b := grown_box Kd.string 9 w3.heap.size (fun _ => True) I2 (g := wr.heap.size + 2) (cells := #[.int .i64 xi]) (t := 3) hg7 (by (with_reducible repeat (first | apply Kd.R_alloc | apply Kd.R_drewN | apply Kd.R_drew)); first | with_reducible exact HO2b | with_reducible exact HO2.out) (by with_reducible exact blk_drew (blk_new2 _ _ _ _)) (by decide)); (first | (have HO1f := over_row (Kd.int .i64) Kd.string 3 9 w3.heap.size (fun _ => True) (u := .slice A6 (I1 ++ [xi]).length c6) (I1 ++ [xi]) I2 hg7 (by (with_reducible repeat (first | apply Kd.R_alloc | apply Kd.R_drewN | apply Kd.R_drew)); with_reducible exact ho6) (by (with_reducible repeat (first | apply Kd.R_alloc | apply Kd.R_drewN | apply Kd.R_drew)); first | with_reducible exact HO2b | with_reducible exact HO2.out) (by decide)) | (have HO1b := over_row (Kd.int .i64) Kd.string 3 9 w3.heap.size (fun _ => True) (u := .slice A10 I1.length c10) I1 I2 hg7 (by (with_reducible repeat (first | apply Kd.R_alloc | apply Kd.R_drewN | apply Kd.R_drew)); with_reducible exact HO1.out) (by (with_reducible repeat (first | apply Kd.R_alloc | apply Kd.R_drewN | apply Kd.R_drew)); first | with_reducible exact HO2b | with_reducible exact HO2.out) (by decide))); obtain ⟨A7, c7, rfl⟩ := Kd.R_slice ho7))
        all_goals
          simp only [List.length_append, List.length_singleton] at HO1f ho7
          clear hbx6 hbx60 hbx61 hbx7 hbx70 hbx71 hc0 hc1
          go_wp2_with fail
          exact ⟨⟨j + 1, rfl, by omega, ⟨by rw [HX1.out]; exact HO1f⟩, ⟨by rw [HX2.out]; exact ho7⟩, ⟨hb7⟩⟩, by simp [intOf]; omega⟩
      · have hjb : decide ((j : Int) < (n : Int)) = false := decide_eq_false (by omega)
        obtain rfl : n = j := by omega
        have hus : (usedS l2 n).length = n := by unfold usedS; rw [List.length_take, sortS_length]; omega
        rw [List.take_of_length_le (by omega)] at HO1 HO2
        have hn3 : ((usedS l2 n).map S41.f0).length = n := by rw [List.length_map, hus]
        have hn4 : ((usedS l2 n).map S41.f1).length = n := by rw [List.length_map, hus]
        generalize (usedS l2 n).map S41.f0 = I1 at HO1 HP hn3
        generalize (usedS l2 n).map S41.f1 = I2 at HO2 HD hn4
        obtain ⟨A10, c10, rfl⟩ := Kd.R_slice HO1.out
        obtain ⟨A11, c11, rfl⟩ := Kd.R_slice HO2.out
        clear hus
        have HN3 := Aside0.mk hn3
        have HN4 := Aside0.mk hn4
        clear hn3 hn4
        have KB4 := Aside0.mk (blk_below KB3.out HBB.out)
        have d0 : wr.cell? ⟨w.heap.size, 0, none⟩ = some (.int .i64 n) := (blk_cell KB4.out 0).trans rfl
        have d1 : wr.cell? ⟨w.heap.size, 1, none⟩ = some (.int .i64 a0_1) := (blk_cell KB4.out 1).trans rfl
        go_wp2_with fail
        refine (erasure_rowsOf.calls KK (n : Int) a0_1 m1 m2 m3 _ HM.out).mono ?_
        rintro e w5 ⟨vm, rfl, hRm, hb5⟩
        obtain ⟨A5, c5, rfl, hlm, hCm⟩ := Kd.R_reads hRm
        have HI1 := Aside0.mk (Kd.C_below (Kd.R_reads' HO1.out).2.2 hb5)
        have HL1 := Aside0.mk (Kd.R_reads' HO1.out).2.1
        have HI2 := Aside0.mk (Kd.C_below (Kd.R_reads' HO2.out).2.2 hb5)
        have HL2 := Aside0.mk (Kd.R_reads' HO2.out).2.1
        have HB5 := Aside0.mk ((HB3.out.trans (HBB.out.mono HB3.out.size)).trans (hb5.mono (by have := HB3.out.size; have := HBB.out.size; omega)))
        have KB5 := Aside0.mk (blk_below KB4.out hb5)
        clear hRm hb5 d0 d1 KB4 HO1 HO2 HM HB3 HBB KB3 HC3
        go_wp2_with fail
        refine (matrix_Pick.calls KK m1 m2 A5 c5 m3 A10 c10 I1 p1 p2 p3 p4 _ hCm hlm HI1.out HL1.out HP.out).mono ?_
        rintro e w6 ⟨vp, rfl, hRp, hb6⟩
        obtain ⟨A6, c6, rfl, hlp, hCp⟩ := Kd.R_reads hRp
        have HI6 := Aside0.mk (Kd.C_below HI2.out hb6)
        have HB6 := Aside0.mk (HB5.out.trans (hb6.mono HB5.out.size))
        have KB6 := Aside0.mk (blk_below KB5.out hb6)
        clear hRp hb6 hCm hlm HI1 HL1 HI2 HB5 KB5 HP
        go_wp2_with fail
        refine (matrix_Inverse.calls p1 p2 A6 c6 p3 q1 q2 q3 q4 _ (Kd.C_below hCp (below_alloc (Below.refl _ _) _)) hlp HQ.out).mono ?_
        rintro e w7 ⟨vq, rfl, hRq, hb7⟩
        have K14 := blk_below (blk_new w6 _) hb7
        have hb67 : Below w6.heap.size w6 w7 := (below_alloc (Below.refl _ _) _).trans (hb7.mono (by simp))
        obtain ⟨g7, c7, rfl, hg7, hg7l, hg7c⟩ := Kd.R_form hRq (by rw [HQL.out]; exact Nat.mul_pos hn1 hn1)
        have hsz6 : w.heap.size ≤ w6.heap.size ∧ w6.heap.size < w7.heap.size ∧ w.heap.size < w6.heap.size := ⟨HB6.out.size, blk_lt K14, blk_lt KB6.out⟩
        have c140 : w7.cell? ⟨w6.heap.size, 0, none⟩ = some (.int .i64 p1) := (blk_cell K14 0).trans rfl
        have c141 : w7.cell? ⟨w6.heap.size, 1, none⟩ = some (.int .i64 p2) := (blk_cell K14 1).trans rfl
        have c142 : w7.cell? ⟨w6.heap.size, 2, none⟩ = some (.slice A6 p3.length c6) := (blk_cell K14 2).trans rfl
        have f140 := blk_frozen K14 0
        have f141 := blk_frozen K14 1
        have f142 := blk_frozen K14 2
        obtain ⟨W8, hW8⟩ : ∃ W8, W8 = ((w7.setCell ⟨w6.heap.size, 0, none⟩ (.int .i64 q1)).setCell ⟨w6.heap.size, 1, none⟩ (.int .i64 q2)).setCell ⟨w6.heap.size, 2, none⟩ (.slice (some ⟨g7, 0, none⟩) q3.length c7) := ⟨_, rfl⟩
        have hb68 : Below w6.heap.size w6 W8 := by
          rw [hW8]
          exact ((hb67.setCell (p := ⟨w6.heap.size, 0, none⟩) (Nat.le_refl _) _).setCell (p := ⟨w6.heap.size, 1, none⟩) (Nat.le_refl _) _).setCell (p := ⟨w6.heap.size, 2, none⟩) (Nat.le_refl _) _
        have hR8 : Kd.R (Kd.int .i64) 3 W8 (w6.alloc (.cells #[.int .i64 p1, .int .i64 p2, .slice A6 p3.length c6] 79)).heap.size (fun _ => True) (.slice (some ⟨g7, 0, none⟩) q3.length c7) q3 := by
          rw [hW8]
          exact Kd.R_set (Kd.R_set (Kd.R_set hRq K14 (t := 79) (by decide) 0 _) (blk_put K14 0 _ rfl) (t := 79) (by decide) 1 _) (blk_put (blk_put K14 0 _ rfl) 1 _ rfl) (t := 79) (by decide) 2 _
        have K148 : W8.heap[w6.heap.size]? = some (.cells #[.int .i64 q1, .int .i64 q2, .slice (some ⟨g7, 0, none⟩) q3.length c7] 79 (0, 0)) := by
          rw [hW8]
          exact blk_put (blk_put (blk_put K14 0 _ rfl) 1 _ rfl) 2 _ rfl
        have hq8 := Kd.R_reads' hR8
        have HCQ := Aside0.mk hq8.2.2
        have HLQ := Aside0.mk hq8.2.1
        have HI8 := Aside0.mk (Kd.C_below HI6.out hb68)
        have KB8 := Aside0.mk (blk_below KB6.out hb68)
        have HB8 := Aside0.mk (HB6.out.trans (hb68.mono HB6.out.size))
        have HK14 := Aside0.mk K148
        have hs8 : W8.heap.size = w7.heap.size := by rw [hW8]; simp
        have HS8 := Aside0.mk hs8
        have HW8 := Aside0.mk hW8
        have hld : ∀ o, (((((w7.setCell ⟨w6.heap.size, 0, none⟩ (.int .i64 q1)).setCell ⟨w6.heap.size, 1, none⟩ (.int .i64 q2)).setCell ⟨w6.heap.size, 2, none⟩ (.slice (some ⟨g7, 0, none⟩) q3.length c7))).alloc o).cell? ⟨w.heap.size, 0, none⟩ = some (.int .i64 n) := by
          intro o
          rw [← hW8]
          exact (blk_cell (blk_alloc KB8.out o) 0).trans rfl
        clear hRq hb7 hq8 hCp hlp K14 HQ HI6 HB6 KB6 hg7c hb67 hb68 hR8 K148 hs8 hW8 hg7
        go_wp2_with fail
        rw [← HW8.out]
        clear hld c140 c141 c142 f140 f141 f142
        go_loopw [66] (fun v wr => ∃ (i : Nat) (b : List UInt8), v = .int .i64 (i : Int) ∧ i ≤ n ∧ Aside0 (decodeTo q3 n I2 len i = some b) ∧ Aside0 (Lib.IsBuilder 91 5 w7.heap.size w7.heap.size (Lib.byteCells b) wr) ∧ Aside0 (Below w7.heap.size W8 wr)) (fun v _ => n - (intOf v).toNat)
        case atStart =>
          refine ⟨0, [], rfl, Nat.zero_le _, ⟨rfl⟩, ⟨.inl ⟨Nat.le_refl _, .slice none 0 0, ?_, own_nil _ _ _ _, by simp [Value.ownBlock]⟩⟩, ⟨?_⟩⟩
          · have h1 := blk_new W8 (.cells #[.pointer none, .slice none 0 0] 91)
            rw [HS8.out] at h1
            exact h1
          · have h1 := below_alloc (Below.refl W8.heap.size W8) (.cells #[.pointer none, .slice none 0 0] 91)
            rw [HS8.out] at h1
            exact h1
        case round =>
          rename_i wr2 _
          obtain ⟨i, b, rfl, hi, HDI, HIB, HBB⟩ := hrel
          by_cases hin : i < n
          · have hib : decide ((i : Int) < (n : Int)) = true := decide_eq_true (by omega)
            obtain ⟨b1, hb1⟩ := decodeTo_upto n HD.out (show i + 1 ≤ n from hin)
            obtain ⟨b0, s, h0, hsh, hle, hb1e⟩ := decodeTo_succ hb1
            have hbb : b0 = b := by
              have := HDI.out
              rw [h0] at this
              exact Option.some.inj this
            subst hbb
            have hBB8 := HBB.out
            rw [← HS8.out] at hBB8
            have hCQr := Kd.C_below HCQ.out hBB8
            have HI2r := Aside0.mk (Kd.C_below HI8.out hBB8)
            have KBr := blk_below KB8.out hBB8
            have K14r := blk_below HK14.out hBB8
            have e0 := (blk_cell KBr 0).trans (show _ = some (Value.int .i64 n) from rfl)
            have e2 := (blk_cell K14r 2).trans (show _ = some (Value.slice (some ⟨g7, 0, none⟩) q3.length c7) from rfl)
            have HSH := Aside0.mk hsh
            have HLE := Aside0.mk hle
            have HB1 := Aside0.mk hb1
            have HB1E := Aside0.mk hb1e
            obtain ⟨lo, hlo⟩ : ∃ lo : Nat, lo = i * n := ⟨_, rfl⟩
            obtain ⟨hi2, hhi⟩ : ∃ hi2 : Nat, hi2 = (i + 1) * n := ⟨_, rfl⟩
            have hlh : hi2 = lo + n := by rw [hhi, hlo, Nat.succ_mul]
            have hq3 : hi2 ≤ q3.length := by rw [HQL.out, hhi]; exact Nat.mul_le_mul_right _ hin
            have hm1 : wrap64 ((i : Int) * (n : Int)) = (lo : Int) := by rw [hlo]; exact mul_w0 hin hn2
            have hm2 : wrap64 (((i : Int) + 1) * (n : Int)) = (hi2 : Int) := by rw [hhi]; exact mul_w1 hin hn2
            have HCQr := Aside0.mk (C_cut2 hCQr HQL.out hin hn2 hlo hhi)
            have HSL := Aside0.mk (fun hc => @shard_call g7 n i lo hi2 c7 q3 HQL.out hin hlo hhi hc A11 c11)
            have hlc : hi2 ≤ c7 := Nat.le_trans hq3 HLQ.out
            have hll : lo ≤ hi2 := Nat.le_trans (Nat.le_add_right _ _) (Nat.le_of_eq hlh.symm)
            have hlc2 : lo < c7 := Nat.lt_of_lt_of_le (Nat.lt_of_lt_of_eq (Nat.lt_add_of_pos_right hn1) hlh.symm) hlc
            clear h0 hsh hle hb1 hb1e KBr K14r hCQr hlh hlo hhi
            go_wp2_with fail
            refine (HSL.out hlc _ I2 rfl len s _ HCQr.out HI2r.out HL2.out HSH.out).mono ?_
            rintro e w9 ⟨rfl, hb9⟩
            have hIB9 := builder_below HIB.out hb9
            have HB9 := Aside0.mk (HBB.out.trans (hb9.mono (builder_lt HIB.out)))
            clear hb9
            go_wp2_with fail
            refine (writeString w7.heap.size w7.heap.size (Lib.byteCells b0) s _ hIB9 (by rw [bytes_len]; exact Nat.le_trans HLE.out (by decide)) (builder_lt hIB9)).mono ?_
            rintro e w10 ⟨rfl, hat, hb10⟩
            rw [bytes_join, ← HB1E.out] at hat
            go_wp2_with fail
            exact ⟨⟨i + 1, b1, rfl, hin, HB1, ⟨.inr hat⟩, ⟨HB9.out.trans hb10⟩⟩, by simp [intOf]; exact Nat.sub_lt_sub_left hin (Nat.lt_succ_self i)⟩
          · have hib : decide ((i : Int) < (n : Int)) = false := decide_eq_false (fun h => hin (Int.ofNat_lt.1 h))
            obtain rfl : n = i := Nat.le_antisymm (Nat.le_of_not_lt hin) hi
            have hbb : b = bs := Option.some.inj (HDI.out.symm.trans HD.out)
            subst hbb
            go_wp2_with fail
            refine (Try.Builder_String_any w7.heap.size w7.heap.size b _ HIB.out (builder_lt HIB.out)).mono ?_
            rintro e w9 ⟨rfl, hb9⟩
            have hsz8 : w.heap.size ≤ w7.heap.size := Nat.le_trans hsz6.1 (Nat.le_of_lt hsz6.2.1)
            have HBZ := Aside0.mk ((HB8.out.trans (HBB.out.mono hsz8)).trans (hb9.mono hsz8))
            go_wp2_with fail
            go_ret2
            exact ⟨by simp, HBZ.out⟩
  · have H2 := H.out
    simp only [he, if_false] at H2
    injection H2 with H2
    injection H2 with H21 H22
    subst H21 H22
    go_wp2_with fail
    go_ret2
    exact ⟨rfl, HB1.out⟩
#print axioms erasure_Decode.calls
end Go.Proofs.Ythfddndmhjkeiaa.L
end
section
/- stripe.right: whether a shard is right. -/
namespace Go.Proofs.Ythfddndmhjkeiaa.L
open Go.RowKit Go.Proofs.YthfddndmhjkeiaaW.PrintWords Go.Proofs.YthfddndmhjkeiaaW.PrintLast Go.Proofs.YthfddndmhjkeiaaW.PrintMore
set_option linter.unusedVariables false
set_option linter.unusedSimpArgs false
def stripe_right.f (k : Nat) (a0_0 a0_1 a0_2 : Int) (l0_3 : List Int) (a1_0 : Int) (a1_1 : ByteArray) : Option Bool := (erasure_Length.f a0_0 a0_1 a0_2).bind fun bt233 => (if a1_0 ≥ 0 then (if a1_0 < a0_1 then (if (a1_1.size : Int) = bt233.1 then ((digest_Sum.f k a1_1).bind fun t235 => (if a1_0 < (l0_3.length : Int) then (some (t235 == (rd l0_3 a1_0))) else none)) else some false) else some false) else some false)
theorem stripe_right.mono : ∀ a0 a1 a2 a3 a4 a5 k, LeO (stripe_right.f k a0 a1 a2 a3 a4 a5) (stripe_right.f (k + 1) a0 a1 a2 a3 a4 a5) := by
  intro a0 a1 a2 a3 a4 a5 k
  unfold stripe_right.f
  repeat' first
    | (with_reducible exact digest_Sum.mono _ _)
    | (with_reducible exact LeO.refl _)
    | (with_reducible exact LeO.none _)
    | (with_reducible refine LeO.ite ?_ ?_)
    | (with_reducible refine LeO.bind ?_ (fun _ => ?_))
    | refine LeO.ite ?_ ?_
set_option maxHeartbeats 1000000 in
set_option maxRecDepth 100000 in
theorem stripe_right.calls (k : Nat) (a0_0 : Int) (a0_1 : Int) (a0_2 : Int) (A0_3 : Option Addr) (c0_3 : Nat) (l0_3 : List Int) (a1_0 : Int) (a1_1 : ByteArray) (r : Bool) (w : World) (hr0_3 : Kd.C (Kd.int .i64) w A0_3 l0_3.length l0_3) (hc0_3 : l0_3.length ≤ c0_3) (h : stripe_right.f k a0_0 a0_1 a0_2 l0_3 a1_0 a1_1 = some r) :
    Calls Try.prog 24 #[.agg #[.int .i64 a0_0, .int .i64 a0_1, .int .i64 a0_2, .slice A0_3 l0_3.length c0_3], .agg #[.int .i64 a1_0, .string a1_1]] w fun e w' => e = .returned (.bool r) ∧ Below w.heap.size w w' := by
  have hu34 := Try.underlying34
  have hu41 := Try.underlying41
  have hu30 := Try.underlying30
  have HR := Aside0.mk hr0_3
  have HC := Aside0.mk hc0_3
  clear hr0_3 hc0_3
  obtain ⟨⟨L, le⟩, A3, h⟩ := Option.bind_eq_some_iff.mp h
  replace A3 := Aside0.mk A3
  replace h : (if a1_0 ≥ 0 then (if a1_0 < a0_1 then (if (a1_1.size : Int) = L then ((digest_Sum.f k a1_1).bind fun t235 => (if a1_0 < (l0_3.length : Int) then (some (t235 == (rd l0_3 a1_0))) else none)) else some false) else some false) else some false) = some r := h
  have H := Aside0.mk h
  clear h
  go_enter Try.func24, Try.ntmps24
  go_wp2_with fail
  refine (erasure_Length.calls _ _ _ L le _ A3.out).mono ?_
  rintro e w1 ⟨rfl, hb1⟩
  have KB1 := Aside0.mk (blk_below (blk_alloc (blk_new w (.cells #[.int .i64 a0_0, .int .i64 a0_1, .int .i64 a0_2, .slice A0_3 l0_3.length c0_3] 34)) (.cells #[.int .i64 a1_0, .string a1_1] 41)) hb1)
  have KX1 := Aside0.mk (blk_below (blk_new (w.alloc (.cells #[.int .i64 a0_0, .int .i64 a0_1, .int .i64 a0_2, .slice A0_3 l0_3.length c0_3] 34)) (.cells #[.int .i64 a1_0, .string a1_1] 41)) hb1)
  have HB1 := Aside0.mk (below_step (below_alloc (below_alloc (Below.refl _ w) _) _) hb1)
  rw [show (w.alloc (.cells #[.int .i64 a0_0, .int .i64 a0_1, .int .i64 a0_2, .slice A0_3 l0_3.length c0_3] 34)).heap.size = w.heap.size + 1 by simp] at KX1
  clear hb1 A3
  have y0 := (blk_cell KB1.out 0).trans (show _ = some (Value.int .i64 a0_0) from rfl)
  have y1 := (blk_cell KB1.out 1).trans (show _ = some (Value.int .i64 a0_1) from rfl)
  have y2 := (blk_cell KB1.out 2).trans (show _ = some (Value.int .i64 a0_2) from rfl)
  have y3 := (blk_cell KB1.out 3).trans (show _ = some (Value.slice A0_3 l0_3.length c0_3) from rfl)
  have x0 := (blk_cell KX1.out 0).trans (show _ = some (Value.int .i64 a1_0) from rfl)
  have x1 := (blk_cell KX1.out 1).trans (show _ = some (Value.string a1_1) from rfl)
  have fin : ∀ W, Below w1.heap.size w1 W → Below w.heap.size w W := fun W hb => below_step HB1.out hb
  by_cases c1 : a1_0 ≥ 0
  case neg =>
    have hr := H.out
    rw [if_neg c1] at hr
    obtain rfl := Option.some.inj hr
    have d1 : decide (0 ≤ a1_0) = false := decide_eq_false c1
    clear hr H KB1 KX1 HR HC y0 y1 y2 y3 x1 c1
    go_wp2_with fail
    go_quiet (fail)
    go_wp2_with fail
    go_ret
    exact ⟨rfl, pw_below_drewN HB1.out _⟩
  case pos =>
  have h1 := H.out
  rw [if_pos c1] at h1
  have d1 : decide (0 ≤ a1_0) = true := decide_eq_true c1
  by_cases c2 : a1_0 < a0_1
  case neg =>
    rw [if_neg c2] at h1
    obtain rfl := Option.some.inj h1
    have d2 : decide (a1_0 < a0_1) = false := decide_eq_false c2
    clear h1 H KB1 KX1 HR HC y0 y2 y3 x1 c1 c2
    go_wp2_with fail
    go_quiet (fail)
    go_wp2_with fail
    go_ret
    exact ⟨rfl, pw_below_drewN HB1.out _⟩
  case pos =>
  rw [if_pos c2] at h1
  have d2 : decide (a1_0 < a0_1) = true := decide_eq_true c2
  by_cases c3 : (a1_1.size : Int) = L
  case neg =>
    rw [if_neg c3] at h1
    obtain rfl := Option.some.inj h1
    have d3 : ((a1_1.size : Int) == L) = false := beq_eq_false_iff_ne.mpr c3
    clear h1 H KB1 KX1 HR HC y0 y2 y3 c1 c2 c3
    go_wp2_with fail
    go_quiet (fail)
    go_wp2_with fail
    go_ret
    exact ⟨rfl, pw_below_drewN HB1.out _⟩
  case pos =>
  rw [if_pos c3] at h1
  have d3 : ((a1_1.size : Int) == L) = true := beq_iff_eq.mpr c3
  obtain ⟨sm, hsm, h1⟩ := Option.bind_eq_some_iff.mp h1
  by_cases c4 : a1_0 < (l0_3.length : Int)
  case neg =>
    rw [if_neg c4] at h1
    cases h1
  case pos =>
  rw [if_pos c4] at h1
  obtain rfl := Option.some.inj h1
  obtain ⟨ad, e, hd⟩ := Kd.at_int HR.out a1_0 c1 c4
  cases e
  replace hd := (HB1.out.cell (World.block_lt_of_cell? w _ hd)).trans hd
  have p1 : ((0 : Int) ≤ a1_0) = True := eq_true c1
  have p2 := eq_true c4
  have HS := Aside0.mk hsm
  clear h1 H c1 c2 c3 c4 HR HC hsm
  go_wp2_with fail
  go_quiet ((exact Calls.quiet_of (v := .int .i64 sm) ((digest_Sum.calls k a1_1 sm _ HS.out).mono fun e w' h => ⟨h.1, by obtain ⟨nd, rfl⟩ := h.2; exact ⟨nd, rfl⟩⟩)))
  go_wp2_with fail
  go_ret
  exact ⟨rfl, pw_below_drewN HB1.out _⟩
end Go.Proofs.Ythfddndmhjkeiaa.L
end
section
/- stripe.kept: the right shards, the first one of each index (a map keyed by a struct). -/
namespace Go.Proofs.Ythfddndmhjkeiaa.L
open Go.RowKit Go.Proofs.YthfddndmhjkeiaaW.PrintWords Go.Proofs.YthfddndmhjkeiaaW.PrintLast Go.Proofs.YthfddndmhjkeiaaW.PrintMore
open Go.Maps
set_option linter.unusedVariables false
set_option linter.unusedSimpArgs false
theorem placeLaid : laidOutB Try.prog = true := by kernel_rfl
theorem placeRow : (99 : TypeId) < Try.prog.types.size := of_decide_eq_true (by kernel_rfl)
theorem placeLaw : Keyed Try.prog 99 := Keyed.of_law (deep_law_laid placeLaid (m := 2) (by omega) placeRow (by kernel_rfl) (by kernel_rfl))
def placeKey (i : Int) : Lit := .string (keyBytes [.int .i64 i])
theorem placeLits {i : Int} (h : (Lit.int .i64 i).wf = true) (m : Nat) : Try.prog.keyLits (m + 2) 99 [.int .i64 i] = some [.int .i64 i] := by
  have hc : Try.prog.cellsOf 99 = 1 := by kernel_rfl
  have hc3 : Try.prog.cellsOf 3 = 1 := by kernel_rfl
  have h3 : Try.prog.keyLits (m + 1) 3 [.int .i64 i] = some [.int .i64 i] := by
    unfold Program.keyLits
    rw [Try.underlying3]
    simp [h]
  unfold Program.keyLits
  rw [Try.underlying99]
  generalize Try.prog = P at hc hc3 h3 ⊢
  simp [hc, hc3, h3]
theorem placeKey_of {i : Int} (h : (Lit.int .i64 i).wf = true) : keyOf Try.prog 99 (.agg #[.int .i64 i]) = some (placeKey i) := by
  have hc : Try.prog.cellsOf 99 = 1 := by kernel_rfl
  have hkt : Try.prog.keyType 99 = true := by kernel_rfl
  obtain ⟨m, hm⟩ : ∃ m, Try.prog.types.size + 1 = m + 2 := by
    have : 99 < Try.prog.types.size := placeRow
    exact ⟨Try.prog.types.size - 1, by omega⟩
  have hl := placeLits h m
  have hu := Try.underlying99
  rw [← hm] at hl
  generalize Try.prog = P at *
  have hf : (Value.agg #[.int .i64 i]).formed P 99 = true := by
    simp [Value.formed, hu, hc]
  have hcl : (Value.agg #[.int .i64 i]).cells.toList = [.int .i64 i] := rfl
  simp only [keyOf, hu, hkt, hf, Bool.and_true, if_true, hcl, hl, Option.map_some]
  rfl
theorem placeKey_inj {i j : Int} (hi : (Lit.int .i64 i).wf = true) (hj : (Lit.int .i64 j).wf = true) (h : placeKey i = placeKey j) : i = j := by
  have h2 := placeKey_of hj
  rw [← h] at h2
  have h3 := placeLaw.inj (placeKey_of hi) h2
  generalize Try.prog = P at *
  injection h3 with h3
  injection h3 with h3
  injection h3 with h3 _
  injection h3 with _ h3
def keptAt (a0_0 a0_1 a0_2 : Int) (l0_3 : List Int) : List S41 → List Int → Option (List S41)
  | [], _ => some []
  | x :: l, seen => if x.f0 ∈ seen then keptAt a0_0 a0_1 a0_2 l0_3 l seen else (stripe_right.f (x.f1.size + 2) a0_0 a0_1 a0_2 l0_3 x.f0 x.f1).bind fun b => if b = true then (keptAt a0_0 a0_1 a0_2 l0_3 l (x.f0 :: seen)).map (x :: ·) else keptAt a0_0 a0_1 a0_2 l0_3 l seen
def stripe_kept.f (a0_0 a0_1 a0_2 : Int) (l0_3 : List Int) (l1 : List S41) : Option (List S41) := if l1.all (fun x => (Lit.int .i64 x.f0).wf) = true ∧ l1.length ≤ 5864062014650 then keptAt a0_0 a0_1 a0_2 l0_3 l1 [] else none
/-- What the map says. -/
def Seen {H : Type} (D : DataW H) (seen : List Int) : Prop := IsMap D ∧ ∀ i, (Lit.int .i64 i).wf = true → D.atKey (placeKey i) (.lit (.bool false)) = .lit (.bool (decide (i ∈ seen)))
theorem Seen.nil {H : Type} : Seen (.map [] : DataW H) [] := ⟨⟨_, rfl⟩, fun i hi => rfl⟩
theorem Seen.put {H : Type} {D : DataW H} {seen : List Int} (h : Seen D seen) {j : Int} (hj : (Lit.int .i64 j).wf = true) : Seen (D.put (placeKey j) (.lit (.bool true))) (j :: seen) := by
  refine ⟨by exact IsMap.put h.1 _ _, fun i hi => ?_⟩
  by_cases e : i = j
  · subst e
    rw [atKey_put_same h.1 (placeLaw.key (placeKey_of hj))]
    simp
  · rw [atKey_put_other (fun e' => e (placeKey_inj hi hj e')), h.2 i hi]
    simp [e]
theorem kept_step {a0_0 a0_1 a0_2 : Int} {l0_3 : List Int} {l : List S41} {x : Int} (h0 : 0 ≤ x) (h : x < l.length) (seen : List Int) : keptAt a0_0 a0_1 a0_2 l0_3 (l.drop x.toNat) seen = if (rd_T41 l x).f0 ∈ seen then keptAt a0_0 a0_1 a0_2 l0_3 (l.drop (x + 1).toNat) seen else (stripe_right.f ((rd_T41 l x).f1.size + 2) a0_0 a0_1 a0_2 l0_3 (rd_T41 l x).f0 (rd_T41 l x).f1).bind fun b => if b = true then (keptAt a0_0 a0_1 a0_2 l0_3 (l.drop (x + 1).toNat) ((rd_T41 l x).f0 :: seen)).map (rd_T41 l x :: ·) else keptAt a0_0 a0_1 a0_2 l0_3 (l.drop (x + 1).toNat) seen := by
  have hl : x.toNat < l.length := by omega
  have e : rd_T41 l x = l[x.toNat] := by
    unfold rd_T41
    rw [List.getD_eq_getElem?_getD, List.getElem?_eq_getElem hl]
    rfl
  rw [List.drop_eq_getElem_cons hl, e, show (x + 1).toNat = x.toNat + 1 by omega]
  rfl
theorem ownsMap_block {H : Type} {w w' : World} {P : Program} {k : TypeId} {R : Value → Option (DataW H × List MemPlace)} {b n : Nat} {D : DataW H} (h : w.ownsMap P k R b n D) (he : Below w.heap.size w w') : w'.ownsMap P k R b n D := by
  obtain ⟨es, clock, hb, h2⟩ := h
  exact ⟨es, clock, blk_below hb he, h2⟩
theorem ownsMap_ne {H : Type} {w : World} {P : Program} {k : TypeId} {R : Value → Option (DataW H × List MemPlace)} {b n base : Nat} {D : DataW H} {ok : Nat → Prop} {v : Value} {xs : List S41} (ho : Kd.R k41 41 w base ok v xs) (h : w.ownsMap P k R b n D) : some b ≠ v.ownBlock := by
  intro e
  obtain ⟨cells, hc⟩ := Kd.R_typed ho _ e.symm
  obtain ⟨es, clock, hb, _⟩ := h
  rw [hb] at hc
  cases hc
theorem kept_wf {l : List S41} (h : l.all (fun x => (Lit.int .i64 x.f0).wf) = true) {x : Int} (h0 : 0 ≤ x) (hl : x < l.length) : (Lit.int .i64 (rd_T41 l x).f0).wf = true := by
  have hl' : x.toNat < l.length := by omega
  have e : rd_T41 l x = l[x.toNat] := by
    unfold rd_T41
    rw [List.getD_eq_getElem?_getD, List.getElem?_eq_getElem hl']
    rfl
  rw [e]
  exact List.all_eq_true.1 h _ (List.getElem_mem _)
set_option maxHeartbeats 1000000 in
set_option maxRecDepth 100000 in
theorem stripe_kept.calls (a0_0 : Int) (a0_1 : Int) (a0_2 : Int) (A0_3 : Option Addr) (c0_3 : Nat) (l0_3 : List Int) (A1 : Option Addr) (c1 : Nat) (l1 : List S41) (r : List S41) (w : World) (hr0_3 : Kd.C (Kd.int .i64) w A0_3 l0_3.length l0_3) (hc0_3 : l0_3.length ≤ c0_3) (hr1 : Kd.C k41 w A1 l1.length l1) (hc1 : l1.length ≤ c1) (h : stripe_kept.f a0_0 a0_1 a0_2 l0_3 l1 = some r) :
    Calls Try.prog 26 #[.agg #[.int .i64 a0_0, .int .i64 a0_1, .int .i64 a0_2, .slice A0_3 l0_3.length c0_3], .slice A1 l1.length c1] w fun e w' => ∃ v0_ : Value, e = .returned (v0_) ∧ Kd.R k41 41 w' w.heap.size (fun _ => True) v0_ r ∧ Below w.heap.size w w' := by
  have HR0 := Aside0.mk hr0_3
  have HC0 := Aside0.mk hc0_3
  have HR2 := Aside0.mk hr1
  have HC2 := Aside0.mk hc1
  have HB := Aside0.mk (Below.refl w.heap.size w)
  have hlen := hr1.2.1
  clear hr0_3 hc0_3 hr1 hc1
  unfold stripe_kept.f at h
  split at h
  case isFalse => cases h
  case isTrue hwl =>
  obtain ⟨hwf, hlen6⟩ := hwl
  have H := Aside0.mk h
  have HWF := Aside0.mk hwf
  clear h hwf
  have hu34 := Try.underlying34
  have hu41 := Try.underlying41
  have hu23 := Try.underlying23
  have hu99 := Try.underlying99
  have hmm := @run_makeMap Try.prog
  go_enter Try.func26, Try.ntmps26
  go_wp2_with fail
  have hcs : (w.alloc (.cells #[.int .i64 a0_0, .int .i64 a0_1, .int .i64 a0_2, .slice A0_3 l0_3.length c0_3] 34)).heap.size = w.heap.size + 1 := by simp
  have hm0 := World.ownsMap_made (H := Nat) (w.alloc (.cells #[.int .i64 a0_0, .int .i64 a0_1, .int .i64 a0_2, .slice A0_3 l0_3.length c0_3] 34)) Try.prog 99 (plainElem Try.prog 4)
  rw [hcs] at hm0
  go_loopw [6, 13] (fun v6 v wr => ∃ (x : Int) (xs : List S41) (seen : List Int) (D : DataW Nat), v = .int .i64 x ∧ 0 ≤ x ∧ x ≤ l1.length ∧ Aside0 (wr.ownsMap Try.prog 99 (plainElem Try.prog 4) (w.heap.size + 1) x.toNat D) ∧ Aside0 (Seen D seen) ∧ Aside0 (wr.heap[w.heap.size]? = some (.cells #[.int .i64 a0_0, .int .i64 a0_1, .int .i64 a0_2, .slice A0_3 l0_3.length c0_3] 34 (0, 0))) ∧ Aside0 (Kd.R k41 41 wr w.heap.size (fun _ => True) v6 xs) ∧ Aside0 (Below w.heap.size w wr) ∧ Aside0 (xs.length ≤ x.toNat) ∧ Aside0 (∃ rest, keptAt a0_0 a0_1 a0_2 l0_3 (l1.drop x.toNat) seen = some rest ∧ xs ++ rest = r)) (fun _ v _ => l1.length - (intOf v).toNat)
  case atStart => exact ⟨0, [], [], _, rfl, by omega, by omega, ⟨hm0⟩, ⟨Seen.nil⟩, ⟨(Below.heap_alloc _ _ _ (by simp)).trans (heap_alloc_new _ _)⟩, ⟨Kd.R_nil _ _ _ _ _⟩, ⟨below_alloc (below_alloc HB.out _) _⟩, ⟨by simp⟩, ⟨r, H.out, rfl⟩⟩
  case round =>
    obtain ⟨x, xs, seen, D, rfl, hx0, hx1, HM, HSeen, HBK, HO, HBR, HXL, HS⟩ := hrel
    by_cases hlt : x < (l1.length : Int)
    · obtain ⟨ad, e, hc0, hc1⟩ := at_T41 HR2.out x hx0 hlt
      cases e
      have st := kept_step (a0_0 := a0_0) (a0_1 := a0_1) (a0_2 := a0_2) (l0_3 := l0_3) hx0 hlt seen
      replace hc0 := pw_cell_below HBR.out hc0
      replace hc1 := pw_cell_below HBR.out hc1
      obtain ⟨rest, HS1, HS2⟩ := HS.out
      rw [st] at HS1
      clear st HS
      have hwf := kept_wf HWF.out hx0 hlt
      generalize rd_T41 l1 x = sx at hc0 hc1 HS1 hwf
      obtain ⟨i, d⟩ := sx
      simp only at hc0 hc1 HS1 hwf
      have hkey := placeKey_of hwf
      have hM1 := (HM.out.alloc (.cells #[.int .i64 i, .string d] 41)).alloc (.cells #[.int .i64 i] 99)
      obtain ⟨v, ps, hrun, hv⟩ := hM1.lookup placeLaw Try.underlying97 (Try.zeroValue4 _) (plainElem_bool Try.underlying4 false) hkey
      rw [HSeen.out.2 i hwf] at hv
      obtain rfl : v = .bool (decide (i ∈ seen)) := by
        unfold plainElem at hv
        rw [Try.underlying4] at hv
        cases v <;> simp at hv ⊢
        exact hv.1
      clear hM1 hv
      by_cases hin : i ∈ seen
      · rw [if_pos hin] at HS1
        have hd : decide (i ∈ seen) = true := decide_eq_true hin
        rw [hd] at hrun
        go_wp2
        go_roundw
        case measure =>
          show l1.length - (x + 1).toNat < l1.length - x.toNat
          omega
        case rel =>
          exact ⟨x + 1, xs, seen, D, rfl, by omega, by omega, ⟨((HM.out.alloc _).alloc _).mono (by omega)⟩, HSeen, ⟨blk_alloc (blk_alloc HBK.out _) _⟩, ⟨Kd.R_alloc (Kd.R_alloc HO.out _) _⟩, ⟨below_alloc (below_alloc HBR.out _) _⟩, ⟨by have := HXL.out; omega⟩, ⟨rest, HS1, HS2⟩⟩
      · rw [if_neg hin] at HS1
        have hd : decide (i ∈ seen) = false := decide_eq_false hin
        rw [hd] at hrun
        replace HS1 := Option.bind_eq_some_iff.mp HS1
        obtain ⟨b, hright, HS1⟩ := HS1
        have HRI := Aside0.mk hright
        clear hright
        obtain ⟨W2, hW2⟩ : ∃ W2, (wr.alloc (.cells #[.int .i64 i, .string d] 41)).alloc (.cells #[.int .i64 i] 99) = W2 := ⟨_, rfl⟩
        have BK2 : W2.heap[w.heap.size]? = some (.cells #[.int .i64 a0_0, .int .i64 a0_1, .int .i64 a0_2, .slice A0_3 l0_3.length c0_3] 34 (0, 0)) := by rw [← hW2]; exact blk_alloc (blk_alloc HBK.out _) _
        have BX2 : W2.heap[wr.heap.size]? = some (.cells #[.int .i64 i, .string d] 41 (0, 0)) := by rw [← hW2]; exact blk_alloc (blk_new wr _) _
        have BP2 : W2.heap[wr.heap.size + 1]? = some (.cells #[.int .i64 i] 99 (0, 0)) := by rw [← hW2]; have := blk_new (wr.alloc (.cells #[.int .i64 i, .string d] 41)) (.cells #[.int .i64 i] 99); rwa [World.size_alloc] at this
        have hk0 := blk_cell BK2 0
        have hk1 := blk_cell BK2 1
        have hk2 := blk_cell BK2 2
        have hk3 := blk_cell BK2 3
        have hx20 := blk_cell BX2 0
        have hx21 := blk_cell BX2 1
        have hp20 := blk_cell BP2 0
        have HM2 : W2.ownsMap Try.prog 99 (plainElem Try.prog 4) (w.heap.size + 1) x.toNat D := by rw [← hW2]; exact (HM.out.alloc _).alloc _
        have HO2 : Kd.R k41 41 W2 w.heap.size (fun _ => True) u6 xs := by rw [← hW2]; exact Kd.R_alloc (Kd.R_alloc HO.out _) _
        have HB2 : Below w.heap.size w W2 := by rw [← hW2]; exact below_alloc (below_alloc HBR.out _) _
        have hri := stripe_right.calls (d.size + 2) a0_0 a0_1 a0_2 A0_3 c0_3 l0_3 i d b W2 (Kd.C_below HR0.out HB2) HC0.out HRI.out
        rw [hW2] at hrun
        go_wp2_with fail
        refine hri.mono ?_
        rintro e W3 ⟨rfl, hb3⟩
        have BK3 := blk_below BK2 hb3
        have BX3 := blk_below BX2 hb3
        have BP3 := blk_below BP2 hb3
        have HM3 := ownsMap_block HM2 hb3
        have HO3 := Kd.R_below HO2 hb3
        have HB3 := below_step HB2 hb3
        clear hk0 hk1 hk2 hk3 hx20 hx21 hp20 BK2 BX2 BP2 HM2 HO2 hri hrun
        by_cases hbt : b = true
        · subst hbt
          rw [if_pos rfl] at HS1
          obtain ⟨rest', HS3, HS4⟩ := Option.map_eq_some_iff.mp HS1
          clear HS1
          have hx20 := blk_cell BX3 0
          have hx21 := blk_cell BX3 1
          have hp20 := blk_cell BP3 0
          obtain ⟨W4, hup, HM4, hg4⟩ := HM3.update placeLaw Try.underlying97 (show x.toNat < maxLen by have := hlen; simp [maxLen]; omega) hkey (plainElem_bool Try.underlying4 true)
          have hlow := HM.out.lt
          have hne4 : some (w.heap.size + 1) ≠ u6.ownBlock := ownsMap_ne HO3 HM3
          have BK4 := blk_grown BK3 hg4 (by simp)
          have BX4 := blk_grown BX3 hg4 (by simp; omega)
          have HO4 : Kd.R k41 41 W4 w.heap.size (fun _ => True) u6 xs := Kd.R_grown1 HO3 (by rfl) hg4 hne4
          have HB4 : Below w.heap.size w W4 := HB3.grown hg4 HB3.size (fun k e => by cases e; omega)
          have hy20 := blk_cell BX4 0
          have hy21 := blk_cell BX4 1
          have hSeen' := HSeen.out.put hwf
          clear hx20 hx21 BX3 BK3
          go_wp2_with (first | ((with_reducible refine gate_builtin (b := .append) (xs := #[.tmp 31, .tmp 33]) rfl ?_); at_builtin; refine Kd.R_append k41 (w0 := w) w.heap.size rfl (.tmp 31) (.tmp 33) 23 41 (.agg #[(.int .i64 0), (.string ⟨#[]⟩)]) 24 rfl Try.underlying23 info41 rfl (by decide) (by omega) u6 xs (⟨i, d⟩ : S41) [.int .i64 i, .string d] (fun _ => True) (fun _ => False) rfl rfl ?aP (fun _ hk => hk.elim) ?aF ?aO ?aB ?aS ?aL ?_; (case aP => exact k41_mkM _ _ _ (⟨i, d⟩ : S41)); (case aB => exact HB4); (case aF => exact (fun _ _ => trivial)); (case aO => first | exact HO4 | exact Kd.R_alloc HO4 _); (case aS => exact below_size HB4); (case aL => (have := hlen6; have := HXL.out; omega)); intro v5 w5 ho hb5 hg5 hq5))
          refine ⟨⟨x + 1, xs ++ [⟨i, d⟩], i :: seen, _, rfl, by omega, by omega, ⟨?_⟩, ⟨hSeen'⟩, ⟨?_⟩, ⟨ho⟩, ⟨hb5⟩, ⟨by have := HXL.out; simp; omega⟩, ⟨rest', HS3, by rw [List.append_assoc, ← HS2, ← HS4]; rfl⟩⟩, ?_⟩
          · exact World.ownsMap.kept ((by first | exact HM4 | exact HM4.alloc _)) hg5 (ownsMap_ne HO4 HM4) |>.mono (by omega)
          · exact blk_grown (by first | exact BK4 | exact blk_alloc BK4 _) hg5 (Kd.R_ne HO4 BK4 (by decide))
          · show l1.length - (x + 1).toNat < l1.length - x.toNat
            omega
        · obtain rfl : b = false := by simpa using hbt
          rw [if_neg (by decide)] at HS1
          go_wp2
          go_roundw
          case measure =>
            show l1.length - (x + 1).toNat < l1.length - x.toNat
            omega
          case rel =>
            exact ⟨x + 1, xs, seen, D, rfl, by omega, by omega, ⟨HM3.mono (by omega)⟩, HSeen, ⟨BK3⟩, ⟨HO3⟩, ⟨HB3⟩, ⟨by have := HXL.out; omega⟩, ⟨rest, HS1, HS2⟩⟩
    · obtain ⟨rest, HS1, HS2⟩ := HS.out
      obtain rfl : x = l1.length := by omega
      rw [show ((l1.length : Int)).toNat = l1.length from rfl, List.drop_length] at HS1
      simp only [keptAt, Option.some.injEq] at HS1
      subst HS1
      rw [List.append_nil] at HS2
      subst HS2
      go_wp2
      go_ret
      exact ⟨_, rfl, HO.out, HBR.out⟩
end Go.Proofs.Ythfddndmhjkeiaa.L
end
