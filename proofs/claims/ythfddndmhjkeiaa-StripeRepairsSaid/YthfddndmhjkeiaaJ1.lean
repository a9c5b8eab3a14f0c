/- Texts of this claim, put together by a small program of the session's own: F39, F74, F92, F75, F60, F40, MRepeat, F22, MLook, MSort, F87, MMat, MReduce. -/
import Derived.Test.YthfddndmhjkeiaaJ0
import Derived.Test.YthfddndmhjkeiaaShelf
import Derived.Shelf.SlSortCmp.NoneTotal
section
-- Printed for this claim by a small program of the session's own, drv.py, round the kit's print.py. Lean checks it.
namespace Go.Proofs.Ythfddndmhjkeiaa.L
open Go.RowKit Go.Proofs.YthfddndmhjkeiaaW.PrintWords Go.Proofs.YthfddndmhjkeiaaW.PrintLast Go.Proofs.YthfddndmhjkeiaaW.PrintMore
attribute [local go_sem] max2_int min2_int max_two min_two max_three min_three max_four min_four   -- for this text's walks alone
set_option linter.unusedVariables false
set_option linter.unusedSimpArgs false

/-! ### erasure_rowsOf: function 39 -/
def erasure_rowsOf.f (k : Nat) (a0_0 : Int) (a0_1 : Int) : Option (Int × Int × List Int) := (matrix_Identity.f k a0_0).bind fun bt146 => ((matrix_Cauchy.f k (wrap64 (a0_1 - a0_0)) a0_0).bind fun bt153 => (if bt153.2.2.2 = 0 then (if bt146.2.2.1.length + bt153.2.2.1.length < 17592186044416 then (some (a0_1, bt146.2.1, (bt146.2.2.1 ++ bt153.2.2.1))) else (none)) else (some (bt146.1, bt146.2.1, bt146.2.2.1))))
theorem erasure_rowsOf.mono : ∀ a0 a1 k, LeO (erasure_rowsOf.f k a0 a1) (erasure_rowsOf.f (k + 1) a0 a1) := by
  intro a0 a1 k
  unfold erasure_rowsOf.f
  repeat' first | (with_reducible exact matrix_Cauchy.mono _ _ _) | (with_reducible exact matrix_Identity.mono _ _) | (with_reducible exact LeO.refl _) | (with_reducible refine LeO.bind ?_ (fun _ => ?_))
def erasure_rowsOf.T4 : Bool × List (List Nat × List Nat) := (true, [([], []), ([0], [0]), ([], []), ([2], [2]), ([], []), ([4], [4]), ([3, 5], [3, 5]), ([0, 1, 2, 3], []), ([7, 1, 6, 0, 1, 2, 3], [1, 7]), ([0, 1, 2, 3, 4, 5, 6, 7, 8], []), ([9, 6, 8, 0, 1, 2, 3, 4, 5, 6, 7, 8], [6, 9])])
def erasure_rowsOf.B4 : List Nat := [0, 1, 0, 4, 0, 16, 60, 15, 255, 511, 1023]
theorem erasure_rowsOf.tab4 : rtab .any (opsOf Try.f39 4) = erasure_rowsOf.T4 := by kernel_rfl
theorem erasure_rowsOf.bits4 : waitsOk erasure_rowsOf.T4.2 erasure_rowsOf.B4 = true := by kernel_rfl
set_option maxHeartbeats 8000000 in
set_option maxRecDepth 100000 in
theorem erasure_rowsOf.calls (k : Nat) (a0_0 : Int) (a0_1 : Int) (r1 : Int) (r2 : Int) (r3 : List Int) (w : World) (h : erasure_rowsOf.f k a0_0 a0_1 = some (r1, r2, r3)) :
    Calls Try.prog 39 #[.agg #[.int .i64 a0_0, .int .i64 a0_1]] w fun e w' => ∃ v2_ : Value, e = .returned (.agg #[.int .i64 r1, .int .i64 r2, v2_]) ∧ Kd.R (Kd.int .i64) 3 w' w.heap.size (fun _ => True) v2_ r3 ∧ Below w.heap.size w w' := by
  have hu30 := Try.underlying30
  have hu79 := Try.underlying79
  have HB := Aside0.mk (Below.refl w.heap.size w)
  have H : ((matrix_Identity.f k a0_0).bind fun bt146 => ((matrix_Cauchy.f k (wrap64 (a0_1 - a0_0)) a0_0).bind fun bt153 => (if bt153.2.2.2 = 0 then (if bt146.2.2.1.length + bt153.2.2.1.length < 17592186044416 then (some (a0_1, bt146.2.1, (bt146.2.2.1 ++ bt153.2.2.1))) else (none)) else (some (bt146.1, bt146.2.1, bt146.2.2.1))))) = some (r1, r2, r3) := h
  clear h
  replace H := Option.bind_eq_some_iff.mp H
  obtain ⟨⟨t146, t147, t148, t151⟩, A20, H⟩ := H
  replace H : ((matrix_Cauchy.f k (wrap64 (a0_1 - a0_0)) a0_0).bind fun bt153 => (if bt153.2.2.2 = 0 then (if t148.length + bt153.2.2.1.length < 17592186044416 then (some (a0_1, t147, (t148 ++ bt153.2.2.1))) else (none)) else (some (t146, t147, t148)))) = some (r1, r2, r3) := H
  have A2 := Aside0.mk A20
  clear A20
  replace H := Option.bind_eq_some_iff.mp H
  obtain ⟨⟨t153, t154, t155, t158⟩, A30, H⟩ := H
  replace H : (if t158 = 0 then (if t148.length + t155.length < 17592186044416 then (some (a0_1, t147, (t148 ++ t155))) else (none)) else (some (t146, t147, t148))) = some (r1, r2, r3) := H
  have A3 := Aside0.mk A30
  clear A30
  by_cases c4 : t158 = 0
  · rw [if_pos c4] at H
    have c4b0 : (t158 == 0) = true := beq_iff_eq.mpr c4
    have c4b1 : (t158 != 0) = false := bne_eq_false_iff_eq.mpr c4
    clear c4
    by_cases c5 : t148.length + t155.length < 17592186044416
    · rw [if_pos c5] at H
      have LMc5 := Aside0.mk c5
      clear c5
      obtain ⟨y160, hy160⟩ : ∃ y_ : List Int, y_ = (t148 ++ t155) := ⟨_, rfl⟩
      replace H : (some (a0_1, t147, y160)) = some (r1, r2, r3) := by (rw [hy160]; with_reducible exact H)
      have Ny160 := Aside0.mk hy160
      clear hy160
      simp only [Option.some.injEq, Prod.mk.injEq] at H
      obtain ⟨rfl, rfl, rfl⟩ := H
      go_enter Try.func39, Try.ntmps39
      (go_wp2_with (first | ((with_reducible refine gate_dst (N := 1) rfl ?_); refine box_event ?hg (N := 1) ?hd (cs := #[.int .i64 a0_0, .int .i64 a0_1]) (t := 30) ?hr ?_; (case hd => rfl); (case hg => rfl); (case hr => (go_simp; done)); intro gb144 hg w6 hbox hb; have n0_ := Aside0.mk (below_step HB.out hb); have n1_ := Aside0.mk (hbox); have n2_ := Aside0.mk ((by rw [hg]; exact (below_size HB.out) : w.heap.size ≤ gb144)); have n3_ := Aside0.mk ((by rw [hg]; exact (below_size HB.out) : w.heap.size ≤ gb144)); clear HB; have HB := n0_; have BK144 := n1_; have GW144 := n2_; have GE144 := n3_; clear n0_ n1_ n2_ n3_; clear hb hbox hg) | ((with_reducible refine gate_dst (N := 2) rfl ?_); refine box_event ?hg (N := 2) ?hd (cs := #[.int .i64 0, .int .i64 0, .slice none 0 0]) (t := 79) ?hr ?_; (case hd => rfl); (case hg => rfl); (case hr => (go_simp; done)); intro gb145 hg w7 hbox hb; have n0_ := Aside0.mk (blk_below (g := gb144) (o := .cells #[.int .i64 a0_0, .int .i64 a0_1] 30 (0, 0)) (by exact BK144.out) hb); have n1_ := Aside0.mk (below_step HB.out hb); have n2_ := Aside0.mk (hbox); have n3_ := Aside0.mk ((by rw [hg]; exact (below_size HB.out) : w.heap.size ≤ gb145)); have n4_ := Aside0.mk ((by rw [hg]; exact (below_size HB.out) : w.heap.size ≤ gb145)); have n5_ := Aside0.mk ((by rw [hg]; exact Nat.ne_of_lt (blk_lt (g := gb144) (o := .cells #[.int .i64 a0_0, .int .i64 a0_1] 30 (0, 0)) (by exact BK144.out)) : gb144 ≠ gb145)); have n6_ := Aside0.mk ((by rw [hg]; exact Nat.ne_of_gt (blk_lt (g := gb144) (o := .cells #[.int .i64 a0_0, .int .i64 a0_1] 30 (0, 0)) (by exact BK144.out)) : gb145 ≠ gb144)); clear BK144 HB; have BK144 := n0_; have HB := n1_; have BK145 := n2_; have GW145 := n3_; have GE145 := n4_; have NB144_145 := n5_; have NB145_144 := n6_; clear n0_ n1_ n2_ n3_ n4_ n5_ n6_; clear hb hbox hg; have hnb8 := NB144_145.out; have hnc8 := NB145_144.out; have hcz9_0 : w7.cell? ⟨gb144, 0, none⟩ = some (.int .i64 a0_0) := (blk_cell BK144.out 0).trans rfl; have hcz9_1 : w7.cell? ⟨gb144, 1, none⟩ = some (.int .i64 a0_1) := (blk_cell BK144.out 1).trans rfl; have hfz9_0 := blk_frozen BK144.out 0; have hfz9_1 := blk_frozen BK144.out 1) | ((with_reducible refine gate_callee (f := 58) rfl ?_); refine goesL_ (some 10) rfl rfl Try.func58 (by kernel_rfl) rfl #[.int .i64 a0_0] rfl (by ((simp only [List.map_toArray, List.map_cons, List.map_nil])); (rfl)) ?_; (with_reducible refine (matrix_Identity.calls k a0_0 t146 t147 t148 t151 _ A2.out).mono ?_); rintro e w10 ⟨v149, rfl, ho0, hb⟩; refine ⟨_, rfl, ?_⟩; have n0_ := Aside0.mk (Kd.R_lower ho0 (below_size HB.out)); have n1_ := Aside0.mk (blk_below (g := gb144) (o := .cells #[.int .i64 a0_0, .int .i64 a0_1] 30 (0, 0)) (by exact BK144.out) hb); have n2_ := Aside0.mk (blk_below (g := gb145) (o := .cells #[.int .i64 0, .int .i64 0, .slice none 0 0] 79 (0, 0)) (by exact BK145.out) hb); have n3_ := Aside0.mk (below_step HB.out hb); clear BK144 BK145 HB; have HO150 := n0_; have BK144 := n1_; have BK145 := n2_; have HB := n3_; clear n0_ n1_ n2_ n3_; clear hb; clear ho0) | ((with_reducible refine gate_dst (N := 3) rfl ?_); refine box_event ?hg (N := 3) ?hd (cs := #[.int .i64 0, .int .i64 0, .slice none 0 0]) (t := 79) ?hr ?_; (case hd => rfl); (case hg => rfl); (case hr => (go_simp; done)); intro gb152 hg w11 hbox hb; have n0_ := Aside0.mk (Kd.R_below (by exact HO150.out) hb); have n1_ := Aside0.mk (blk_below (g := gb144) (o := .cells #[.int .i64 a0_0, .int .i64 a0_1] 30 (0, 0)) (by exact BK144.out) hb); have n2_ := Aside0.mk (blk_below (g := gb145) (o := .cells #[.int .i64 0, .int .i64 0, .slice none 0 0] 79 (0, 0)) (by exact BK145.out) hb); have n3_ := Aside0.mk (below_step HB.out hb); have n4_ := Aside0.mk (hbox); have n5_ := Aside0.mk ((by rw [hg]; exact (below_size HB.out) : w.heap.size ≤ gb152)); have n6_ := Aside0.mk ((by rw [hg]; exact (below_size HB.out) : w.heap.size ≤ gb152)); have n7_ := Aside0.mk ((by rw [hg]; exact Nat.ne_of_lt (blk_lt (g := gb144) (o := .cells #[.int .i64 a0_0, .int .i64 a0_1] 30 (0, 0)) (by exact BK144.out)) : gb144 ≠ gb152)); have n8_ := Aside0.mk ((by rw [hg]; exact Nat.ne_of_gt (blk_lt (g := gb144) (o := .cells #[.int .i64 a0_0, .int .i64 a0_1] 30 (0, 0)) (by exact BK144.out)) : gb152 ≠ gb144)); have n9_ := Aside0.mk ((by rw [hg]; exact Nat.ne_of_lt (blk_lt (g := gb145) (o := .cells #[.int .i64 0, .int .i64 0, .slice none 0 0] 79 (0, 0)) (by exact BK145.out)) : gb145 ≠ gb152)); have n10_ := Aside0.mk ((by rw [hg]; exact Nat.ne_of_gt (blk_lt (g := gb145) (o := .cells #[.int .i64 0, .int .i64 0, .slice none 0 0] 79 (0, 0)) (by exact BK145.out)) : gb152 ≠ gb145)); clear HO150 BK144 BK145 HB; have HO150 := n0_; have BK144 := n1_; have BK145 := n2_; have HB := n3_; have BK152 := n4_; have GW152 := n5_; have GE152 := n6_; have NB144_152 := n7_; have NB152_144 := n8_; have NB145_152 := n9_; have NB152_145 := n10_; clear n0_ n1_ n2_ n3_ n4_ n5_ n6_ n7_ n8_ n9_ n10_; clear hb hbox hg; have hnb12 := NB152_144.out; have hnc12 := NB144_152.out; have hnb13 := NB152_145.out; have hnc13 := NB145_152.out; have hcz14_0 : w11.cell? ⟨gb152, 0, none⟩ = some (.int .i64 0) := (blk_cell BK152.out 0).trans rfl; have hcz14_1 : w11.cell? ⟨gb152, 1, none⟩ = some (.int .i64 0) := (blk_cell BK152.out 1).trans rfl; have hcz14_2 : w11.cell? ⟨gb152, 2, none⟩ = some (.slice none 0 0) := (blk_cell BK152.out 2).trans rfl; have hfz14_0 := blk_frozen BK152.out 0; have hfz14_1 := blk_frozen BK152.out 1; have hfz14_2 := blk_frozen BK152.out 2; obtain ⟨Ao15, co15, eo15⟩ := Kd.R_slice HO150.out; subst eo15; have hcz16_0 : w11.cell? ⟨gb144, 0, none⟩ = some (.int .i64 a0_0) := (blk_cell BK144.out 0).trans rfl; have hcz16_1 : w11.cell? ⟨gb144, 1, none⟩ = some (.int .i64 a0_1) := (blk_cell BK144.out 1).trans rfl; have hfz16_0 := blk_frozen BK144.out 0; have hfz16_1 := blk_frozen BK144.out 1) | ((with_reducible refine gate_callee (f := 59) rfl ?_); refine goesL_ (some 21) rfl rfl Try.func59 (by kernel_rfl) rfl #[.int .i64 (wrap64 (a0_1 - a0_0)), .int .i64 a0_0] rfl (by ((simp only [List.map_toArray, List.map_cons, List.map_nil])); (rfl)) ?_; (with_reducible refine (matrix_Cauchy.calls k (wrap64 (a0_1 - a0_0)) a0_0 t153 t154 t155 t158 _ A3.out).mono ?_); rintro e w17 ⟨v156, rfl, ho0, hb⟩; refine ⟨_, rfl, ?_⟩; have n0_ := Aside0.mk (Kd.R_elder' (by exact (Kd.R_mono (Kd.R_far (p := ⟨gb152, 2, none⟩) (Kd.R_far (p := ⟨gb152, 1, none⟩) (Kd.R_far (p := ⟨gb152, 0, none⟩) (Kd.R_types HO150.out BK152.out (by decide)) (fun _ hk => hk.2) (.int .i64 t146)) (fun _ hk => hk.2) (.int .i64 t147)) (fun _ hk => hk.2) (.slice Ao15 t148.length co15)) (fun _ h_ => h_.1))) (Kd.R_base ho0) hb); have n1_ := Aside0.mk (Kd.R_lower (Kd.R_new' ho0 (Kd.R_lt (by exact (Kd.R_mono (Kd.R_far (p := ⟨gb152, 2, none⟩) (Kd.R_far (p := ⟨gb152, 1, none⟩) (Kd.R_far (p := ⟨gb152, 0, none⟩) (Kd.R_types HO150.out BK152.out (by decide)) (fun _ hk => hk.2) (.int .i64 t146)) (fun _ hk => hk.2) (.int .i64 t147)) (fun _ hk => hk.2) (.slice Ao15 t148.length co15)) (fun _ h_ => h_.1))))) (below_size (by repeat ((with_reducible first | exact HB.out | refine below_set ?_ GE152.out))))); have n2_ := Aside0.mk (blk_below (g := gb144) (o := .cells #[.int .i64 a0_0, .int .i64 a0_1] 30 (0, 0)) (by refine blk_far ?_ NB144_152.out _; refine blk_far ?_ NB144_152.out _; refine blk_far ?_ NB144_152.out _; exact BK144.out) hb); have n3_ := Aside0.mk (blk_below (g := gb145) (o := .cells #[.int .i64 0, .int .i64 0, .slice none 0 0] 79 (0, 0)) (by refine blk_far ?_ NB145_152.out _; refine blk_far ?_ NB145_152.out _; refine blk_far ?_ NB145_152.out _; exact BK145.out) hb); have n4_ := Aside0.mk (blk_below (g := gb152) (o := .cells #[.int .i64 t146, .int .i64 t147, .slice Ao15 t148.length co15] 79 (0, 0)) (by refine blk_put (cs := #[.int .i64 t146, .int .i64 t147, .slice none 0 0]) ?_ 2 _ rfl; refine blk_put (cs := #[.int .i64 t146, .int .i64 0, .slice none 0 0]) ?_ 1 _ rfl; refine blk_put (cs := #[.int .i64 0, .int .i64 0, .slice none 0 0]) ?_ 0 _ rfl; exact BK152.out) hb); have n5_ := Aside0.mk (below_step (by repeat ((with_reducible first | exact HB.out | refine below_set ?_ GE152.out))) hb); clear HO150 BK144 BK145 BK152 HB; have HO150 := n0_; have HO157 := n1_; have BK144 := n2_; have BK145 := n3_; have BK152 := n4_; have HB := n5_; clear n0_ n1_ n2_ n3_ n4_ n5_; clear hb; clear ho0) | ((with_reducible refine gate_dst (N := 5) rfl ?_); refine box_event ?hg (N := 5) ?hd (cs := #[.int .i64 0, .int .i64 0, .slice none 0 0]) (t := 79) ?hr ?_; (case hd => rfl); (case hg => rfl); (case hr => (go_simp; done)); intro gb159 hg w18 hbox hb; have n0_ := Aside0.mk (Kd.R_below (by exact HO150.out) hb); have n1_ := Aside0.mk (Kd.R_below (by exact HO157.out) hb); have n2_ := Aside0.mk (blk_below (g := gb144) (o := .cells #[.int .i64 a0_0, .int .i64 a0_1] 30 (0, 0)) (by exact BK144.out) hb); have n3_ := Aside0.mk (blk_below (g := gb145) (o := .cells #[.int .i64 0, .int .i64 0, .slice none 0 0] 79 (0, 0)) (by exact BK145.out) hb); have n4_ := Aside0.mk (blk_below (g := gb152) (o := .cells #[.int .i64 t146, .int .i64 t147, .slice Ao15 t148.length co15] 79 (0, 0)) (by exact BK152.out) hb); have n5_ := Aside0.mk (below_step HB.out hb); have n6_ := Aside0.mk (hbox); have n7_ := Aside0.mk ((by rw [hg]; exact (below_size HB.out) : w.heap.size ≤ gb159)); have n8_ := Aside0.mk ((by rw [hg]; exact (below_size HB.out) : w.heap.size ≤ gb159)); have n9_ := Aside0.mk ((by rw [hg]; exact Nat.ne_of_lt (blk_lt (g := gb144) (o := .cells #[.int .i64 a0_0, .int .i64 a0_1] 30 (0, 0)) (by exact BK144.out)) : gb144 ≠ gb159)); have n10_ := Aside0.mk ((by rw [hg]; exact Nat.ne_of_gt (blk_lt (g := gb144) (o := .cells #[.int .i64 a0_0, .int .i64 a0_1] 30 (0, 0)) (by exact BK144.out)) : gb159 ≠ gb144)); have n11_ := Aside0.mk ((by rw [hg]; exact Nat.ne_of_lt (blk_lt (g := gb145) (o := .cells #[.int .i64 0, .int .i64 0, .slice none 0 0] 79 (0, 0)) (by exact BK145.out)) : gb145 ≠ gb159)); have n12_ := Aside0.mk ((by rw [hg]; exact Nat.ne_of_gt (blk_lt (g := gb145) (o := .cells #[.int .i64 0, .int .i64 0, .slice none 0 0] 79 (0, 0)) (by exact BK145.out)) : gb159 ≠ gb145)); have n13_ := Aside0.mk ((by rw [hg]; exact Nat.ne_of_lt (blk_lt (g := gb152) (o := .cells #[.int .i64 t146, .int .i64 t147, .slice Ao15 t148.length co15] 79 (0, 0)) (by exact BK152.out)) : gb152 ≠ gb159)); have n14_ := Aside0.mk ((by rw [hg]; exact Nat.ne_of_gt (blk_lt (g := gb152) (o := .cells #[.int .i64 t146, .int .i64 t147, .slice Ao15 t148.length co15] 79 (0, 0)) (by exact BK152.out)) : gb159 ≠ gb152)); clear HO150 HO157 BK144 BK145 BK152 HB; have HO150 := n0_; have HO157 := n1_; have BK144 := n2_; have BK145 := n3_; have BK152 := n4_; have HB := n5_; have BK159 := n6_; have GW159 := n7_; have GE159 := n8_; have NB144_159 := n9_; have NB159_144 := n10_; have NB145_159 := n11_; have NB159_145 := n12_; have NB152_159 := n13_; have NB159_152 := n14_; clear n0_ n1_ n2_ n3_ n4_ n5_ n6_ n7_ n8_ n9_ n10_ n11_ n12_ n13_ n14_; clear hb hbox hg; have hnb19 := NB159_144.out; have hnc19 := NB144_159.out; have hnb20 := NB159_145.out; have hnc20 := NB145_159.out; have hnb21 := NB159_152.out; have hnc21 := NB152_159.out; have hcz22_0 : w18.cell? ⟨gb159, 0, none⟩ = some (.int .i64 0) := (blk_cell BK159.out 0).trans rfl; have hcz22_1 : w18.cell? ⟨gb159, 1, none⟩ = some (.int .i64 0) := (blk_cell BK159.out 1).trans rfl; have hcz22_2 : w18.cell? ⟨gb159, 2, none⟩ = some (.slice none 0 0) := (blk_cell BK159.out 2).trans rfl; have hfz22_0 := blk_frozen BK159.out 0; have hfz22_1 := blk_frozen BK159.out 1; have hfz22_2 := blk_frozen BK159.out 2; obtain ⟨Ao23, co23, eo23⟩ := Kd.R_slice HO157.out; subst eo23)))
      have n0_ : Aside0 (Kd.R (Kd.int .i64) 3 (((w18.setCell ⟨gb159, 0, none⟩ (.int .i64 t153)).setCell ⟨gb159, 1, none⟩ (.int .i64 t154)).setCell ⟨gb159, 2, none⟩ (.slice Ao23 t155.length co23)) w.heap.size (fun k_ => some k_ ≠ (.slice Ao23 t155.length co23 : Value).ownBlock) (.slice Ao15 t148.length co15) t148) := ⟨by exact Kd.R_mono (Kd.R_far (p := ⟨gb159, 2, none⟩) (Kd.R_far (p := ⟨gb159, 1, none⟩) (Kd.R_far (p := ⟨gb159, 0, none⟩) (Kd.R_types HO150.out BK159.out (by decide)) (fun _ hk => hk.2) (.int .i64 t153)) (fun _ hk => hk.2) (.int .i64 t154)) (fun _ hk => hk.2) (.slice Ao23 t155.length co23)) (fun _ hk => hk.1.2)⟩
      have n1_ : Aside0 (Kd.R (Kd.int .i64) 3 (((w18.setCell ⟨gb159, 0, none⟩ (.int .i64 t153)).setCell ⟨gb159, 1, none⟩ (.int .i64 t154)).setCell ⟨gb159, 2, none⟩ (.slice Ao23 t155.length co23)) w.heap.size (fun k_ => some k_ ≠ (.slice Ao15 t148.length co15 : Value).ownBlock) (.slice Ao23 t155.length co23) t155) := ⟨by exact Kd.R_mono (Kd.R_far (p := ⟨gb159, 2, none⟩) (Kd.R_far (p := ⟨gb159, 1, none⟩) (Kd.R_far (p := ⟨gb159, 0, none⟩) (Kd.R_types HO157.out BK159.out (by decide)) (fun _ hk => hk.2) (.int .i64 t153)) (fun _ hk => hk.2) (.int .i64 t154)) (fun _ hk => hk.2) (.slice Ao23 t155.length co23)) (fun _ hk => hk.1.2)⟩
      have n2_ : Aside0 ((((w18.setCell ⟨gb159, 0, none⟩ (.int .i64 t153)).setCell ⟨gb159, 1, none⟩ (.int .i64 t154)).setCell ⟨gb159, 2, none⟩ (.slice Ao23 t155.length co23)).heap[gb144]? = some (.cells #[.int .i64 a0_0, .int .i64 a0_1] 30 (0, 0))) := ⟨by refine blk_far ?_ NB144_159.out _; refine blk_far ?_ NB144_159.out _; refine blk_far ?_ NB144_159.out _; exact BK144.out⟩
      have n3_ : Aside0 ((((w18.setCell ⟨gb159, 0, none⟩ (.int .i64 t153)).setCell ⟨gb159, 1, none⟩ (.int .i64 t154)).setCell ⟨gb159, 2, none⟩ (.slice Ao23 t155.length co23)).heap[gb145]? = some (.cells #[.int .i64 0, .int .i64 0, .slice none 0 0] 79 (0, 0))) := ⟨by refine blk_far ?_ NB145_159.out _; refine blk_far ?_ NB145_159.out _; refine blk_far ?_ NB145_159.out _; exact BK145.out⟩
      have n4_ : Aside0 ((((w18.setCell ⟨gb159, 0, none⟩ (.int .i64 t153)).setCell ⟨gb159, 1, none⟩ (.int .i64 t154)).setCell ⟨gb159, 2, none⟩ (.slice Ao23 t155.length co23)).heap[gb152]? = some (.cells #[.int .i64 t146, .int .i64 t147, .slice Ao15 t148.length co15] 79 (0, 0))) := ⟨by refine blk_far ?_ NB152_159.out _; refine blk_far ?_ NB152_159.out _; refine blk_far ?_ NB152_159.out _; exact BK152.out⟩
      have n5_ : Aside0 ((((w18.setCell ⟨gb159, 0, none⟩ (.int .i64 t153)).setCell ⟨gb159, 1, none⟩ (.int .i64 t154)).setCell ⟨gb159, 2, none⟩ (.slice Ao23 t155.length co23)).heap[gb159]? = some (.cells #[.int .i64 t153, .int .i64 t154, .slice Ao23 t155.length co23] 79 (0, 0))) := ⟨by refine blk_put (cs := #[.int .i64 t153, .int .i64 t154, .slice none 0 0]) ?_ 2 _ rfl; refine blk_put (cs := #[.int .i64 t153, .int .i64 0, .slice none 0 0]) ?_ 1 _ rfl; refine blk_put (cs := #[.int .i64 0, .int .i64 0, .slice none 0 0]) ?_ 0 _ rfl; exact BK159.out⟩
      have n6_ : Aside0 (Below w.heap.size w (((w18.setCell ⟨gb159, 0, none⟩ (.int .i64 t153)).setCell ⟨gb159, 1, none⟩ (.int .i64 t154)).setCell ⟨gb159, 2, none⟩ (.slice Ao23 t155.length co23))) := ⟨by repeat ((with_reducible first | exact HB.out | refine below_set ?_ GE159.out))⟩
      ((clear HO150))
      ((clear HO157))
      ((clear BK144))
      ((clear BK145))
      ((clear BK152))
      ((clear BK159))
      ((clear HB))
      generalize (((w18.setCell ⟨gb159, 0, none⟩ (.int .i64 t153)).setCell ⟨gb159, 1, none⟩ (.int .i64 t154)).setCell ⟨gb159, 2, none⟩ (.slice Ao23 t155.length co23)) = w24 at n0_ n1_ n2_ n3_ n4_ n5_ n6_ ⊢
      have HO150 := n0_
      have HO157 := n1_
      have BK144 := n2_
      have BK145 := n3_
      have BK152 := n4_
      have BK159 := n5_
      have HB := n6_
      clear n0_ n1_ n2_ n3_ n4_ n5_ n6_
      have n0_ := Aside0.mk (Kd.R_drew HO150.out)
      have n1_ := Aside0.mk (Kd.R_drew HO157.out)
      have n2_ := Aside0.mk (blk_drew BK144.out)
      have n3_ := Aside0.mk (blk_drew BK145.out)
      have n4_ := Aside0.mk (blk_drew BK152.out)
      have n5_ := Aside0.mk (blk_drew BK159.out)
      have n6_ := Aside0.mk (below_drew1 HB.out)
      clear HO150 HO157 BK144 BK145 BK152 BK159 HB
      have HO150 := n0_
      have HO157 := n1_
      have BK144 := n2_
      have BK145 := n3_
      have BK152 := n4_
      have BK159 := n5_
      have HB := n6_
      clear n0_ n1_ n2_ n3_ n4_ n5_ n6_
      refine start_ (n := 11) (S := fun w' => w'.cell? ⟨gb144, 0, none⟩ = some (.int .i64 a0_0) ∧ w'.cell? ⟨gb144, 1, none⟩ = some (.int .i64 a0_1) ∧ w'.cell? ⟨gb152, 0, none⟩ = some (.int .i64 t146) ∧ w'.cell? ⟨gb152, 1, none⟩ = some (.int .i64 t147) ∧ w'.cell? ⟨gb152, 2, none⟩ = some (.slice Ao15 t148.length co15) ∧ w'.cell? ⟨gb159, 0, none⟩ = some (.int .i64 t153) ∧ w'.cell? ⟨gb159, 1, none⟩ = some (.int .i64 t154) ∧ w'.cell? ⟨gb159, 2, none⟩ = some (.slice Ao23 t155.length co23)) (ds := [8, 10]) #[false, false, false, false, false, false, false, false, false, false, false] (by kernel_rfl) rfl rfl ⟨(blk_cell BK144.out 0).trans rfl, (blk_cell BK144.out 1).trans rfl, (blk_cell BK152.out 0).trans rfl, (blk_cell BK152.out 1).trans rfl, (blk_cell BK152.out 2).trans rfl, (blk_cell BK159.out 0).trans rfl, (blk_cell BK159.out 1).trans rfl, (blk_cell BK159.out 2).trans rfl⟩ (fun hHeld => ?_); refine with_tabW erasure_rowsOf.tab4 erasure_rowsOf.bits4 (fun HT_ HW_ => ?_)
      generalize w24.drew = w25 at HO150 HO157 BK144 BK145 BK152 BK159 HB hHeld ⊢
      refine pure_ (i := 0) (N := some 26) (v := ?_) (a' := ?_) #[true, false, false, false, false, false, false, false, false, false, false] rfl rfl (any_of HT_.out (by kernel_rfl)) (fun _ _ _ h => h) (Or.inl ⟨by rfl, ?_⟩) ?_ ?_
      rotate_left
      · intro w'
        go_simp
        with_reducible rfl
      rotate_left
      · simp only [Act.put, List.setIfInBounds_toArray, List.set_cons_zero, List.set_cons_succ, i64_w, i32_w]
        rfl
      refine pure_ (i := 2) (N := some 28) (v := ?_) (a' := ?_) #[true, false, true, false, false, false, false, false, false, false, false] rfl rfl (any_of HT_.out (by kernel_rfl)) (fun _ _ _ h => h) (Or.inl ⟨by rfl, ?_⟩) ?_ ?_
      rotate_left
      · intro w'
        go_simp
        with_reducible rfl
      rotate_left
      · simp only [Act.put, List.setIfInBounds_toArray, List.set_cons_zero, List.set_cons_succ, i64_w, i32_w]
        rfl
      refine pure_ (i := 4) (N := some 30) (v := ?_) (a' := ?_) #[true, false, true, false, true, false, false, false, false, false, false] rfl rfl (any_of HT_.out (by kernel_rfl)) (fun _ _ _ h => h) (Or.inl ⟨by rfl, ?_⟩) ?_ ?_
      rotate_left
      · intro w'
        go_simp
        with_reducible rfl
      rotate_left
      · simp only [Act.put, List.setIfInBounds_toArray, List.set_cons_zero, List.set_cons_succ, i64_w, i32_w]
        rfl
      refine take_ (i := 1) (N := some 27) (v := ?_) (a' := ?_) #[true, true, true, false, true, false, false, false, false, false, false] rfl rfl (take_ofW HT_.out HW_.out (by kernel_rfl)) (fun _ _ _ h => h) (Or.inl ⟨by rfl, ?_⟩) hHeld ?_ ?_
      rotate_left
      · rintro w' ⟨s0, s1, s2, s3, s4, s5, s6, s7⟩
        go_simp
        with_reducible rfl
      rotate_left
      · simp only [Act.put, List.setIfInBounds_toArray, List.set_cons_zero, List.set_cons_succ, i64_w, i32_w]
        rfl
      refine take_ (i := 3) (N := some 29) (v := ?_) (a' := ?_) #[true, true, true, true, true, false, false, false, false, false, false] rfl rfl (take_ofW HT_.out HW_.out (by kernel_rfl)) (fun _ _ _ h => h) (Or.inl ⟨by rfl, ?_⟩) hHeld ?_ ?_
      rotate_left
      · rintro w' ⟨s0, s1, s2, s3, s4, s5, s6, s7⟩
        go_simp
        with_reducible rfl
      rotate_left
      · simp only [Act.put, List.setIfInBounds_toArray, List.set_cons_zero, List.set_cons_succ, i64_w, i32_w]
        rfl
      refine pure_ (i := 7) (N := some 33) (v := ?_) (a' := ?_) #[true, true, true, true, true, false, false, true, false, false, false] rfl rfl (any_of HT_.out (by kernel_rfl)) (fun _ _ _ h => h) (Or.inl ⟨by rfl, ?_⟩) ?_ ?_
      rotate_left
      · intro w'
        go_simp
        with_reducible rfl
      rotate_left
      · simp only [Act.put, List.setIfInBounds_toArray, List.set_cons_zero, List.set_cons_succ, i64_w, i32_w]
        rfl
      refine take_ (i := 5) (N := some 31) (v := ?_) (a' := ?_) #[true, true, true, true, true, true, false, true, false, false, false] rfl rfl (take_ofW HT_.out HW_.out (by kernel_rfl)) (fun _ _ _ h => h) (Or.inl ⟨by rfl, ?_⟩) hHeld ?_ ?_
      rotate_left
      · rintro w' ⟨s0, s1, s2, s3, s4, s5, s6, s7⟩
        go_simp
        with_reducible rfl
      rotate_left
      · simp only [Act.put, List.setIfInBounds_toArray, List.set_cons_zero, List.set_cons_succ, i64_w, i32_w]
        rfl
      refine one_ (i := 6) (N := some 32) #[true, true, true, true, true, true, true, true, false, false, false] rfl rfl (one_of HT_.out (by kernel_rfl)) (by decide) (fun K hK => ?_)
      refine Kd.R_append_rows_step (Kd.int .i64) (w0 := w) w.heap.size (by rfl) (.tmp 29) (.tmp 31) 22 3 (.int .i64 0) 8 rfl Try.underlying22 info3 rfl (by decide) (by omega) (.slice Ao15 t148.length co15) t148 t155 _ _ _ (fun k_ => some k_ ≠ (.slice Ao23 t155.length co23 : Value).ownBlock) (fun _ => False) rfl rfl ?aO ?aR (fun _ _ h => h) (fun _ h => h.elim) ?aF ?aB ?aS ?aL ?_
      (case aR => repeat ((exact (Kd.R_reads' HO157.out).2.2)))
      (case aB => exact HB.out)
      (case aF => exact (fun k_ hk => Kd.fresh' (Kd.R_lt (by exact HO157.out)) k_ hk))
      (case aO => exact (by exact HO150.out))
      (case aS => exact (below_size HB.out))
      (case aL => have := LMc5.out; omega)
      intro v161 w26 ho hb hg hat
      rw [← Ny160.out] at ho
      have n0_ := Aside0.mk (blk_grown (g := gb144) (o := .cells #[.int .i64 a0_0, .int .i64 a0_1] 30 (0, 0)) (by exact BK144.out) hg (Kd.R_ne HO150.out BK144.out (by decide)))
      have n1_ := Aside0.mk (blk_grown (g := gb145) (o := .cells #[.int .i64 0, .int .i64 0, .slice none 0 0] 79 (0, 0)) (by exact BK145.out) hg (Kd.R_ne HO150.out BK145.out (by decide)))
      have n2_ := Aside0.mk (blk_grown (g := gb152) (o := .cells #[.int .i64 t146, .int .i64 t147, .slice Ao15 t148.length co15] 79 (0, 0)) (by exact BK152.out) hg (Kd.R_ne HO150.out BK152.out (by decide)))
      have n3_ := Aside0.mk (Kd.R_after (ok := (fun _ => True)) (by exact Kd.R_mono HO157.out (fun _ hk => ⟨trivial, hk⟩)) hg hat)
      have n4_ := Aside0.mk (blk_grown (g := gb159) (o := .cells #[.int .i64 t153, .int .i64 t154, .slice Ao23 t155.length co23] 79 (0, 0)) (by exact BK159.out) hg (Kd.R_ne HO150.out BK159.out (by decide)))
      have n5_ := Aside0.mk (hb)
      have n6_ := Aside0.mk (ho)
      clear BK144 BK145 BK152 HO157 BK159 HB HO150
      have BK144 := n0_
      have BK145 := n1_
      have BK152 := n2_
      have HO157 := n3_
      have BK159 := n4_
      have HB := n5_
      have HO162 := n6_
      clear n0_ n1_ n2_ n3_ n4_ n5_ n6_ ho hb hg hat
      obtain ⟨Ao28, co28, eo28⟩ := Kd.R_slice HO162.out
      ((subst eo28))
      refine hK.out _ _ ⟨(blk_cell BK144.out 0).trans rfl, (blk_cell BK144.out 1).trans rfl, (blk_cell BK152.out 0).trans rfl, (blk_cell BK152.out 1).trans rfl, (blk_cell BK152.out 2).trans rfl, (blk_cell BK159.out 0).trans rfl, (blk_cell BK159.out 1).trans rfl, (blk_cell BK159.out 2).trans rfl⟩ (fun hHeld => ?_)
      clear hK K
      refine norm_ (a' := ?_) ?_ ?_
      rotate_left
      · show Act.put _ (some 32) _ = _
        simp only [Act.put, List.setIfInBounds_toArray, List.set_cons_zero, List.set_cons_succ, i64_w, i32_w]
        rfl
      refine last_ (i := 8) (N := none) #[true, true, true, true, true, true, true, true, true, false, false] rfl rfl (one_of HT_.out (by kernel_rfl)) (by decide) (fun K hK => ?_)
      have hs27 : w26.cell? ⟨gb152, 0, none⟩ = some (.int .i64 t146) := (blk_cell BK152.out 0).trans rfl
      have hfs27 := blk_frozen BK152.out 0
      have hns27_0 := NB144_152.out
      have hns27_1 := NB145_152.out
      have hns27_3 := NB159_152.out
      have hms27_0 := NB152_144.out
      have hms27_1 := NB152_145.out
      have hms27_3 := NB152_159.out
      refine skip_ (w1 := ?_) (by rfl) rfl ?_ ?_
      rotate_left
      · go_simp
        rfl
      refine hK.out _ _ ?_
      clear hK K
      refine pure_ (i := 9) (N := some 34) (v := ?_) (a' := ?_) #[true, true, true, true, true, true, true, true, true, true, false] rfl rfl (any_of HT_.out (by kernel_rfl)) (fun _ _ _ h => h) (Or.inl ⟨by rfl, ?_⟩) ?_ ?_
      rotate_left
      · intro w'
        go_simp
        with_reducible rfl
      rotate_left
      · simp only [Act.put, List.setIfInBounds_toArray, List.set_cons_zero, List.set_cons_succ, i64_w, i32_w]
        rfl
      refine last_ (i := 10) (N := none) #[true, true, true, true, true, true, true, true, true, true, true] rfl rfl (one_of HT_.out (by kernel_rfl)) (by decide) (fun K hK => ?_)
      have hs29 : w26.cell? ⟨gb152, 2, none⟩ = some (.slice Ao15 t148.length co15) := (blk_cell BK152.out 2).trans rfl
      have hfs29 := blk_frozen BK152.out 2
      have hns29_0 := NB144_152.out
      have hns29_1 := NB145_152.out
      have hns29_3 := NB159_152.out
      have hms29_0 := NB152_144.out
      have hms29_1 := NB152_145.out
      have hms29_3 := NB152_159.out
      refine skip_ (w1 := ?_) (by rfl) rfl ?_ ?_
      rotate_left
      · go_simp
        rfl
      refine hK.out _ _ ?_
      clear hK K
      refine done_ (done_of HT_.out (by kernel_rfl)) ?_
      have hcz30_0 : w26.cell? ⟨gb152, 0, none⟩ = some (.int .i64 t146) := (blk_cell BK152.out 0).trans rfl
      have hcz30_1 : w26.cell? ⟨gb152, 1, none⟩ = some (.int .i64 t147) := (blk_cell BK152.out 1).trans rfl
      have hcz30_2 : w26.cell? ⟨gb152, 2, none⟩ = some (.slice Ao15 t148.length co15) := (blk_cell BK152.out 2).trans rfl
      have hfz30_0 := blk_frozen BK152.out 0
      have hfz30_1 := blk_frozen BK152.out 1
      have hfz30_2 := blk_frozen BK152.out 2
      have hcz31_0 : w26.cell? ⟨gb145, 0, none⟩ = some (.int .i64 0) := (blk_cell BK145.out 0).trans rfl
      have hcz31_1 : w26.cell? ⟨gb145, 1, none⟩ = some (.int .i64 0) := (blk_cell BK145.out 1).trans rfl
      have hcz31_2 : w26.cell? ⟨gb145, 2, none⟩ = some (.slice none 0 0) := (blk_cell BK145.out 2).trans rfl
      have hfz31_0 := blk_frozen BK145.out 0
      have hfz31_1 := blk_frozen BK145.out 1
      have hfz31_2 := blk_frozen BK145.out 2
      (go_wp2)
      refine bodyPost_ret (results_cell_row rfl _ _ gb145 79 #[.int .i64 a0_1, .int .i64 t147, .slice Ao28 y160.length co28] (0, 0) _ rfl (by refine blk_put (cs := #[.int .i64 a0_1, .int .i64 t147, .slice none 0 0]) ?_ 2 _ rfl; refine blk_put (cs := #[.int .i64 a0_1, .int .i64 0, .slice none 0 0]) ?_ 1 _ rfl; refine blk_put (cs := #[.int .i64 0, .int .i64 0, .slice none 0 0]) ?_ 0 _ rfl; refine blk_far ?_ NB145_152.out _; refine blk_far ?_ NB145_152.out _; exact BK145.out) Try.underlying79 rfl (by kernel_rfl)) rfl ?_
      exact ⟨_, by (rfl), by exact Kd.R_mono (Kd.R_far (p := ⟨gb145, 2, none⟩) (Kd.R_far (p := ⟨gb145, 1, none⟩) (Kd.R_far (p := ⟨gb145, 0, none⟩) (Kd.R_far (p := ⟨gb152, 2, none⟩) (Kd.R_far (p := ⟨gb152, 0, none⟩) (Kd.R_types (Kd.R_types HO162.out BK152.out (by decide)) BK145.out (by decide)) (fun _ hk => hk.1.2) (.int .i64 a0_1)) (fun _ hk => hk.1.2) (.slice Ao28 y160.length co28)) (fun _ hk => hk.2) (.int .i64 a0_1)) (fun _ hk => hk.2) (.int .i64 t147)) (fun _ hk => hk.2) (.slice Ao28 y160.length co28)) (fun _ hk => trivial), by repeat ((with_reducible first | exact HB.out | refine below_set ?_ GE145.out | refine below_set ?_ GE152.out))⟩
    · rw [if_neg c5] at H
      exact absurd H (by simp)
  · rw [if_neg c4] at H
    have c4b0 : (t158 == 0) = false := beq_eq_false_iff_ne.mpr c4
    have c4b1 : (t158 != 0) = true := bne_iff_ne.mpr c4
    simp only [Option.some.injEq, Prod.mk.injEq] at H
    obtain ⟨rfl, rfl, rfl⟩ := H
    go_enter Try.func39, Try.ntmps39
    go_wp2_with (first | ((with_reducible refine gate_dst (N := 1) rfl ?_); refine box_event ?hg (N := 1) ?hd (cs := #[.int .i64 a0_0, .int .i64 a0_1]) (t := 30) ?hr ?_; (case hd => rfl); (case hg => rfl); (case hr => (go_simp; done)); intro gb144 hg w32 hbox hb; have n0_ := Aside0.mk (below_step HB.out hb); have n1_ := Aside0.mk (hbox); have n2_ := Aside0.mk ((by rw [hg]; exact (below_size HB.out) : w.heap.size ≤ gb144)); have n3_ := Aside0.mk ((by rw [hg]; exact (below_size HB.out) : w.heap.size ≤ gb144)); clear HB; have HB := n0_; have BK144 := n1_; have GW144 := n2_; have GE144 := n3_; clear n0_ n1_ n2_ n3_; clear hb hbox hg) | ((with_reducible refine gate_dst (N := 2) rfl ?_); refine box_event ?hg (N := 2) ?hd (cs := #[.int .i64 0, .int .i64 0, .slice none 0 0]) (t := 79) ?hr ?_; (case hd => rfl); (case hg => rfl); (case hr => (go_simp; done)); intro gb145 hg w33 hbox hb; have n0_ := Aside0.mk (blk_below (g := gb144) (o := .cells #[.int .i64 a0_0, .int .i64 a0_1] 30 (0, 0)) (by exact BK144.out) hb); have n1_ := Aside0.mk (below_step HB.out hb); have n2_ := Aside0.mk (hbox); have n3_ := Aside0.mk ((by rw [hg]; exact (below_size HB.out) : w.heap.size ≤ gb145)); have n4_ := Aside0.mk ((by rw [hg]; exact (below_size HB.out) : w.heap.size ≤ gb145)); have n5_ := Aside0.mk ((by rw [hg]; exact Nat.ne_of_lt (blk_lt (g := gb144) (o := .cells #[.int .i64 a0_0, .int .i64 a0_1] 30 (0, 0)) (by exact BK144.out)) : gb144 ≠ gb145)); have n6_ := Aside0.mk ((by rw [hg]; exact Nat.ne_of_gt (blk_lt (g := gb144) (o := .cells #[.int .i64 a0_0, .int .i64 a0_1] 30 (0, 0)) (by exact BK144.out)) : gb145 ≠ gb144)); clear BK144 HB; have BK144 := n0_; have HB := n1_; have BK145 := n2_; have GW145 := n3_; have GE145 := n4_; have NB144_145 := n5_; have NB145_144 := n6_; clear n0_ n1_ n2_ n3_ n4_ n5_ n6_; clear hb hbox hg; have hnb34 := NB144_145.out; have hnc34 := NB145_144.out; have hcz35_0 : w33.cell? ⟨gb144, 0, none⟩ = some (.int .i64 a0_0) := (blk_cell BK144.out 0).trans rfl; have hcz35_1 : w33.cell? ⟨gb144, 1, none⟩ = some (.int .i64 a0_1) := (blk_cell BK144.out 1).trans rfl; have hfz35_0 := blk_frozen BK144.out 0; have hfz35_1 := blk_frozen BK144.out 1) | ((with_reducible refine gate_callee (f := 58) rfl ?_); refine goesL_ (some 10) rfl rfl Try.func58 (by kernel_rfl) rfl #[.int .i64 a0_0] rfl (by ((simp only [List.map_toArray, List.map_cons, List.map_nil])); (rfl)) ?_; (with_reducible refine (matrix_Identity.calls k a0_0 t146 t147 t148 t151 _ A2.out).mono ?_); rintro e w36 ⟨v149, rfl, ho0, hb⟩; refine ⟨_, rfl, ?_⟩; have n0_ := Aside0.mk (Kd.R_lower ho0 (below_size HB.out)); have n1_ := Aside0.mk (blk_below (g := gb144) (o := .cells #[.int .i64 a0_0, .int .i64 a0_1] 30 (0, 0)) (by exact BK144.out) hb); have n2_ := Aside0.mk (blk_below (g := gb145) (o := .cells #[.int .i64 0, .int .i64 0, .slice none 0 0] 79 (0, 0)) (by exact BK145.out) hb); have n3_ := Aside0.mk (below_step HB.out hb); clear BK144 BK145 HB; have HO150 := n0_; have BK144 := n1_; have BK145 := n2_; have HB := n3_; clear n0_ n1_ n2_ n3_; clear hb; clear ho0) | ((with_reducible refine gate_dst (N := 3) rfl ?_); refine box_event ?hg (N := 3) ?hd (cs := #[.int .i64 0, .int .i64 0, .slice none 0 0]) (t := 79) ?hr ?_; (case hd => rfl); (case hg => rfl); (case hr => (go_simp; done)); intro gb152 hg w37 hbox hb; have n0_ := Aside0.mk (Kd.R_below (by exact HO150.out) hb); have n1_ := Aside0.mk (blk_below (g := gb144) (o := .cells #[.int .i64 a0_0, .int .i64 a0_1] 30 (0, 0)) (by exact BK144.out) hb); have n2_ := Aside0.mk (blk_below (g := gb145) (o := .cells #[.int .i64 0, .int .i64 0, .slice none 0 0] 79 (0, 0)) (by exact BK145.out) hb); have n3_ := Aside0.mk (below_step HB.out hb); have n4_ := Aside0.mk (hbox); have n5_ := Aside0.mk ((by rw [hg]; exact (below_size HB.out) : w.heap.size ≤ gb152)); have n6_ := Aside0.mk ((by rw [hg]; exact (below_size HB.out) : w.heap.size ≤ gb152)); have n7_ := Aside0.mk ((by rw [hg]; exact Nat.ne_of_lt (blk_lt (g := gb144) (o := .cells #[.int .i64 a0_0, .int .i64 a0_1] 30 (0, 0)) (by exact BK144.out)) : gb144 ≠ gb152)); have n8_ := Aside0.mk ((by rw [hg]; exact Nat.ne_of_gt (blk_lt (g := gb144) (o := .cells #[.int .i64 a0_0, .int .i64 a0_1] 30 (0, 0)) (by exact BK144.out)) : gb152 ≠ gb144)); have n9_ := Aside0.mk ((by rw [hg]; exact Nat.ne_of_lt (blk_lt (g := gb145) (o := .cells #[.int .i64 0, .int .i64 0, .slice none 0 0] 79 (0, 0)) (by exact BK145.out)) : gb145 ≠ gb152)); have n10_ := Aside0.mk ((by rw [hg]; exact Nat.ne_of_gt (blk_lt (g := gb145) (o := .cells #[.int .i64 0, .int .i64 0, .slice none 0 0] 79 (0, 0)) (by exact BK145.out)) : gb152 ≠ gb145)); clear HO150 BK144 BK145 HB; have HO150 := n0_; have BK144 := n1_; have BK145 := n2_; have HB := n3_; have BK152 := n4_; have GW152 := n5_; have GE152 := n6_; have NB144_152 := n7_; have NB152_144 := n8_; have NB145_152 := n9_; have NB152_145 := n10_; clear n0_ n1_ n2_ n3_ n4_ n5_ n6_ n7_ n8_ n9_ n10_; clear hb hbox hg; have hnb38 := NB152_144.out; have hnc38 := NB144_152.out; have hnb39 := NB152_145.out; have hnc39 := NB145_152.out; have hcz40_0 : w37.cell? ⟨gb152, 0, none⟩ = some (.int .i64 0) := (blk_cell BK152.out 0).trans rfl; have hcz40_1 : w37.cell? ⟨gb152, 1, none⟩ = some (.int .i64 0) := (blk_cell BK152.out 1).trans rfl; have hcz40_2 : w37.cell? ⟨gb152, 2, none⟩ = some (.slice none 0 0) := (blk_cell BK152.out 2).trans rfl; have hfz40_0 := blk_frozen BK152.out 0; have hfz40_1 := blk_frozen BK152.out 1; have hfz40_2 := blk_frozen BK152.out 2; obtain ⟨Ao41, co41, eo41⟩ := Kd.R_slice HO150.out; subst eo41; have hcz42_0 : w37.cell? ⟨gb144, 0, none⟩ = some (.int .i64 a0_0) := (blk_cell BK144.out 0).trans rfl; have hcz42_1 : w37.cell? ⟨gb144, 1, none⟩ = some (.int .i64 a0_1) := (blk_cell BK144.out 1).trans rfl; have hfz42_0 := blk_frozen BK144.out 0; have hfz42_1 := blk_frozen BK144.out 1) | ((with_reducible refine gate_callee (f := 59) rfl ?_); refine goesL_ (some 21) rfl rfl Try.func59 (by kernel_rfl) rfl #[.int .i64 (wrap64 (a0_1 - a0_0)), .int .i64 a0_0] rfl (by ((simp only [List.map_toArray, List.map_cons, List.map_nil])); (rfl)) ?_; (with_reducible refine (matrix_Cauchy.calls k (wrap64 (a0_1 - a0_0)) a0_0 t153 t154 t155 t158 _ A3.out).mono ?_); rintro e w43 ⟨v156, rfl, ho0, hb⟩; refine ⟨_, rfl, ?_⟩; have n0_ := Aside0.mk (Kd.R_elder' (by exact (Kd.R_mono (Kd.R_far (p := ⟨gb152, 2, none⟩) (Kd.R_far (p := ⟨gb152, 1, none⟩) (Kd.R_far (p := ⟨gb152, 0, none⟩) (Kd.R_types HO150.out BK152.out (by decide)) (fun _ hk => hk.2) (.int .i64 t146)) (fun _ hk => hk.2) (.int .i64 t147)) (fun _ hk => hk.2) (.slice Ao41 t148.length co41)) (fun _ h_ => h_.1))) (Kd.R_base ho0) hb); have n1_ := Aside0.mk (Kd.R_lower (Kd.R_new' ho0 (Kd.R_lt (by exact (Kd.R_mono (Kd.R_far (p := ⟨gb152, 2, none⟩) (Kd.R_far (p := ⟨gb152, 1, none⟩) (Kd.R_far (p := ⟨gb152, 0, none⟩) (Kd.R_types HO150.out BK152.out (by decide)) (fun _ hk => hk.2) (.int .i64 t146)) (fun _ hk => hk.2) (.int .i64 t147)) (fun _ hk => hk.2) (.slice Ao41 t148.length co41)) (fun _ h_ => h_.1))))) (below_size (by repeat ((with_reducible first | exact HB.out | refine below_set ?_ GE152.out))))); have n2_ := Aside0.mk (blk_below (g := gb144) (o := .cells #[.int .i64 a0_0, .int .i64 a0_1] 30 (0, 0)) (by refine blk_far ?_ NB144_152.out _; refine blk_far ?_ NB144_152.out _; refine blk_far ?_ NB144_152.out _; exact BK144.out) hb); have n3_ := Aside0.mk (blk_below (g := gb145) (o := .cells #[.int .i64 0, .int .i64 0, .slice none 0 0] 79 (0, 0)) (by refine blk_far ?_ NB145_152.out _; refine blk_far ?_ NB145_152.out _; refine blk_far ?_ NB145_152.out _; exact BK145.out) hb); have n4_ := Aside0.mk (blk_below (g := gb152) (o := .cells #[.int .i64 t146, .int .i64 t147, .slice Ao41 t148.length co41] 79 (0, 0)) (by refine blk_put (cs := #[.int .i64 t146, .int .i64 t147, .slice none 0 0]) ?_ 2 _ rfl; refine blk_put (cs := #[.int .i64 t146, .int .i64 0, .slice none 0 0]) ?_ 1 _ rfl; refine blk_put (cs := #[.int .i64 0, .int .i64 0, .slice none 0 0]) ?_ 0 _ rfl; exact BK152.out) hb); have n5_ := Aside0.mk (below_step (by repeat ((with_reducible first | exact HB.out | refine below_set ?_ GE152.out))) hb); clear HO150 BK144 BK145 BK152 HB; have HO150 := n0_; have HO157 := n1_; have BK144 := n2_; have BK145 := n3_; have BK152 := n4_; have HB := n5_; clear n0_ n1_ n2_ n3_ n4_ n5_; clear hb; clear ho0) | ((with_reducible refine gate_dst (N := 5) rfl ?_); refine box_event ?hg (N := 5) ?hd (cs := #[.int .i64 0, .int .i64 0, .slice none 0 0]) (t := 79) ?hr ?_; (case hd => rfl); (case hg => rfl); (case hr => (go_simp; done)); intro gb159 hg w44 hbox hb; have n0_ := Aside0.mk (Kd.R_below (by exact HO150.out) hb); have n1_ := Aside0.mk (Kd.R_below (by exact HO157.out) hb); have n2_ := Aside0.mk (blk_below (g := gb144) (o := .cells #[.int .i64 a0_0, .int .i64 a0_1] 30 (0, 0)) (by exact BK144.out) hb); have n3_ := Aside0.mk (blk_below (g := gb145) (o := .cells #[.int .i64 0, .int .i64 0, .slice none 0 0] 79 (0, 0)) (by exact BK145.out) hb); have n4_ := Aside0.mk (blk_below (g := gb152) (o := .cells #[.int .i64 t146, .int .i64 t147, .slice Ao41 t148.length co41] 79 (0, 0)) (by exact BK152.out) hb); have n5_ := Aside0.mk (below_step HB.out hb); have n6_ := Aside0.mk (hbox); have n7_ := Aside0.mk ((by rw [hg]; exact (below_size HB.out) : w.heap.size ≤ gb159)); have n8_ := Aside0.mk ((by rw [hg]; exact (below_size HB.out) : w.heap.size ≤ gb159)); have n9_ := Aside0.mk ((by rw [hg]; exact Nat.ne_of_lt (blk_lt (g := gb144) (o := .cells #[.int .i64 a0_0, .int .i64 a0_1] 30 (0, 0)) (by exact BK144.out)) : gb144 ≠ gb159)); have n10_ := Aside0.mk ((by rw [hg]; exact Nat.ne_of_gt (blk_lt (g := gb144) (o := .cells #[.int .i64 a0_0, .int .i64 a0_1] 30 (0, 0)) (by exact BK144.out)) : gb159 ≠ gb144)); have n11_ := Aside0.mk ((by rw [hg]; exact Nat.ne_of_lt (blk_lt (g := gb145) (o := .cells #[.int .i64 0, .int .i64 0, .slice none 0 0] 79 (0, 0)) (by exact BK145.out)) : gb145 ≠ gb159)); have n12_ := Aside0.mk ((by rw [hg]; exact Nat.ne_of_gt (blk_lt (g := gb145) (o := .cells #[.int .i64 0, .int .i64 0, .slice none 0 0] 79 (0, 0)) (by exact BK145.out)) : gb159 ≠ gb145)); have n13_ := Aside0.mk ((by rw [hg]; exact Nat.ne_of_lt (blk_lt (g := gb152) (o := .cells #[.int .i64 t146, .int .i64 t147, .slice Ao41 t148.length co41] 79 (0, 0)) (by exact BK152.out)) : gb152 ≠ gb159)); have n14_ := Aside0.mk ((by rw [hg]; exact Nat.ne_of_gt (blk_lt (g := gb152) (o := .cells #[.int .i64 t146, .int .i64 t147, .slice Ao41 t148.length co41] 79 (0, 0)) (by exact BK152.out)) : gb159 ≠ gb152)); clear HO150 HO157 BK144 BK145 BK152 HB; have HO150 := n0_; have HO157 := n1_; have BK144 := n2_; have BK145 := n3_; have BK152 := n4_; have HB := n5_; have BK159 := n6_; have GW159 := n7_; have GE159 := n8_; have NB144_159 := n9_; have NB159_144 := n10_; have NB145_159 := n11_; have NB159_145 := n12_; have NB152_159 := n13_; have NB159_152 := n14_; clear n0_ n1_ n2_ n3_ n4_ n5_ n6_ n7_ n8_ n9_ n10_ n11_ n12_ n13_ n14_; clear hb hbox hg; have hnb45 := NB159_144.out; have hnc45 := NB144_159.out; have hnb46 := NB159_145.out; have hnc46 := NB145_159.out; have hnb47 := NB159_152.out; have hnc47 := NB152_159.out; have hcz48_0 : w44.cell? ⟨gb159, 0, none⟩ = some (.int .i64 0) := (blk_cell BK159.out 0).trans rfl; have hcz48_1 : w44.cell? ⟨gb159, 1, none⟩ = some (.int .i64 0) := (blk_cell BK159.out 1).trans rfl; have hcz48_2 : w44.cell? ⟨gb159, 2, none⟩ = some (.slice none 0 0) := (blk_cell BK159.out 2).trans rfl; have hfz48_0 := blk_frozen BK159.out 0; have hfz48_1 := blk_frozen BK159.out 1; have hfz48_2 := blk_frozen BK159.out 2; obtain ⟨Ao49, co49, eo49⟩ := Kd.R_slice HO157.out; subst eo49; have hcz50_0 : w44.cell? ⟨gb152, 0, none⟩ = some (.int .i64 t146) := (blk_cell BK152.out 0).trans rfl; have hcz50_1 : w44.cell? ⟨gb152, 1, none⟩ = some (.int .i64 t147) := (blk_cell BK152.out 1).trans rfl; have hcz50_2 : w44.cell? ⟨gb152, 2, none⟩ = some (.slice Ao41 t148.length co41) := (blk_cell BK152.out 2).trans rfl; have hfz50_0 := blk_frozen BK152.out 0; have hfz50_1 := blk_frozen BK152.out 1; have hfz50_2 := blk_frozen BK152.out 2; have hcz51_0 : w44.cell? ⟨gb145, 0, none⟩ = some (.int .i64 0) := (blk_cell BK145.out 0).trans rfl; have hcz51_1 : w44.cell? ⟨gb145, 1, none⟩ = some (.int .i64 0) := (blk_cell BK145.out 1).trans rfl; have hcz51_2 : w44.cell? ⟨gb145, 2, none⟩ = some (.slice none 0 0) := (blk_cell BK145.out 2).trans rfl; have hfz51_0 := blk_frozen BK145.out 0; have hfz51_1 := blk_frozen BK145.out 1; have hfz51_2 := blk_frozen BK145.out 2))
    refine bodyPost_ret (results_cell_row rfl _ _ gb145 79 #[.int .i64 t146, .int .i64 t147, .slice Ao41 t148.length co41] (0, 0) _ rfl (by refine blk_put (cs := #[.int .i64 t146, .int .i64 t147, .slice none 0 0]) ?_ 2 _ rfl; refine blk_put (cs := #[.int .i64 t146, .int .i64 0, .slice none 0 0]) ?_ 1 _ rfl; refine blk_put (cs := #[.int .i64 0, .int .i64 0, .slice none 0 0]) ?_ 0 _ rfl; refine blk_far ?_ NB145_159.out _; refine blk_far ?_ NB145_159.out _; refine blk_far ?_ NB145_159.out _; exact BK145.out) Try.underlying79 rfl (by kernel_rfl)) rfl ?_
    exact ⟨_, by (rfl), by exact Kd.R_mono (Kd.R_far (p := ⟨gb145, 2, none⟩) (Kd.R_far (p := ⟨gb145, 1, none⟩) (Kd.R_far (p := ⟨gb145, 0, none⟩) (Kd.R_far (p := ⟨gb159, 2, none⟩) (Kd.R_far (p := ⟨gb159, 1, none⟩) (Kd.R_far (p := ⟨gb159, 0, none⟩) (Kd.R_types (Kd.R_types HO150.out BK159.out (by decide)) BK145.out (by decide)) (fun _ hk => hk.1.2) (.int .i64 t153)) (fun _ hk => hk.1.2) (.int .i64 t154)) (fun _ hk => hk.1.2) (.slice Ao49 t155.length co49)) (fun _ hk => hk.2) (.int .i64 t146)) (fun _ hk => hk.2) (.int .i64 t147)) (fun _ hk => hk.2) (.slice Ao41 t148.length co41)) (fun _ hk => trivial), by repeat ((with_reducible first | exact HB.out | refine below_set ?_ GE145.out | refine below_set ?_ GE159.out))⟩

end Go.Proofs.Ythfddndmhjkeiaa.L
end
section
-- Printed for this claim by a small program of the session's own, drv.py, round the kit's print.py. Lean checks it.
namespace Go.Proofs.Ythfddndmhjkeiaa.L
open Go.RowKit Go.Proofs.YthfddndmhjkeiaaW.PrintWords Go.Proofs.YthfddndmhjkeiaaW.PrintLast Go.Proofs.YthfddndmhjkeiaaW.PrintMore
attribute [local go_sem] max2_int min2_int max_two min_two max_three min_three max_four min_four   -- for this text's walks alone
set_option linter.unusedVariables false
set_option linter.unusedSimpArgs false

/-! ### erasure_halves_int: function 74 -/
def erasure_halves_int.f (a0 : Int) : Option (Int × Int) := some (Go.bits .and .i64 a0 15, Go.bits .and .i64 (a0 / 16) 15)
set_option maxHeartbeats 8000000 in
set_option maxRecDepth 100000 in
theorem erasure_halves_int.calls (a0 : Int) (r1 : Int) (r2 : Int) (w : World) (h : erasure_halves_int.f a0 = some (r1, r2)) :
    Calls Try.prog 74 #[.int .i64 a0] w fun e w' => e = .returned (.tuple #[.int .i64 r1, .int .i64 r2]) ∧ Drawn0 w w' := by
  have H : (some (Go.bits .and .i64 a0 15, Go.bits .and .i64 (a0 / 16) 15)) = some (r1, r2) := h
  clear h
  simp only [Option.some.injEq, Prod.mk.injEq] at H
  obtain ⟨rfl, rfl⟩ := H
  go_enter Try.func74, Try.ntmps74
  go_wp2
  go_ret2
  exact ⟨by (rfl), by repeat ((exact Drawn0.refl _))⟩

end Go.Proofs.Ythfddndmhjkeiaa.L
end
section
-- Printed for this claim by a small program of the session's own, drv.py, round the kit's print.py. Lean checks it.
namespace Go.Proofs.Ythfddndmhjkeiaa.L
open Go.RowKit Go.Proofs.YthfddndmhjkeiaaW.PrintWords Go.Proofs.YthfddndmhjkeiaaW.PrintLast Go.Proofs.YthfddndmhjkeiaaW.PrintMore
attribute [local go_sem] max2_int min2_int max_two min_two max_three min_three max_four min_four   -- for this text's walks alone
set_option linter.unusedVariables false
set_option linter.unusedSimpArgs false

/-! ### field_Mul: function 92 -/
def field_Mul.f (k : Nat) (a0 : Int) (a1 : Int) : Option (Int × Int) := (field_element.f a0).bind fun t163 => (if t163 = true then ((field_element.f a1).bind fun t164 => (if t164 = true then ((field_times.f k a0 a1).bind fun t165 => (some (t165, 0))) else (some (0, 1)))) else (some (0, 1)))
theorem field_Mul.mono : ∀ a0 a1 k, LeO (field_Mul.f k a0 a1) (field_Mul.f (k + 1) a0 a1) := by
  intro a0 a1 k
  unfold field_Mul.f
  repeat' first | (with_reducible exact field_times.mono _ _ _) | (with_reducible exact LeO.refl _) | (with_reducible refine LeO.ite ?_ ?_) | (with_reducible refine LeO.bind ?_ (fun _ => ?_))
set_option maxHeartbeats 8000000 in
set_option maxRecDepth 100000 in
theorem field_Mul.calls (k : Nat) (a0 : Int) (a1 : Int) (r1 : Int) (r2 : Int) (w : World) (h : field_Mul.f k a0 a1 = some (r1, r2)) :
    Calls Try.prog 92 #[.int .i64 a0, .int .i64 a1] w fun e w' => e = .returned (.tuple #[.int .i64 r1, .int .i64 r2]) ∧ Drawn0 w w' := by
  have H : ((field_element.f a0).bind fun t163 => (if t163 = true then ((field_element.f a1).bind fun t164 => (if t164 = true then ((field_times.f k a0 a1).bind fun t165 => (some (t165, 0))) else (some (0, 1)))) else (some (0, 1)))) = some (r1, r2) := h
  clear h
  replace H := Option.bind_eq_some_iff.mp H
  obtain ⟨t163, A30, H⟩ := H
  replace H : (if t163 = true then ((field_element.f a1).bind fun t164 => (if t164 = true then ((field_times.f k a0 a1).bind fun t165 => (some (t165, 0))) else (some (0, 1)))) else (some (0, 1))) = some (r1, r2) := H
  have A3 := Aside0.mk A30
  clear A30
  by_cases c4 : t163 = true
  · subst c4
    have H1 : ((field_element.f a1).bind fun t164 => (if t164 = true then ((field_times.f k a0 a1).bind fun t165 => (some (t165, 0))) else (some (0, 1)))) = some (r1, r2) := by rw [if_pos rfl] at H; exact H
    clear H
    have H := H1
    clear H1
    replace H := Option.bind_eq_some_iff.mp H
    obtain ⟨t164, A50, H⟩ := H
    replace H : (if t164 = true then ((field_times.f k a0 a1).bind fun t165 => (some (t165, 0))) else (some (0, 1))) = some (r1, r2) := H
    have A5 := Aside0.mk A50
    clear A50
    by_cases c6 : t164 = true
    · subst c6
      have H1 : ((field_times.f k a0 a1).bind fun t165 => (some (t165, 0))) = some (r1, r2) := by rw [if_pos rfl] at H; exact H
      clear H
      have H := H1
      clear H1
      replace H := Option.bind_eq_some_iff.mp H
      obtain ⟨t165, A70, H⟩ := H
      replace H : (some (t165, 0)) = some (r1, r2) := H
      have A7 := Aside0.mk A70
      clear A70
      simp only [Option.some.injEq, Prod.mk.injEq] at H
      obtain ⟨rfl, rfl⟩ := H
      go_enter Try.func92, Try.ntmps92
      go_wp2_with (first | ((with_reducible refine gate_callee (f := 98) rfl ?_); refine goesL_ (some 7) rfl rfl Try.func98 (by kernel_rfl) rfl #[.int .i64 a0] rfl (by ((simp only [List.map_toArray, List.map_cons, List.map_nil])); (rfl)) ?_; (with_reducible refine (field_element.calls a0 true _ A3.out).mono ?_); rintro e w' ⟨rfl, ⟨nd, rfl⟩⟩; refine ⟨_, rfl, ?_⟩) | (go_at_call 98; (with_reducible refine (field_element.calls a1 true _ A5.out).mono ?_); rintro e w' ⟨rfl, ⟨nd, rfl⟩⟩) | ((with_reducible refine gate_callee (f := 99) rfl ?_); refine goesL_ (some 16) rfl rfl Try.func99 (by kernel_rfl) rfl #[.int .i64 a0, .int .i64 a1] rfl (by ((simp only [List.map_toArray, List.map_cons, List.map_nil])); (rfl)) ?_; (with_reducible refine (field_times.calls k a0 a1 t165 _ A7.out).mono ?_); rintro e w' ⟨rfl, ⟨nd, rfl⟩⟩; refine ⟨_, rfl, ?_⟩))
      go_ret2
      exact ⟨by (rfl), by repeat (first | exact Drawn0.refl _ | apply Drawn0.step)⟩
    · replace c6 := Bool.eq_false_iff.mpr c6
      subst c6
      have H1 : (some (0, 1)) = some (r1, r2) := by rw [if_neg (show ¬ (false = true) by decide)] at H; exact H
      clear H
      have H := H1
      clear H1
      simp only [Option.some.injEq, Prod.mk.injEq] at H
      obtain ⟨rfl, rfl⟩ := H
      go_enter Try.func92, Try.ntmps92
      go_wp2_with (first | ((with_reducible refine gate_callee (f := 98) rfl ?_); refine goesL_ (some 7) rfl rfl Try.func98 (by kernel_rfl) rfl #[.int .i64 a0] rfl (by ((simp only [List.map_toArray, List.map_cons, List.map_nil])); (rfl)) ?_; (with_reducible refine (field_element.calls a0 true _ A3.out).mono ?_); rintro e w' ⟨rfl, ⟨nd, rfl⟩⟩; refine ⟨_, rfl, ?_⟩) | (go_at_call 98; (with_reducible refine (field_element.calls a1 false _ A5.out).mono ?_); rintro e w' ⟨rfl, ⟨nd, rfl⟩⟩))
      go_ret2
      exact ⟨by (rfl), by repeat (first | exact Drawn0.refl _ | apply Drawn0.step)⟩
  · replace c4 := Bool.eq_false_iff.mpr c4
    subst c4
    have H1 : (some (0, 1)) = some (r1, r2) := by rw [if_neg (show ¬ (false = true) by decide)] at H; exact H
    clear H
    have H := H1
    clear H1
    simp only [Option.some.injEq, Prod.mk.injEq] at H
    obtain ⟨rfl, rfl⟩ := H
    go_enter Try.func92, Try.ntmps92
    go_wp2_with (((with_reducible refine gate_callee (f := 98) rfl ?_); refine goesL_ (some 7) rfl rfl Try.func98 (by kernel_rfl) rfl #[.int .i64 a0] rfl (by ((simp only [List.map_toArray, List.map_cons, List.map_nil])); (rfl)) ?_; (with_reducible refine (field_element.calls a0 false _ A3.out).mono ?_); rintro e w' ⟨rfl, ⟨nd, rfl⟩⟩; refine ⟨_, rfl, ?_⟩))
    go_ret2
    exact ⟨by (rfl), by repeat (first | exact Drawn0.refl _ | apply Drawn0.step)⟩

end Go.Proofs.Ythfddndmhjkeiaa.L
end
section
-- Printed for this claim by a small program of the session's own, drv.py, round the kit's print.py. Lean checks it.
namespace Go.Proofs.Ythfddndmhjkeiaa.L
open Go.RowKit Go.Proofs.YthfddndmhjkeiaaW.PrintWords Go.Proofs.YthfddndmhjkeiaaW.PrintLast Go.Proofs.YthfddndmhjkeiaaW.PrintMore
attribute [local go_sem] max2_int min2_int max_two min_two max_three min_three max_four min_four   -- for this text's walks alone
set_option linter.unusedVariables false
set_option linter.unusedSimpArgs false

/-! ### erasure_mul: function 75 -/
def erasure_mul.f (k : Nat) (a0 : Int) (a1 : Int) : Option (Int) := (field_Mul.f k a0 a1).bind fun bt166 => (some bt166.1)
theorem erasure_mul.mono : ∀ a0 a1 k, LeO (erasure_mul.f k a0 a1) (erasure_mul.f (k + 1) a0 a1) := by
  intro a0 a1 k
  unfold erasure_mul.f
  repeat' first | (with_reducible exact field_Mul.mono _ _ _) | (with_reducible exact LeO.refl _) | (with_reducible refine LeO.bind ?_ (fun _ => ?_))
set_option maxHeartbeats 8000000 in
set_option maxRecDepth 100000 in
theorem erasure_mul.calls (k : Nat) (a0 : Int) (a1 : Int) (r : Int) (w : World) (h : erasure_mul.f k a0 a1 = some r) :
    Calls Try.prog 75 #[.int .i64 a0, .int .i64 a1] w fun e w' => e = .returned (.int .i64 r) ∧ Drawn0 w w' := by
  have H : ((field_Mul.f k a0 a1).bind fun bt166 => (some bt166.1)) = some r := h
  clear h
  replace H := Option.bind_eq_some_iff.mp H
  obtain ⟨⟨t166, t167⟩, A30, H⟩ := H
  replace H : (some t166) = some r := H
  have A3 := Aside0.mk A30
  clear A30
  obtain rfl := Option.some.inj H
  go_enter Try.func75, Try.ntmps75
  go_wp2_with (((with_reducible refine gate_callee (f := 92) rfl ?_); refine goesL_ (some 10) rfl rfl Try.func92 (by kernel_rfl) rfl #[.int .i64 a0, .int .i64 a1] rfl (by ((simp only [List.map_toArray, List.map_cons, List.map_nil])); (rfl)) ?_; (with_reducible refine (field_Mul.calls k a0 a1 t166 t167 _ A3.out).mono ?_); rintro e w' ⟨rfl, ⟨nd, rfl⟩⟩; refine ⟨_, rfl, ?_⟩))
  go_ret
  exact ⟨by (rfl), by repeat (first | exact Drawn0.refl _ | apply Drawn0.step)⟩

end Go.Proofs.Ythfddndmhjkeiaa.L
end
section
-- Printed for this claim by a small program of the session's own, drv.py, round the kit's print.py. Lean checks it.
namespace Go.Proofs.Ythfddndmhjkeiaa.L
open Go.RowKit Go.Proofs.YthfddndmhjkeiaaW.PrintWords Go.Proofs.YthfddndmhjkeiaaW.PrintLast Go.Proofs.YthfddndmhjkeiaaW.PrintMore
attribute [local go_sem] max2_int min2_int max_two min_two max_three min_three max_four min_four   -- for this text's walks alone
set_option linter.unusedVariables false
set_option linter.unusedSimpArgs false

/-! ### erasure_combine: function 60 -/
def erasure_combine.l0 : Nat → List Int → Int → ByteArray → Int → Int → Option (List Int)
  | 0, _, _, _, _, _ => none
  | k + 1, x0, x1, x2, x10, x11 => if x11 < x10 then (if 0 ≤ x11 then (if x11 < (x2.size : Int) then ((erasure_halves_int.f (wrap64 (bt x2 x11))).bind fun bt168 => (if x11 < (x0.length : Int) then ((erasure_mul.f k x1 bt168.1).bind fun t171 => ((erasure_mul.f k x1 bt168.2).bind fun t172 => (erasure_combine.l0 k (x0.set (x11 : Int).toNat (Go.bits .xor .u8 (rd x0 x11) ((Go.bits .or .i64 t171 (wrap64 (t172 * 16))) % 256))) x1 x2 x10 (wrap64 (x11 + 1))))) else (none))) else (none)) else (none)) else (some x0)
def erasure_combine.f (k : Nat) (l0 : List Int) (a1 : Int) (a2 : ByteArray) : Option (List Int) := erasure_combine.l0 k l0 a1 a2 (a2.size : Int) 0
theorem erasure_combine.mono_l : ∀ k, (∀ y0 y1 y2 y3 y4, LeO (erasure_combine.l0 k y0 y1 y2 y3 y4) (erasure_combine.l0 (k + 1) y0 y1 y2 y3 y4))
  | 0 => fun _ _ _ _ _ r h => by simp [erasure_combine.l0] at h
  | k + 1 => by
    have ih0 := erasure_combine.mono_l k
    · intro y0 y1 y2 y3 y4
      unfold erasure_combine.l0
      repeat' first | (with_reducible exact ih0 _ _ _ _ _) | (with_reducible exact erasure_mul.mono _ _ _) | (with_reducible exact LeO.refl _) | (with_reducible refine LeO.ite ?_ ?_) | (with_reducible refine LeO.bind ?_ (fun _ => ?_))
theorem erasure_combine.mono : ∀ a0 a1 a2 k, LeO (erasure_combine.f k a0 a1 a2) (erasure_combine.f (k + 1) a0 a1 a2) := by
  intro a0 a1 a2 k
  have ih0 := erasure_combine.mono_l k
  unfold erasure_combine.f
  repeat' (with_reducible exact ih0 _ _ _ _ _)
def erasure_combine.T4 : Bool × List (List Nat × List Nat) := (true, [([], []), ([], []), ([0, 1], [0, 1]), ([2], [2]), ([], []), ([], []), ([4, 5], [4, 5]), ([], []), ([], []), ([7, 8, 6], [7, 8]), ([9], [9]), ([6, 10], [6, 10]), ([11], [11]), ([3, 12], [3, 12]), ([0, 1, 0, 1, 2, 3, 4, 5, 6, 7, 8, 9, 10, 11, 12, 13], [0, 1]), ([14, 13, 9, 0, 1, 2, 3, 4, 5, 6, 7, 8, 9, 10, 11, 12, 13], [13, 14])])
def erasure_combine.B4 : List Nat := [0, 0, 3, 7, 0, 0, 48, 0, 0, 496, 1008, 2032, 4080, 8191, 16383, 32767]
theorem erasure_combine.tab4 : rtab .any (opsOf Try.f60 4) = erasure_combine.T4 := by kernel_rfl
theorem erasure_combine.bits4 : waitsOk erasure_combine.T4.2 erasure_combine.B4 = true := by kernel_rfl
set_option maxHeartbeats 8000000 in
set_option maxRecDepth 100000 in
theorem erasure_combine.calls (k : Nat) (P0_ : Nat → Prop) (u9000_ : Value) (l0 : List Int) (a1 : Int) (a2 : ByteArray) (r : List Int) (w0 w : World) (hB : Below w0.heap.size w0 w) (ho0 : Kd.R (Kd.int .u8) 5 w w0.heap.size P0_ u9000_ l0) (h : erasure_combine.f k l0 a1 a2 = some r) :
    Calls Try.prog 60 #[u9000_, .int .i64 a1, .string a2] w fun e w' => e = .returned (.tuple #[]) ∧ Kd.R (Kd.int .u8) 5 w' w0.heap.size (fun k_ => (P0_ k_ ∨ w.heap.size ≤ k_)) u9000_ r ∧ Below w0.heap.size w0 w' ∧ Kept w w' (fun k_ => P0_ k_) := by
  have HO0 := Aside0.mk (show Kd.R (Kd.int .u8) 5 w w0.heap.size (fun k_ => (P0_ k_ ∨ w.heap.size ≤ k_)) u9000_ l0 from Kd.R_mono ho0 (fun k_ hk => (.inl hk)))
  have HK := Aside0.mk (Kept.refl w (fun k_ => P0_ k_))
  have HW0 := Aside0.mk hB.size
  have HB := Aside0.mk hB
  clear hB
  have H : (erasure_combine.l0 k l0 a1 a2 (a2.size : Int) 0) = some r := h
  clear h
  have H' := Aside0.mk H
  clear H
  go_enter Try.func60, Try.ntmps60
  go_wp2
  go_loopg [11] k (fun kq v11 w' => ∃ (x0_1 : List Int) (x11_1 : Int), v11 = .int .i64 x11_1 ∧ Aside0 (erasure_combine.l0 kq x0_1 a1 a2 (a2.size : Int) x11_1 = some r) ∧ Aside0 (kq ≤ k) ∧ Aside0 (Kd.R (Kd.int .u8) 5 w' w0.heap.size (fun k_ => (P0_ k_ ∨ w.heap.size ≤ k_)) u9000_ x0_1) ∧ Aside0 (Kept w w' (fun k_ => P0_ k_)) ∧ Aside0 (Below w0.heap.size w0 w'))
  case atStart => exact ⟨(l0), (0), (by (rfl)), H', ⟨Nat.le_refl _⟩, ⟨by exact HO0.out⟩, ⟨HK.out⟩, ⟨HB.out⟩⟩
  case round =>
    clear H'
    obtain ⟨x0_1, x11_1, rfl, HA, HK1, HO_0, HK, HB⟩ := hrel
    cases gk with
    | zero => exact absurd HA.out (by simp [erasure_combine.l0])
    | succ k1 =>
      have H := HA.out
      clear HA
      simp only [erasure_combine.l0] at H
      by_cases c4 : x11_1 < (a2.size : Int)
      · rw [if_pos c4] at H
        have c4b0 : decide (x11_1 < (a2.size : Int)) = true := decide_eq_true c4
        clear c4
        by_cases c5 : 0 ≤ x11_1
        · rw [if_pos c5] at H
          have c5b0 : decide (0 ≤ x11_1) = true := decide_eq_true c5
          clear c5
          by_cases c6 : x11_1 < (a2.size : Int)
          · rw [if_pos c6] at H
            have c6b0 : decide (x11_1 < (a2.size : Int)) = true := decide_eq_true c6
            clear c6
            replace H := Option.bind_eq_some_iff.mp H
            obtain ⟨⟨t168, t169⟩, A80, H⟩ := H
            replace H : (if x11_1 < (x0_1.length : Int) then ((erasure_mul.f k1 a1 t168).bind fun t171 => ((erasure_mul.f k1 a1 t169).bind fun t172 => (erasure_combine.l0 k1 (x0_1.set (x11_1 : Int).toNat (Go.bits .xor .u8 (rd x0_1 x11_1) ((Go.bits .or .i64 t171 (wrap64 (t172 * 16))) % 256))) a1 a2 (a2.size : Int) (wrap64 (x11_1 + 1))))) else (none)) = some r := H
            have A8 := Aside0.mk A80
            clear A80
            by_cases c9 : x11_1 < (x0_1.length : Int)
            · rw [if_pos c9] at H
              have c9b0 : decide (x11_1 < (x0_1.length : Int)) = true := decide_eq_true c9
              clear c9
              replace H := Option.bind_eq_some_iff.mp H
              obtain ⟨t171, A100, H⟩ := H
              replace H : ((erasure_mul.f k1 a1 t169).bind fun t172 => (erasure_combine.l0 k1 (x0_1.set (x11_1 : Int).toNat (Go.bits .xor .u8 (rd x0_1 x11_1) ((Go.bits .or .i64 t171 (wrap64 (t172 * 16))) % 256))) a1 a2 (a2.size : Int) (wrap64 (x11_1 + 1)))) = some r := H
              have A10 := Aside0.mk A100
              clear A100
              replace H := Option.bind_eq_some_iff.mp H
              obtain ⟨t172, A110, H⟩ := H
              replace H : (erasure_combine.l0 k1 (x0_1.set (x11_1 : Int).toNat (Go.bits .xor .u8 (rd x0_1 x11_1) ((Go.bits .or .i64 t171 (wrap64 (t172 * 16))) % 256))) a1 a2 (a2.size : Int) (wrap64 (x11_1 + 1))) = some r := H
              have A11 := Aside0.mk A110
              clear A110
              obtain ⟨y173, hy173⟩ : ∃ y_ : List Int, y_ = (x0_1.set (x11_1 : Int).toNat (Go.bits .xor .u8 (rd x0_1 x11_1) ((Go.bits .or .i64 t171 (wrap64 (t172 * 16))) % 256))) := ⟨_, rfl⟩
              replace H : (erasure_combine.l0 k1 y173 a1 a2 (a2.size : Int) (wrap64 (x11_1 + 1))) = some r := by (rw [hy173]; with_reducible exact H)
              have Ny173 := Aside0.mk hy173
              clear hy173
              have H' := Aside0.mk H
              clear H
              have p7 : 0 ≤ (x11_1 : Int) := of_decide_eq_true (by (with_reducible assumption))
              have q7 : x11_1 < (a2.size : Int) := of_decide_eq_true (by (with_reducible assumption))
              have hx7 := bt_at a2 x11_1
              replace p7 := eq_true p7
              replace q7 := eq_true q7
              (go_wp2_with (((with_reducible refine gate_callee (f := 74) rfl ?_); refine goesL_ (some 19) rfl rfl Try.func74 (by kernel_rfl) rfl #[.int .i64 (wrap64 (bt a2 x11_1))] rfl (by ((simp only [List.map_toArray, List.map_cons, List.map_nil])); (rfl)) ?_; (with_reducible refine (erasure_halves_int.calls (wrap64 (bt a2 x11_1)) t168 t169 _ A8.out).mono ?_); rintro e w' ⟨rfl, ⟨nd, rfl⟩⟩; refine ⟨_, rfl, ?_⟩; ((rw [drewN_self wr]; generalize hq_ : World.drewN wr _ = wr; have n0_ : Aside0 (Kd.R (Kd.int .u8) 5 wr w0.heap.size (fun k_ => (P0_ k_ ∨ w.heap.size ≤ k_)) u9000_ x0_1) := ⟨by rw [← hq_]; exact (by (with_reducible repeat ((apply Kd.R_drewN))); exact HO_0.out)⟩; have n1_ : Aside0 (Kept w wr (fun k_ => P0_ k_)) := ⟨by rw [← hq_]; exact (by repeat ((with_reducible first | exact HK.out | apply Kept.drewN)))⟩; have n2_ : Aside0 (Below w0.heap.size w0 wr) := ⟨by rw [← hq_]; exact (by repeat ((with_reducible first | exact HB.out | apply pw_below_drewN)))⟩; clear HO_0 HK HB hq_; have HO_0 := n0_; have HK := n1_; have HB := n2_; clear n0_ n1_ n2_)))))
              have n0_ := Aside0.mk (Kd.R_drew HO_0.out)
              have n1_ := Aside0.mk (Kept.drew HK.out)
              have n2_ := Aside0.mk (below_drew1 HB.out)
              clear HO_0 HK HB
              have HO_0 := n0_
              have HK := n1_
              have HB := n2_
              clear n0_ n1_ n2_
              obtain ⟨Ao14, co14, eo14⟩ := Kd.R_slice HO_0.out
              ((subst eo14))
              have p170 : 0 ≤ (x11_1 : Int) := of_decide_eq_true (by (with_reducible assumption))
              have q170 : x11_1 < (x0_1.length : Int) := of_decide_eq_true (by (with_reducible assumption))
              obtain ⟨ad170, e170, hx170_0⟩ := Kd.at_int (Kd.R_reads' HO_0.out).2.2 x11_1 p170 q170
              cases e170
              replace p170 := eq_true p170
              replace q170 := eq_true q170
              refine start_ (n := 16) (S := fun w' => w'.cell? (ad170.add (x11_1).toNat) = some (.int .u8 (rd x0_1 x11_1))) (ds := [15]) #[false, false, false, false, false, false, false, false, false, false, false, false, false, false, false, false] (by kernel_rfl) rfl rfl (hx170_0) (fun hHeld => ?_); refine with_tabW erasure_combine.tab4 erasure_combine.bits4 (fun HT_ HW_ => ?_)
              generalize wr.drew = w13 at HO_0 HK HB hx170_0 hHeld ⊢
              refine pure_ (i := 0) (N := some 22) (v := ?_) (a' := ?_) #[true, false, false, false, false, false, false, false, false, false, false, false, false, false, false, false] rfl rfl (any_of HT_.out (by kernel_rfl)) (fun _ _ _ h => h) (Or.inl ⟨by rfl, ?_⟩) ?_ ?_
              rotate_left
              · intro w'
                go_simp
                with_reducible rfl
              rotate_left
              · simp only [Act.put, List.setIfInBounds_toArray, List.set_cons_zero, List.set_cons_succ, i64_w, i32_w]
                rfl
              refine pure_ (i := 1) (N := some 23) (v := ?_) (a' := ?_) #[true, true, false, false, false, false, false, false, false, false, false, false, false, false, false, false] rfl rfl (any_of HT_.out (by kernel_rfl)) (fun _ _ _ h => h) (Or.inl ⟨by rfl, ?_⟩) ?_ ?_
              rotate_left
              · intro w'
                go_simp
                with_reducible rfl
              rotate_left
              · simp only [Act.put, List.setIfInBounds_toArray, List.set_cons_zero, List.set_cons_succ, i64_w, i32_w]
                rfl
              refine pure_ (i := 2) (N := some 24) (v := ?_) (a' := ?_) #[true, true, true, false, false, false, false, false, false, false, false, false, false, false, false, false] rfl rfl (any_of HT_.out (by kernel_rfl)) (fun _ _ _ h => h) (Or.inl ⟨by rfl, ?_⟩) ?_ ?_
              rotate_left
              · intro w'
                go_simp
                with_reducible rfl
              rotate_left
              · simp only [Act.put, List.setIfInBounds_toArray, List.set_cons_zero, List.set_cons_succ, i64_w, i32_w]
                rfl
              refine pure_ (i := 4) (N := some 26) (v := ?_) (a' := ?_) #[true, true, true, false, true, false, false, false, false, false, false, false, false, false, false, false] rfl rfl (any_of HT_.out (by kernel_rfl)) (fun _ _ _ h => h) (Or.inl ⟨by rfl, ?_⟩) ?_ ?_
              rotate_left
              · intro w'
                go_simp
                with_reducible rfl
              rotate_left
              · simp only [Act.put, List.setIfInBounds_toArray, List.set_cons_zero, List.set_cons_succ, i64_w, i32_w]
                rfl
              refine pure_ (i := 5) (N := some 27) (v := ?_) (a' := ?_) #[true, true, true, false, true, true, false, false, false, false, false, false, false, false, false, false] rfl rfl (any_of HT_.out (by kernel_rfl)) (fun _ _ _ h => h) (Or.inl ⟨by rfl, ?_⟩) ?_ ?_
              rotate_left
              · intro w'
                go_simp
                with_reducible rfl
              rotate_left
              · simp only [Act.put, List.setIfInBounds_toArray, List.set_cons_zero, List.set_cons_succ, i64_w, i32_w]
                rfl
              refine pure_ (i := 7) (N := some 29) (v := ?_) (a' := ?_) #[true, true, true, false, true, true, false, true, false, false, false, false, false, false, false, false] rfl rfl (any_of HT_.out (by kernel_rfl)) (fun _ _ _ h => h) (Or.inl ⟨by rfl, ?_⟩) ?_ ?_
              rotate_left
              · intro w'
                go_simp
                with_reducible rfl
              rotate_left
              · simp only [Act.put, List.setIfInBounds_toArray, List.set_cons_zero, List.set_cons_succ, i64_w, i32_w]
                rfl
              refine pure_ (i := 8) (N := some 30) (v := ?_) (a' := ?_) #[true, true, true, false, true, true, false, true, true, false, false, false, false, false, false, false] rfl rfl (any_of HT_.out (by kernel_rfl)) (fun _ _ _ h => h) (Or.inl ⟨by rfl, ?_⟩) ?_ ?_
              rotate_left
              · intro w'
                go_simp
                with_reducible rfl
              rotate_left
              · simp only [Act.put, List.setIfInBounds_toArray, List.set_cons_zero, List.set_cons_succ, i64_w, i32_w]
                rfl
              refine take_ (i := 3) (N := some 25) (v := ?_) (a' := ?_) #[true, true, true, true, true, true, false, true, true, false, false, false, false, false, false, false] rfl rfl (take_ofW HT_.out HW_.out (by kernel_rfl)) (fun _ _ _ h => h) (Or.inl ⟨by rfl, ?_⟩) hHeld ?_ ?_
              rotate_left
              · intro w' s0
                go_simp
                with_reducible rfl
              rotate_left
              · simp only [Act.put, List.setIfInBounds_toArray, List.set_cons_zero, List.set_cons_succ, i64_w, i32_w]
                rfl
              refine one_ (i := 6) (N := some 28) #[true, true, true, true, true, true, true, true, true, false, false, false, false, false, false, false] rfl rfl (one_of HT_.out (by kernel_rfl)) (by decide) (fun K hK => ?_)
              refine goes_ Try.func75 (by kernel_rfl) rfl #[.int .i64 a1, .int .i64 t168] (by rfl) rfl rfl (by ((simp only [List.map_toArray, List.map_cons, List.map_nil])); (rfl)) ?_
              with_reducible refine (erasure_mul.calls k1 a1 t168 t171 _ A10.out).mono ?_
              rintro e w' ⟨rfl, ⟨nd, rfl⟩⟩
              refine ⟨_, rfl, ?_⟩
              refine hK.out _ _ (hHeld) (fun hHeld => ?_)
              clear hK K
              refine norm_ (a' := ?_) ?_ ?_
              rotate_left
              · show Act.put _ (some 28) _ = _
                simp only [Act.put, List.setIfInBounds_toArray, List.set_cons_zero, List.set_cons_succ, i64_w, i32_w]
                rfl
              refine one_ (i := 9) (N := some 31) #[true, true, true, true, true, true, true, true, true, true, false, false, false, false, false, false] rfl rfl (one_of HT_.out (by kernel_rfl)) (by decide) (fun K hK => ?_)
              refine goes_ Try.func75 (by kernel_rfl) rfl #[.int .i64 a1, .int .i64 t169] (by rfl) rfl rfl (by ((simp only [List.map_toArray, List.map_cons, List.map_nil])); (rfl)) ?_
              with_reducible refine (erasure_mul.calls k1 a1 t169 t172 _ A11.out).mono ?_
              rintro e w' ⟨rfl, ⟨nd, rfl⟩⟩
              refine ⟨_, rfl, ?_⟩
              have p12 : 0 ≤ (x11_1 : Int) := of_decide_eq_true (by (with_reducible assumption))
              have q12 : (x11_1 : Int) < ((x0_1.length : Int) : Int) := of_decide_eq_true (by (with_reducible assumption))
              obtain ⟨go12, co12, eo12, gb12, gl12, cl12, HG12⟩ := Kd.R_form HO_0.out (by omega)
              ((cases eo12))
              have GB12 := Aside0.mk gb12
              have GG12 := Aside0.mk HG12
              clear gb12 gl12 HG12
              have HMgo12 := Aside0.mk (show (P0_ go12 ∨ w.heap.size ≤ go12) from (HO_0.out.1 _ rfl))
              ((simp only [add_plain] at hx170_0))
              obtain ⟨hx12_0, hf12_0⟩ := Kd.R_celln 0 HO_0.out (x11_1 : Int) p12 q12
              replace p12 := eq_true p12
              replace q12 := eq_true q12
              have HP15 := Kd.R_putn HO_0.out (x11_1 : Int) (Go.bits .xor .u8 (rd x0_1 x11_1) ((Go.bits .or .i64 t171 (wrap64 (t172 * 16))) % 256))
              rw [← Ny173.out] at HP15
              have HQ15 := Aside0.mk HP15
              clear HP15
              refine hK.out _ _ (hHeld) (fun hHeld => ?_)
              clear hK K
              refine norm_ (a' := ?_) ?_ ?_
              rotate_left
              · show Act.put _ (some 31) _ = _
                simp only [Act.put, List.setIfInBounds_toArray, List.set_cons_zero, List.set_cons_succ, i64_w, i32_w]
                rfl
              refine pure_ (i := 10) (N := some 32) (v := ?_) (a' := ?_) #[true, true, true, true, true, true, true, true, true, true, true, false, false, false, false, false] rfl rfl (any_of HT_.out (by kernel_rfl)) (fun _ _ _ h => h) (Or.inl ⟨by rfl, ?_⟩) ?_ ?_
              rotate_left
              · intro w'
                go_simp
                with_reducible rfl
              rotate_left
              · simp only [Act.put, List.setIfInBounds_toArray, List.set_cons_zero, List.set_cons_succ, i64_w, i32_w]
                rfl
              refine pure_ (i := 11) (N := some 33) (v := ?_) (a' := ?_) #[true, true, true, true, true, true, true, true, true, true, true, true, false, false, false, false] rfl rfl (any_of HT_.out (by kernel_rfl)) (fun _ _ _ h => h) (Or.inl ⟨by rfl, ?_⟩) ?_ ?_
              rotate_left
              · intro w'
                go_simp
                with_reducible rfl
              rotate_left
              · simp only [Act.put, List.setIfInBounds_toArray, List.set_cons_zero, List.set_cons_succ, i64_w, i32_w]
                rfl
              refine pure_ (i := 12) (N := some 34) (v := ?_) (a' := ?_) #[true, true, true, true, true, true, true, true, true, true, true, true, true, false, false, false] rfl rfl (any_of HT_.out (by kernel_rfl)) (fun _ _ _ h => h) (Or.inl ⟨by rfl, ?_⟩) ?_ ?_
              rotate_left
              · intro w'
                go_simp
                with_reducible rfl
              rotate_left
              · simp only [Act.put, List.setIfInBounds_toArray, List.set_cons_zero, List.set_cons_succ, i64_w, i32_w]
                rfl
              refine pure_ (i := 13) (N := some 35) (v := ?_) (a' := ?_) #[true, true, true, true, true, true, true, true, true, true, true, true, true, true, false, false] rfl rfl (any_of HT_.out (by kernel_rfl)) (fun _ _ _ h => h) (Or.inl ⟨by rfl, ?_⟩) ?_ ?_
              rotate_left
              · intro w'
                go_simp
                with_reducible rfl
              rotate_left
              · simp only [Act.put, List.setIfInBounds_toArray, List.set_cons_zero, List.set_cons_succ, i64_w, i32_w]
                rfl
              refine pure_ (i := 14) (N := some 36) (v := ?_) (a' := ?_) #[true, true, true, true, true, true, true, true, true, true, true, true, true, true, true, false] rfl rfl (any_of HT_.out (by kernel_rfl)) (fun _ _ _ h => h) (Or.inl ⟨by rfl, ?_⟩) ?_ ?_
              rotate_left
              · intro w'
                go_simp
                with_reducible rfl
              rotate_left
              · simp only [Act.put, List.setIfInBounds_toArray, List.set_cons_zero, List.set_cons_succ, i64_w, i32_w]
                rfl
              refine last_ (i := 15) (N := none) #[true, true, true, true, true, true, true, true, true, true, true, true, true, true, true, true] rfl rfl (one_of HT_.out (by kernel_rfl)) (by decide) (fun K hK => ?_)
              refine skip_ (w1 := ?_) (by rfl) rfl ?_ ?_
              rotate_left
              · go_simp
                rfl
              refine hK.out _ _ ?_
              clear hK K
              refine done_ (done_of HT_.out (by kernel_rfl)) ?_
              (go_wp2)
              go_roundg k1
              case measure => have := HK1.out; omega
              case rel => exact ⟨(y173), (wrap64 (x11_1 + 1)), (by (rfl)), H', ⟨by have := HK1.out; omega⟩, ⟨by exact HQ15.out⟩, ⟨by repeat ((with_reducible first | exact HK.out | apply Kept.drewN | refine Kept.setCell ?_ HMgo12.out _))⟩, ⟨by repeat ((with_reducible first | exact HB.out | apply pw_below_drewN | refine below_set ?_ GB12.out))⟩⟩
            · rw [if_neg c9] at H
              exact absurd H (by simp)
          · rw [if_neg c6] at H
            exact absurd H (by simp)
        · rw [if_neg c5] at H
          exact absurd H (by simp)
      · rw [if_neg c4] at H
        have c4b0 : decide (x11_1 < (a2.size : Int)) = false := decide_eq_false c4
        clear c4
        obtain rfl := Option.some.inj H
        go_wp2
        (go_end0)
        exact ⟨by (rfl), by exact HO_0.out, HB.out, HK.out⟩

end Go.Proofs.Ythfddndmhjkeiaa.L
end
section
-- Printed for this claim by a small program of the session's own, drv.py, round the kit's print.py. Lean checks it.
namespace Go.Proofs.Ythfddndmhjkeiaa.L
open Go.RowKit Go.Proofs.YthfddndmhjkeiaaW.PrintWords Go.Proofs.YthfddndmhjkeiaaW.PrintLast Go.Proofs.YthfddndmhjkeiaaW.PrintMore
attribute [local go_sem] max2_int min2_int max_two min_two max_three min_three max_four min_four   -- for this text's walks alone
set_option linter.unusedVariables false
set_option linter.unusedSimpArgs false

/-! ### erasure_shard: function 40 -/
def erasure_shard.l0 : Nat → List ByteArray → List Int → List Int → Int → Int → Option (ByteArray)
  | 0, _, _, _, _, _ => none
  | k + 1, x1, x7, x12, x13, x14 => if x14 < x13 then (if 0 ≤ x14 then (if x14 < (x12.length : Int) then (if x14 < (x1.length : Int) then ((erasure_combine.f k x7 (rd x12 x14) (rdOf ByteArray.empty x1 x14)).bind fun t179 => (erasure_shard.l0 k x1 t179 x12 x13 (wrap64 (x14 + 1)))) else (none)) else (none)) else (none)) else (some (strOfNums x7))
def erasure_shard.f (k : Nat) (l0 : List Int) (l1 : List ByteArray) (a2 : Int) : Option (ByteArray) := if 0 ≤ a2 then (if (a2 : Int).toNat ≤ 281474976710656 then (erasure_shard.l0 k l1 (List.replicate (a2 : Int).toNat 0) l0 (l0.length : Int) 0) else (none)) else (none)
theorem erasure_shard.mono_l : ∀ k, (∀ y0 y1 y2 y3 y4, LeO (erasure_shard.l0 k y0 y1 y2 y3 y4) (erasure_shard.l0 (k + 1) y0 y1 y2 y3 y4))
  | 0 => fun _ _ _ _ _ r h => by simp [erasure_shard.l0] at h
  | k + 1 => by
    have ih0 := erasure_shard.mono_l k
    · intro y0 y1 y2 y3 y4
      unfold erasure_shard.l0
      repeat' first | (with_reducible exact ih0 _ _ _ _ _) | (with_reducible exact erasure_combine.mono _ _ _ _) | (with_reducible exact LeO.refl _) | (with_reducible refine LeO.ite ?_ ?_) | (with_reducible refine LeO.bind ?_ (fun _ => ?_))
theorem erasure_shard.mono : ∀ a0 a1 a2 k, LeO (erasure_shard.f k a0 a1 a2) (erasure_shard.f (k + 1) a0 a1 a2) := by
  intro a0 a1 a2 k
  have ih0 := erasure_shard.mono_l k
  unfold erasure_shard.f
  repeat' first | (with_reducible exact ih0 _ _ _ _ _) | (with_reducible exact LeO.refl _) | (with_reducible refine LeO.ite ?_ ?_)
set_option maxHeartbeats 8000000 in
set_option maxRecDepth 100000 in
theorem erasure_shard.calls (k : Nat) (A0 : Option Addr) (c0 : Nat) (l0 : List Int) (A1 : Option Addr) (c1 : Nat) (l1 : List ByteArray) (a2 : Int) (r : ByteArray) (w : World) (hr0 : Kd.C (Kd.int .i64) w A0 l0.length l0) (hc0 : l0.length ≤ c0) (hr1 : Kd.C Kd.string w A1 l1.length l1) (hc1 : l1.length ≤ c1) (h : erasure_shard.f k l0 l1 a2 = some r) :
    Calls Try.prog 40 #[.slice A0 l0.length c0, .slice A1 l1.length c1, .int .i64 a2] w fun e w' => e = .returned (.string r) ∧ Below w.heap.size w w' := by
  have HR0 := Aside0.mk hr0
  have HC0 := Aside0.mk hc0
  clear hr0 hc0
  have HR1 := Aside0.mk hr1
  have HC1 := Aside0.mk hc1
  clear hr1 hc1
  have HB := Aside0.mk (Below.refl w.heap.size w)
  have H : (if 0 ≤ a2 then (if (a2 : Int).toNat ≤ 281474976710656 then (erasure_shard.l0 k l1 (List.replicate (a2 : Int).toNat 0) l0 (l0.length : Int) 0) else (none)) else (none)) = some r := h
  clear h
  by_cases c4 : 0 ≤ a2
  · rw [if_pos c4] at H
    have c4b0 := eq_true c4
    have c4b1 : decide (0 ≤ a2) = true := decide_eq_true c4
    clear c4
    by_cases c5 : (a2 : Int).toNat ≤ 281474976710656
    · rw [if_pos c5] at H
      have c5b0 := eq_true c5
      have c5b1 : decide ((a2 : Int).toNat ≤ 281474976710656) = true := decide_eq_true c5
      clear c5
      obtain ⟨y174, hy174⟩ : ∃ y_ : List Int, y_ = (List.replicate (a2 : Int).toNat 0) := ⟨_, rfl⟩
      replace H : (erasure_shard.l0 k l1 y174 l0 (l0.length : Int) 0) = some r := by (rw [hy174]; with_reducible exact H)
      have Ny174 := Aside0.mk hy174
      clear hy174
      have H' := Aside0.mk H
      clear H
      go_enter Try.func40, Try.ntmps40
      go_wp2_with (((with_reducible refine gate_dst (N := 11) rfl ?_); refine Kd.R_make (Kd.int .u8) _ 5 rfl (N := 11) rfl 49 _ _ rfl a2 rfl rfl Try.underlying49 (.int .u8 0) 1 info5 rfl (by decide) (by omega) 0 (ok := fun _ => True) (okp := fun _ => True) rfl (fun _ hk => hk) trivial (of_decide_eq_true (by (with_reducible assumption))) (Nat.le_trans (Nat.mul_le_mul_right _ (of_decide_eq_true (by (with_reducible assumption)) : a2.toNat ≤ 281474976710656)) (by omega)) (Below.refl _ _) (Nat.le_refl _) ?_; intro v175 w6 ho7 hb hg_ hnew_; clear hg_ hnew_; ((rw [← Ny174.out] at ho7)); have n0_ := Aside0.mk (Kd.R_lower ho7 (below_size HB.out)); have n1_ := Aside0.mk (below_step HB.out hb); clear HB; have HO176 := n0_; have HB := n1_; clear n0_ n1_; clear hb ho7))
      go_loopg [14] k (fun kq v14 w' => ∃ (x7_1 : List Int) (x14_1 : Int), v14 = .int .i64 x14_1 ∧ Aside0 (erasure_shard.l0 kq l1 x7_1 l0 (l0.length : Int) x14_1 = some r) ∧ Aside0 (kq ≤ k) ∧ Aside0 (Kd.R (Kd.int .u8) 5 w' w.heap.size (fun _ => True) v175 x7_1) ∧ Aside0 (Below w.heap.size w w'))
      case atStart => exact ⟨(y174), (0), (by (rfl)), H', ⟨Nat.le_refl _⟩, ⟨by exact HO176.out⟩, ⟨HB.out⟩⟩
      case round =>
        clear H'
        clear c4b0 c4b1 c5b0 c5b1
        obtain ⟨x7_1, x14_1, rfl, HA, HK1, HO_7, HB⟩ := hrel
        cases gk with
        | zero => exact absurd HA.out (by simp [erasure_shard.l0])
        | succ k1 =>
          have H := HA.out
          clear HA
          simp only [erasure_shard.l0] at H
          by_cases c8 : x14_1 < (l0.length : Int)
          · rw [if_pos c8] at H
            have c8b0 : decide (x14_1 < (l0.length : Int)) = true := decide_eq_true c8
            clear c8
            by_cases c9 : 0 ≤ x14_1
            · rw [if_pos c9] at H
              have c9b0 : decide (0 ≤ x14_1) = true := decide_eq_true c9
              clear c9
              by_cases c10 : x14_1 < (l0.length : Int)
              · rw [if_pos c10] at H
                have c10b0 : decide (x14_1 < (l0.length : Int)) = true := decide_eq_true c10
                clear c10
                by_cases c11 : x14_1 < (l1.length : Int)
                · rw [if_pos c11] at H
                  have c11b0 : decide (x14_1 < (l1.length : Int)) = true := decide_eq_true c11
                  clear c11
                  replace H := Option.bind_eq_some_iff.mp H
                  obtain ⟨t179, A120, H⟩ := H
                  replace H : (erasure_shard.l0 k1 l1 t179 l0 (l0.length : Int) (wrap64 (x14_1 + 1))) = some r := H
                  have A12 := Aside0.mk A120
                  clear A120
                  have H' := Aside0.mk H
                  clear H
                  have p177 : 0 ≤ (x14_1 : Int) := of_decide_eq_true (by (with_reducible assumption))
                  have q177 : x14_1 < (l0.length : Int) := of_decide_eq_true (by (with_reducible assumption))
                  obtain ⟨ad177, e177, hx177_0⟩ := Kd.at_int HR0.out x14_1 p177 q177
                  cases e177
                  replace hx177_0 := (HB.out.cell (World.block_lt_of_cell? w _ hx177_0)).trans hx177_0
                  replace p177 := eq_true p177
                  replace q177 := eq_true q177
                  have p178 : 0 ≤ (x14_1 : Int) := of_decide_eq_true (by (with_reducible assumption))
                  have q178 : x14_1 < (l1.length : Int) := of_decide_eq_true (by (with_reducible assumption))
                  obtain ⟨ad178, e178, hx178_0⟩ := Kd.at_string HR1.out x14_1 p178 q178
                  cases e178
                  replace hx178_0 := (HB.out.cell (World.block_lt_of_cell? w _ hx178_0)).trans hx178_0
                  replace p178 := eq_true p178
                  replace q178 := eq_true q178
                  obtain ⟨Ao13, co13, eo13⟩ := Kd.R_slice HO_7.out
                  subst eo13
                  go_wp2_with (((with_reducible refine gate_callee (f := 60) rfl ?_); refine goesL_ (some 25) rfl rfl Try.func60 (by kernel_rfl) rfl #[.slice Ao13 x7_1.length co13, .int .i64 (rd l0 x14_1), .string (rdOf ByteArray.empty l1 x14_1)] rfl (by ((simp only [List.map_toArray, List.map_cons, List.map_nil])); (rfl)) ?_; (with_reducible refine (erasure_combine.calls k1 (fun k_ => some k_ = (.slice Ao13 x7_1.length co13 : Value).ownBlock) (.slice Ao13 x7_1.length co13) x7_1 (rd l0 x14_1) (rdOf ByteArray.empty l1 x14_1) t179 w _ ?side1 ?side2 A12.out).mono ?_); (case side1 => repeat ((with_reducible (exact HB.out)))); (case side2 => exact Kd.R_tight rfl HO_7.out); rintro e w14 ⟨rfl, hy0, hb, hkp⟩; refine ⟨_, rfl, ?_⟩; have n0_ := Aside0.mk (Kd.R_reok rfl hy0 (fun k_ e_ => HO_7.out.1 k_ e_)); have n1_ := Aside0.mk (hb); clear HO_7 HB; have HO_7 := n0_; have HB := n1_; clear n0_ n1_; clear hb; clear hkp; ((clear hy0))))
                  go_roundg k1
                  case measure => have := HK1.out; omega
                  case rel => exact ⟨(t179), (wrap64 (x14_1 + 1)), (by (rfl)), H', ⟨by have := HK1.out; omega⟩, ⟨by exact HO_7.out⟩, ⟨HB.out⟩⟩
                · rw [if_neg c11] at H
                  exact absurd H (by simp)
              · rw [if_neg c10] at H
                exact absurd H (by simp)
            · rw [if_neg c9] at H
              exact absurd H (by simp)
          · rw [if_neg c8] at H
            have c8b0 : decide (x14_1 < (l0.length : Int)) = false := decide_eq_false c8
            clear c8
            obtain rfl := Option.some.inj H
            have hcv15 := own_string (P := Try.prog) Try.underlying49 Try.underlying5 Try.underlying9 (Kd.own_of_R HO_7.out)
            go_wp2
            go_ret
            exact ⟨by (rfl), HB.out⟩
    · rw [if_neg c5] at H
      exact absurd H (by simp)
  · rw [if_neg c4] at H
    exact absurd H (by simp)

end Go.Proofs.Ythfddndmhjkeiaa.L
end
section
/- strings.Repeat and a strings.Builder of the call's own, as the shelf has them. -/
namespace Go.Proofs.Ythfddndmhjkeiaa.L
open Go.RowKit Go.Proofs.YthfddndmhjkeiaaW.PrintWords Go.Proofs.YthfddndmhjkeiaaW.PrintLast Go.Proofs.YthfddndmhjkeiaaW.PrintMore
set_option linter.unusedVariables false
set_option linter.unusedSimpArgs false

def strings_Repeat.f (a0 : ByteArray) (a1 : Int) : Option (ByteArray) :=
  if 0 ≤ a1 ∧ a1 ≤ 9223372036854775807 ∧ a0.size * a1.toNat ≤ 140737488355328 then some ⟨(Lib.repeatL a0.data.toList a1.toNat).toArray⟩ else none
theorem strings_Repeat.calls (a0 : ByteArray) (a1 : Int) (r : ByteArray) (w : World) (h : strings_Repeat.f a0 a1 = some r) :
    Calls Try.prog 38 #[.string a0, .int .i64 a1] w fun e w' => e = .returned (.string r) ∧ Below w.heap.size w w' := by
  unfold strings_Repeat.f at h
  split at h
  · rename_i hc
    obtain ⟨h0, h1, h2⟩ := hc
    obtain ⟨c, rfl⟩ := Int.eq_ofNat_of_zero_le h0
    rw [Int.toNat_natCast] at h h2
    injection h with h
    subst h
    exact Try.strings_Repeat a0 c w (by omega) h2
  · cases h
theorem writeString (B b : Nat) (bs : List Value) (s : ByteArray) (w : World) (h : Lib.IsBuilder 91 5 B b bs w) (hlen : bs.length + s.size ≤ 140737488355328) (hBw : B ≤ w.heap.size) :
    Calls Try.prog 47 #[.pointer (some ⟨b, 0, none⟩), .string s] w fun e w' => e = .returned (.tuple #[.int .i64 s.size, .nilIface]) ∧ (Lib.BuilderAt 91 5 B b (.pointer (some ⟨b, 0, none⟩)) (bs ++ Lib.strCells s) w' ∧ Below B w w') :=
  Any.Builder_WriteString { Try.lays105 with } Try.Builder_Extra_105 B b bs s w h hlen hBw
#print axioms writeString
end Go.Proofs.Ythfddndmhjkeiaa.L
end
section
-- Printed for this claim by a small program of the session's own, drv.py, round the kit's print.py. Lean checks it.
namespace Go.Proofs.Ythfddndmhjkeiaa.L
open Go.RowKit Go.Proofs.YthfddndmhjkeiaaW.PrintWords Go.Proofs.YthfddndmhjkeiaaW.PrintLast Go.Proofs.YthfddndmhjkeiaaW.PrintMore
attribute [local go_sem] max2_int min2_int max_two min_two max_three min_three max_four min_four   -- for this text's walks alone
set_option linter.unusedVariables false
set_option linter.unusedSimpArgs false

/-! ### erasure_Encode: function 22 -/
mutual
def erasure_Encode.l0 : Nat → ByteArray → Int → List ByteArray → Int → Int → Int → Int → Option ((List (S41)) × Int)
  | 0, _, _, _, _, _, _, _ => none
  | k + 1, x1, x6, x8, x34, x35, x181000, x181001 => if x35 < x34 then (if 0 ≤ (wrap64 (x35 * x6)) then (if (wrap64 (x35 * x6)) ≤ (wrap64 ((wrap64 (x35 + 1)) * x6)) then (if (wrap64 ((wrap64 (x35 + 1)) * x6)) ≤ (x1.size : Int) then (if x8.length < 8796093022208 then (erasure_Encode.l0 k x1 x6 (x8 ++ [x1.extract ((wrap64 (x35 * x6)) : Int).toNat ((wrap64 ((wrap64 (x35 + 1)) * x6)) : Int).toNat]) x34 (wrap64 (x35 + 1)) x181000 x181001) else (none)) else (none)) else (none)) else (none)) else ((erasure_rowsOf.f k x181000 x181001).bind fun bt187 => (erasure_Encode.l1 k x6 x8 ([] : List (S41)) x181001 0 x181000 x181001 bt187.1 bt187.2.1 bt187.2.2))
def erasure_Encode.l1 : Nat → Int → List ByteArray → List (S41) → Int → Int → Int → Int → Int → Int → List Int → Option ((List (S41)) × Int)
  | 0, _, _, _, _, _, _, _, _, _, _ => none
  | k + 1, x6, x8, x11, x54, x55, x181000, x181001, x193000, x193001, x193002 => if x55 < x54 then (if 0 ≤ (wrap64 (x55 * x181000)) then (if (wrap64 (x55 * x181000)) ≤ (wrap64 ((wrap64 (x55 + 1)) * x181000)) then (if (wrap64 ((wrap64 (x55 + 1)) * x181000)) ≤ (x193002.length : Int) then ((erasure_shard.f k ((x193002.take ((wrap64 ((wrap64 (x55 + 1)) * x181000)) : Int).toNat).drop ((wrap64 (x55 * x181000)) : Int).toNat) x8 x6).bind fun t197 => (if x11.length < 5864062014805 then (erasure_Encode.l1 k x6 x8 (x11 ++ [(⟨x55, t197⟩ : S41)]) x54 (wrap64 (x55 + 1)) x181000 x181001 x193000 x193001 x193002) else (none))) else (none)) else (none)) else (none)) else (some (x11, 0))
end
def erasure_Encode.f (k : Nat) (a0_0 : Int) (a0_1 : Int) (a1 : ByteArray) : Option ((List (S41)) × Int) := (erasure_Length.f a0_0 a0_1 (a1.size : Int)).bind fun bt181 => (if bt181.2 = 0 then ((strings_Repeat.f (⟨#[0]⟩ : ByteArray) (wrap64 ((wrap64 (bt181.1 * a0_0)) - (a1.size : Int)))).bind fun t183 => (if a1.size + t183.size ≤ 9223372036854775807 then (erasure_Encode.l0 k (a1 ++ t183) bt181.1 ([] : List ByteArray) a0_0 0 a0_0 a0_1) else (none))) else (none))
theorem erasure_Encode.mono_l : ∀ k, (∀ y0 y1 y2 y3 y4 y5 y6, LeO (erasure_Encode.l0 k y0 y1 y2 y3 y4 y5 y6) (erasure_Encode.l0 (k + 1) y0 y1 y2 y3 y4 y5 y6)) ∧ (∀ y0 y1 y2 y3 y4 y5 y6 y7 y8 y9, LeO (erasure_Encode.l1 k y0 y1 y2 y3 y4 y5 y6 y7 y8 y9) (erasure_Encode.l1 (k + 1) y0 y1 y2 y3 y4 y5 y6 y7 y8 y9))
  | 0 => ⟨fun _ _ _ _ _ _ _ r h => by simp [erasure_Encode.l0] at h, fun _ _ _ _ _ _ _ _ _ _ r h => by simp [erasure_Encode.l1] at h⟩
  | k + 1 => by
    obtain ⟨ih0, ih1⟩ := erasure_Encode.mono_l k
    refine ⟨?_, ?_⟩
    · intro y0 y1 y2 y3 y4 y5 y6
      unfold erasure_Encode.l0
      repeat' first | (with_reducible exact ih0 _ _ _ _ _ _ _) | (with_reducible exact ih1 _ _ _ _ _ _ _ _ _ _) | (with_reducible exact erasure_rowsOf.mono _ _ _) | (with_reducible exact LeO.refl _) | (with_reducible refine LeO.ite ?_ ?_) | (with_reducible refine LeO.bind ?_ (fun _ => ?_))
    · intro y0 y1 y2 y3 y4 y5 y6 y7 y8 y9
      unfold erasure_Encode.l1
      repeat' first | (with_reducible exact ih1 _ _ _ _ _ _ _ _ _ _) | (with_reducible exact erasure_shard.mono _ _ _ _) | (with_reducible exact LeO.refl _) | (with_reducible refine LeO.ite ?_ ?_) | (with_reducible refine LeO.bind ?_ (fun _ => ?_))
theorem erasure_Encode.mono : ∀ a0 a1 a2 k, LeO (erasure_Encode.f k a0 a1 a2) (erasure_Encode.f (k + 1) a0 a1 a2) := by
  intro a0 a1 a2 k
  obtain ⟨ih0, ih1⟩ := erasure_Encode.mono_l k
  unfold erasure_Encode.f
  repeat' first | (with_reducible exact ih0 _ _ _ _ _ _ _) | (with_reducible exact LeO.refl _) | (with_reducible refine LeO.ite ?_ ?_) | (with_reducible refine LeO.bind ?_ (fun _ => ?_))
set_option maxHeartbeats 8000000 in
set_option maxRecDepth 100000 in
theorem erasure_Encode.calls (k : Nat) (a0_0 : Int) (a0_1 : Int) (a1 : ByteArray) (r1 : List (S41)) (r2 : Int) (w : World) (h : erasure_Encode.f k a0_0 a0_1 a1 = some (r1, r2)) :
    Calls Try.prog 22 #[.agg #[.int .i64 a0_0, .int .i64 a0_1], .string a1] w fun e w' => ∃ v0_ : Value, e = .returned (.tuple #[v0_, .int .i64 r2]) ∧ Kd.R k41 41 w' w.heap.size (fun _ => True) v0_ r1 ∧ Below w.heap.size w w' := by
  have hu30 := Try.underlying30
  have hu79 := Try.underlying79
  have hu41 := Try.underlying41
  have HB := Aside0.mk (Below.refl w.heap.size w)
  have H : ((erasure_Length.f a0_0 a0_1 (a1.size : Int)).bind fun bt181 => (if bt181.2 = 0 then ((strings_Repeat.f (⟨#[0]⟩ : ByteArray) (wrap64 ((wrap64 (bt181.1 * a0_0)) - (a1.size : Int)))).bind fun t183 => (if a1.size + t183.size ≤ 9223372036854775807 then (erasure_Encode.l0 k (a1 ++ t183) bt181.1 ([] : List ByteArray) a0_0 0 a0_0 a0_1) else (none))) else (none))) = some (r1, r2) := h
  clear h
  replace H := Option.bind_eq_some_iff.mp H
  obtain ⟨⟨t181, t182⟩, A30, H⟩ := H
  replace H : (if t182 = 0 then ((strings_Repeat.f (⟨#[0]⟩ : ByteArray) (wrap64 ((wrap64 (t181 * a0_0)) - (a1.size : Int)))).bind fun t183 => (if a1.size + t183.size ≤ 9223372036854775807 then (erasure_Encode.l0 k (a1 ++ t183) t181 ([] : List ByteArray) a0_0 0 a0_0 a0_1) else (none))) else (none)) = some (r1, r2) := H
  have A3 := Aside0.mk A30
  clear A30
  by_cases c4 : t182 = 0
  · rw [if_pos c4] at H
    have c4b0 : (t182 == 0) = true := beq_iff_eq.mpr c4
    have c4b1 : (t182 != 0) = false := bne_eq_false_iff_eq.mpr c4
    clear c4
    replace H := Option.bind_eq_some_iff.mp H
    obtain ⟨t183, A50, H⟩ := H
    replace H : (if a1.size + t183.size ≤ 9223372036854775807 then (erasure_Encode.l0 k (a1 ++ t183) t181 ([] : List ByteArray) a0_0 0 a0_0 a0_1) else (none)) = some (r1, r2) := H
    have A5 := Aside0.mk A50
    clear A50
    by_cases c6 : a1.size + t183.size ≤ 9223372036854775807
    · rw [if_pos c6] at H
      have c6b0 := eq_true c6
      have c6b1 : decide (a1.size + t183.size ≤ 9223372036854775807) = true := decide_eq_true c6
      (have c6b2 : (9223372036854775807 < a1.size + t183.size) = False := eq_false (Nat.not_lt.2 c6))
      have H' := Aside0.mk H
      clear H
      go_enter Try.func22, Try.ntmps22
      go_wp2_with (first | ((with_reducible refine gate_dst (N := 2) rfl ?_); refine box_event ?hg (N := 2) ?hd (cs := #[.int .i64 a0_0, .int .i64 a0_1]) (t := 30) ?hr ?_; (case hd => rfl); (case hg => rfl); (case hr => (go_simp; done)); intro gb180 hg w7 hbox hb; have n0_ := Aside0.mk (below_step HB.out hb); have n1_ := Aside0.mk (hbox); have n2_ := Aside0.mk ((by rw [hg]; exact (below_size HB.out) : w.heap.size ≤ gb180)); have n3_ := Aside0.mk ((by rw [hg]; exact (below_size HB.out) : w.heap.size ≤ gb180)); clear HB; have HB := n0_; have BK180 := n1_; have GW180 := n2_; have GE180 := n3_; clear n0_ n1_ n2_ n3_; clear hb hbox hg; have hcz8_0 : w7.cell? ⟨gb180, 0, none⟩ = some (.int .i64 a0_0) := (blk_cell BK180.out 0).trans rfl; have hcz8_1 : w7.cell? ⟨gb180, 1, none⟩ = some (.int .i64 a0_1) := (blk_cell BK180.out 1).trans rfl; have hfz8_0 := blk_frozen BK180.out 0; have hfz8_1 := blk_frozen BK180.out 1) | ((with_reducible refine gate_callee (f := 30) rfl ?_); refine goesL_ (some 17) rfl rfl Try.func30 (by kernel_rfl) rfl #[.agg #[.int .i64 a0_0, .int .i64 a0_1], .int .i64 (a1.size : Int)] rfl (by ((simp only [List.map_toArray, List.map_cons, List.map_nil])); (rfl)) ?_; (with_reducible refine (erasure_Length.calls a0_0 a0_1 (a1.size : Int) t181 t182 _ A3.out).mono ?_); rintro e w9 ⟨rfl, hb⟩; refine ⟨_, rfl, ?_⟩; have n0_ := Aside0.mk (blk_below (g := gb180) (o := .cells #[.int .i64 a0_0, .int .i64 a0_1] 30 (0, 0)) (by exact BK180.out) hb); have n1_ := Aside0.mk (below_step HB.out hb); clear BK180 HB; have BK180 := n0_; have HB := n1_; clear n0_ n1_; clear hb; have hcz10_0 : w9.cell? ⟨gb180, 0, none⟩ = some (.int .i64 a0_0) := (blk_cell BK180.out 0).trans rfl; have hcz10_1 : w9.cell? ⟨gb180, 1, none⟩ = some (.int .i64 a0_1) := (blk_cell BK180.out 1).trans rfl; have hfz10_0 := blk_frozen BK180.out 0; have hfz10_1 := blk_frozen BK180.out 1) | ((with_reducible refine gate_callee (f := 38) rfl ?_); refine goesL_ (some 31) rfl rfl Try.func38 (by kernel_rfl) rfl #[.string (⟨#[0]⟩ : ByteArray), .int .i64 (wrap64 ((wrap64 (t181 * a0_0)) - (a1.size : Int)))] rfl (by ((simp only [List.map_toArray, List.map_cons, List.map_nil])); (rfl)) ?_; (with_reducible refine (strings_Repeat.calls (⟨#[0]⟩ : ByteArray) (wrap64 ((wrap64 (t181 * a0_0)) - (a1.size : Int))) t183 _ A5.out).mono ?_); rintro e w11 ⟨rfl, hb⟩; refine ⟨_, rfl, ?_⟩; have n0_ := Aside0.mk (blk_below (g := gb180) (o := .cells #[.int .i64 a0_0, .int .i64 a0_1] 30 (0, 0)) (by exact BK180.out) hb); have n1_ := Aside0.mk (below_step HB.out hb); clear BK180 HB; have BK180 := n0_; have HB := n1_; clear n0_ n1_; clear hb; have hcz12_0 : w11.cell? ⟨gb180, 0, none⟩ = some (.int .i64 a0_0) := (blk_cell BK180.out 0).trans rfl; have hcz12_1 : w11.cell? ⟨gb180, 1, none⟩ = some (.int .i64 a0_1) := (blk_cell BK180.out 1).trans rfl; have hfz12_0 := blk_frozen BK180.out 0; have hfz12_1 := blk_frozen BK180.out 1))
      generalize a1 ++ t183 = dat at H' ⊢
      go_loopg [8, 35] k (fun kq v8 v35 w' => ∃ (x8_1 : List ByteArray) (x35_1 : Int), v35 = .int .i64 x35_1 ∧ Aside0 (erasure_Encode.l0 kq dat t181 x8_1 a0_0 x35_1 a0_0 a0_1 = some (r1, r2)) ∧ Aside0 (kq ≤ k) ∧ Aside0 (Kd.R Kd.string 9 w' w.heap.size (fun _ => True) v8 x8_1) ∧ Aside0 (w'.heap[gb180]? = some (.cells #[.int .i64 a0_0, .int .i64 a0_1] 30 (0, 0))) ∧ Aside0 (Below w.heap.size w w'))
      case atStart => exact ⟨(([] : List ByteArray)), (0), (by (rfl)), H', ⟨Nat.le_refl _⟩, ⟨by (exact Kd.R_nil _ _ _ _ _)⟩, ⟨by exact BK180.out⟩, ⟨HB.out⟩⟩
      case round =>
        clear H'
        clear c4b0 c4b1 c6 c6b0 c6b1 c6b2 hcz10_0 hcz10_1 hcz12_0 hcz12_1 hcz8_0 hcz8_1 hfz10_0 hfz10_1 hfz12_0 hfz12_1 hfz8_0 hfz8_1
        obtain ⟨x8_1, x35_1, rfl, HA, HK1, HO_8, BK180, HB⟩ := hrel
        cases gk with
        | zero => exact absurd HA.out (by simp [erasure_Encode.l0])
        | succ k1 =>
          have H := HA.out
          clear HA
          simp only [erasure_Encode.l0] at H
          by_cases c13 : x35_1 < a0_0
          · rw [if_pos c13] at H
            have c13b0 : decide (x35_1 < a0_0) = true := decide_eq_true c13
            clear c13
            obtain ⟨ji14, hji14⟩ : ∃ j_ : Int, (wrap64 (x35_1 * t181)) = j_ := ⟨_, rfl⟩
            replace H : (if 0 ≤ (ji14) then (if (ji14) ≤ (wrap64 ((wrap64 (x35_1 + 1)) * t181)) then (if (wrap64 ((wrap64 (x35_1 + 1)) * t181)) ≤ (dat.size : Int) then (if x8_1.length < 8796093022208 then (erasure_Encode.l0 k1 dat t181 (x8_1 ++ [dat.extract ((ji14) : Int).toNat ((wrap64 ((wrap64 (x35_1 + 1)) * t181)) : Int).toNat]) a0_0 (wrap64 (x35_1 + 1)) a0_0 a0_1) else (none)) else (none)) else (none)) else (none)) = some (r1, r2) := by (rw [hji14] at H; exact H)
            have hji14w : (IntKind.i64.wrap (x35_1 * t181)) = ji14 := (i64_w _).trans hji14
            by_cases c15 : 0 ≤ (ji14)
            · rw [if_pos c15] at H
              have c15b0 := eq_true c15
              have c15b1 : decide (0 ≤ (ji14)) = true := decide_eq_true c15
              clear c15
              by_cases c16 : (ji14) ≤ (wrap64 ((wrap64 (x35_1 + 1)) * t181))
              · rw [if_pos c16] at H
                have c16b0 := eq_true c16
                have c16b1 : decide ((ji14) ≤ (wrap64 ((wrap64 (x35_1 + 1)) * t181))) = true := decide_eq_true c16
                by_cases c17 : (wrap64 ((wrap64 (x35_1 + 1)) * t181)) ≤ (dat.size : Int)
                · rw [if_pos c17] at H
                  have c17b0 := eq_true c17
                  have c17b1 : decide ((wrap64 ((wrap64 (x35_1 + 1)) * t181)) ≤ (dat.size : Int)) = true := decide_eq_true c17
                  by_cases c18 : x8_1.length < 8796093022208
                  · rw [if_pos c18] at H
                    have LMc18 := Aside0.mk c18
                    clear c18
                    obtain ⟨y184, hy184⟩ : ∃ y_ : List ByteArray, y_ = (x8_1 ++ [dat.extract ((ji14) : Int).toNat ((wrap64 ((wrap64 (x35_1 + 1)) * t181)) : Int).toNat]) := ⟨_, rfl⟩
                    replace H : (erasure_Encode.l0 k1 dat t181 y184 a0_0 (wrap64 (x35_1 + 1)) a0_0 a0_1) = some (r1, r2) := by (rw [hy184]; with_reducible exact H)
                    have Ny184 := Aside0.mk hy184
                    clear hy184
                    have H' := Aside0.mk H
                    clear H
                    go_wp2_with (((with_reducible refine gate_builtin (b := .append) (xs := #[.tmp 38, .tmp 48]) rfl ?_); at_builtin; refine Kd.R_append Kd.string (w0 := w) w.heap.size rfl (.tmp 38) (.tmp 48) 77 9 (.string ⟨#[]⟩) 16 rfl Try.underlying77 info9 rfl (by decide) (by omega) u8 x8_1 (dat.extract ((ji14) : Int).toNat ((wrap64 ((wrap64 (x35_1 + 1)) * t181)) : Int).toNat) [.string (dat.extract ((ji14) : Int).toNat ((wrap64 ((wrap64 (x35_1 + 1)) * t181)) : Int).toNat)] (fun _ => True) (fun _ => False) rfl rfl ?aP (fun _ hk => hk.elim) ?aF ?aO ?aB ?aS ?aL ?_; (case aP => exact rfl); (case aB => exact HB.out); (case aF => exact (fun _ _ => trivial)); (case aO => exact (by exact HO_8.out)); (case aS => exact (below_size HB.out)); (case aL => have := LMc18.out; omega); intro v185 w19 ho hb hg hat; rw [← Ny184.out] at ho; have n0_ := Aside0.mk (blk_grown (g := gb180) (o := .cells #[.int .i64 a0_0, .int .i64 a0_1] 30 (0, 0)) (by exact BK180.out) hg (Kd.R_ne HO_8.out BK180.out (by decide))); have n1_ := Aside0.mk (hb); have n2_ := Aside0.mk (ho); clear BK180 HB HO_8; have BK180 := n0_; have HB := n1_; have HO186 := n2_; clear n0_ n1_ n2_; clear ho hb hg hat))
                    go_roundg k1
                    case measure => have := HK1.out; omega
                    case rel => exact ⟨(y184), (wrap64 (x35_1 + 1)), (by (rfl)), H', ⟨by have := HK1.out; omega⟩, ⟨by exact HO186.out⟩, ⟨by exact BK180.out⟩, ⟨HB.out⟩⟩
                  · rw [if_neg c18] at H
                    exact absurd H (by simp)
                · rw [if_neg c17] at H
                  exact absurd H (by simp)
              · rw [if_neg c16] at H
                exact absurd H (by simp)
            · rw [if_neg c15] at H
              exact absurd H (by simp)
          · rw [if_neg c13] at H
            have c13b0 : decide (x35_1 < a0_0) = false := decide_eq_false c13
            clear c13
            replace H := Option.bind_eq_some_iff.mp H
            obtain ⟨⟨t187, t188, t189⟩, A200, H⟩ := H
            replace H : (erasure_Encode.l1 k1 t181 x8_1 ([] : List (S41)) a0_1 0 a0_0 a0_1 t187 t188 t189) = some (r1, r2) := H
            have A20 := Aside0.mk A200
            clear A200
            have H' := Aside0.mk H
            clear H
            have hcz21_0 : wr.cell? ⟨gb180, 0, none⟩ = some (.int .i64 a0_0) := (blk_cell BK180.out 0).trans rfl
            have hcz21_1 : wr.cell? ⟨gb180, 1, none⟩ = some (.int .i64 a0_1) := (blk_cell BK180.out 1).trans rfl
            have hfz21_0 := blk_frozen BK180.out 0
            have hfz21_1 := blk_frozen BK180.out 1
            go_wp2_with (first | ((with_reducible refine gate_callee (f := 39) rfl ?_); refine goesL_ (some 52) rfl rfl Try.func39 (by kernel_rfl) rfl #[.agg #[.int .i64 a0_0, .int .i64 a0_1]] rfl (by ((simp only [List.map_toArray, List.map_cons, List.map_nil])); (rfl)) ?_; (with_reducible refine (erasure_rowsOf.calls k1 a0_0 a0_1 t187 t188 t189 _ A20.out).mono ?_); rintro e w22 ⟨v190, rfl, ho0, hb⟩; refine ⟨_, rfl, ?_⟩; have n0_ := Aside0.mk (Kd.R_below (by exact HO_8.out) hb); have n1_ := Aside0.mk (Kd.R_lower ho0 (below_size HB.out)); have n2_ := Aside0.mk (blk_below (g := gb180) (o := .cells #[.int .i64 a0_0, .int .i64 a0_1] 30 (0, 0)) (by exact BK180.out) hb); have n3_ := Aside0.mk (below_step HB.out hb); clear HO_8 BK180 HB; have HO_8 := n0_; have HO191 := n1_; have BK180 := n2_; have HB := n3_; clear n0_ n1_ n2_ n3_; clear hb; clear ho0) | ((with_reducible refine gate_dst (N := 10) rfl ?_); refine box_event ?hg (N := 10) ?hd (cs := #[.int .i64 0, .int .i64 0, .slice none 0 0]) (t := 79) ?hr ?_; (case hd => rfl); (case hg => rfl); (case hr => (go_simp; done)); intro gb192 hg w23 hbox hb; have n0_ := Aside0.mk (Kd.R_below (by exact HO_8.out) hb); have n1_ := Aside0.mk (Kd.R_below (by exact HO191.out) hb); have n2_ := Aside0.mk (blk_below (g := gb180) (o := .cells #[.int .i64 a0_0, .int .i64 a0_1] 30 (0, 0)) (by exact BK180.out) hb); have n3_ := Aside0.mk (below_step HB.out hb); have n4_ := Aside0.mk (hbox); have n5_ := Aside0.mk ((by rw [hg]; exact (below_size HB.out) : w.heap.size ≤ gb192)); have n6_ := Aside0.mk ((by rw [hg]; exact (below_size HB.out) : w.heap.size ≤ gb192)); have n7_ := Aside0.mk ((by rw [hg]; exact Nat.ne_of_lt (blk_lt (g := gb180) (o := .cells #[.int .i64 a0_0, .int .i64 a0_1] 30 (0, 0)) (by exact BK180.out)) : gb180 ≠ gb192)); have n8_ := Aside0.mk ((by rw [hg]; exact Nat.ne_of_gt (blk_lt (g := gb180) (o := .cells #[.int .i64 a0_0, .int .i64 a0_1] 30 (0, 0)) (by exact BK180.out)) : gb192 ≠ gb180)); clear HO_8 HO191 BK180 HB; have HO_8 := n0_; have HO191 := n1_; have BK180 := n2_; have HB := n3_; have BK192 := n4_; have GW192 := n5_; have GE192 := n6_; have NB180_192 := n7_; have NB192_180 := n8_; clear n0_ n1_ n2_ n3_ n4_ n5_ n6_ n7_ n8_; clear hb hbox hg; have hnb24 := NB192_180.out; have hnc24 := NB180_192.out; have hcz25_0 : w23.cell? ⟨gb192, 0, none⟩ = some (.int .i64 0) := (blk_cell BK192.out 0).trans rfl; have hcz25_1 : w23.cell? ⟨gb192, 1, none⟩ = some (.int .i64 0) := (blk_cell BK192.out 1).trans rfl; have hcz25_2 : w23.cell? ⟨gb192, 2, none⟩ = some (.slice none 0 0) := (blk_cell BK192.out 2).trans rfl; have hfz25_0 := blk_frozen BK192.out 0; have hfz25_1 := blk_frozen BK192.out 1; have hfz25_2 := blk_frozen BK192.out 2; obtain ⟨Ao26, co26, eo26⟩ := Kd.R_slice HO191.out; subst eo26; have hcz27_0 : w23.cell? ⟨gb180, 0, none⟩ = some (.int .i64 a0_0) := (blk_cell BK180.out 0).trans rfl; have hcz27_1 : w23.cell? ⟨gb180, 1, none⟩ = some (.int .i64 a0_1) := (blk_cell BK180.out 1).trans rfl; have hfz27_0 := blk_frozen BK180.out 0; have hfz27_1 := blk_frozen BK180.out 1))
            go_loopg [11, 55] k1 (fun kq v11 v55 w' => ∃ (x11_2 : List (S41)) (x55_2 : Int), v55 = .int .i64 x55_2 ∧ Aside0 (erasure_Encode.l1 kq t181 x8_1 x11_2 a0_1 x55_2 a0_0 a0_1 t187 t188 t189 = some (r1, r2)) ∧ Aside0 (kq ≤ k1) ∧ Aside0 (Kd.R Kd.string 9 w' w.heap.size (fun _ => True) u8 x8_1) ∧ Aside0 (Kd.R k41 41 w' w.heap.size (fun _ => True) v11 x11_2) ∧ Aside0 (Kd.R (Kd.int .i64) 3 w' w.heap.size (fun _ => True) (.slice Ao26 t189.length co26) t189) ∧ Aside0 (w'.heap[gb180]? = some (.cells #[.int .i64 a0_0, .int .i64 a0_1] 30 (0, 0))) ∧ Aside0 (w'.heap[gb192]? = some (.cells #[.int .i64 t187, .int .i64 t188, (.slice Ao26 t189.length co26)] 79 (0, 0))) ∧ Aside0 (Below w.heap.size w w'))
            case atStart => exact ⟨(([] : List (S41))), (0), (by (rfl)), H', ⟨Nat.le_refl _⟩, ⟨by exact Kd.R_mono (Kd.R_far (p := ⟨gb192, 2, none⟩) (Kd.R_far (p := ⟨gb192, 1, none⟩) (Kd.R_far (p := ⟨gb192, 0, none⟩) (Kd.R_types HO_8.out BK192.out (by decide)) (fun _ hk => hk.2) (.int .i64 t187)) (fun _ hk => hk.2) (.int .i64 t188)) (fun _ hk => hk.2) (.slice Ao26 t189.length co26)) (fun _ hk => trivial)⟩, ⟨by (exact Kd.R_nil _ _ _ _ _)⟩, ⟨by exact Kd.R_mono (Kd.R_far (p := ⟨gb192, 2, none⟩) (Kd.R_far (p := ⟨gb192, 1, none⟩) (Kd.R_far (p := ⟨gb192, 0, none⟩) (Kd.R_types HO191.out BK192.out (by decide)) (fun _ hk => hk.2) (.int .i64 t187)) (fun _ hk => hk.2) (.int .i64 t188)) (fun _ hk => hk.2) (.slice Ao26 t189.length co26)) (fun _ hk => trivial)⟩, ⟨by refine blk_far ?_ NB180_192.out _; refine blk_far ?_ NB180_192.out _; refine blk_far ?_ NB180_192.out _; exact BK180.out⟩, ⟨by refine blk_put (cs := #[.int .i64 t187, .int .i64 t188, .slice none 0 0]) ?_ 2 _ rfl; refine blk_put (cs := #[.int .i64 t187, .int .i64 0, .slice none 0 0]) ?_ 1 _ rfl; refine blk_put (cs := #[.int .i64 0, .int .i64 0, .slice none 0 0]) ?_ 0 _ rfl; exact BK192.out⟩, ⟨by repeat ((with_reducible first | exact HB.out | refine below_set ?_ GE192.out))⟩⟩
            case round =>
              clear H'
              clear c13b0 hcz21_0 hcz21_1 hcz25_0 hcz25_1 hcz25_2 hcz27_0 hcz27_1 hfz21_0 hfz21_1 hfz25_0 hfz25_1 hfz25_2 hfz27_0 hfz27_1
              obtain ⟨x11_2, x55_2, rfl, HA, HK2, HO_8, HO_11, HO_193002, BK180, BK192, HB⟩ := hrel
              cases gk with
              | zero => exact absurd HA.out (by simp [erasure_Encode.l1])
              | succ k2 =>
                have H := HA.out
                clear HA
                simp only [erasure_Encode.l1] at H
                by_cases c28 : x55_2 < a0_1
                · rw [if_pos c28] at H
                  have c28b0 : decide (x55_2 < a0_1) = true := decide_eq_true c28
                  clear c28
                  obtain ⟨ji29, hji29⟩ : ∃ j_ : Int, (wrap64 (x55_2 * a0_0)) = j_ := ⟨_, rfl⟩
                  replace H : (if 0 ≤ (ji29) then (if (ji29) ≤ (wrap64 ((wrap64 (x55_2 + 1)) * a0_0)) then (if (wrap64 ((wrap64 (x55_2 + 1)) * a0_0)) ≤ (t189.length : Int) then ((erasure_shard.f k2 ((t189.take ((wrap64 ((wrap64 (x55_2 + 1)) * a0_0)) : Int).toNat).drop ((ji29) : Int).toNat) x8_1 t181).bind fun t197 => (if x11_2.length < 5864062014805 then (erasure_Encode.l1 k2 t181 x8_1 (x11_2 ++ [(⟨x55_2, t197⟩ : S41)]) a0_1 (wrap64 (x55_2 + 1)) a0_0 a0_1 t187 t188 t189) else (none))) else (none)) else (none)) else (none)) = some (r1, r2) := by (rw [hji29] at H; exact H)
                  have hji29w : (IntKind.i64.wrap (x55_2 * a0_0)) = ji29 := (i64_w _).trans hji29
                  by_cases c30 : 0 ≤ (ji29)
                  · rw [if_pos c30] at H
                    have c30b0 := eq_true c30
                    have c30b1 : decide (0 ≤ (ji29)) = true := decide_eq_true c30
                    clear c30
                    by_cases c31 : (ji29) ≤ (wrap64 ((wrap64 (x55_2 + 1)) * a0_0))
                    · rw [if_pos c31] at H
                      have c31b0 := eq_true c31
                      have c31b1 : decide ((ji29) ≤ (wrap64 ((wrap64 (x55_2 + 1)) * a0_0))) = true := decide_eq_true c31
                      by_cases c32 : (wrap64 ((wrap64 (x55_2 + 1)) * a0_0)) ≤ (t189.length : Int)
                      · rw [if_pos c32] at H
                        have c32b0 := eq_true c32
                        have c32b1 : decide ((wrap64 ((wrap64 (x55_2 + 1)) * a0_0)) ≤ (t189.length : Int)) = true := decide_eq_true c32
                        obtain ⟨y193, hy193⟩ : ∃ y_ : List Int, y_ = ((t189.take ((wrap64 ((wrap64 (x55_2 + 1)) * a0_0)) : Int).toNat).drop ((ji29) : Int).toNat) := ⟨_, rfl⟩
                        replace H : ((erasure_shard.f k2 y193 x8_1 t181).bind fun t197 => (if x11_2.length < 5864062014805 then (erasure_Encode.l1 k2 t181 x8_1 (x11_2 ++ [(⟨x55_2, t197⟩ : S41)]) a0_1 (wrap64 (x55_2 + 1)) a0_0 a0_1 t187 t188 t189) else (none))) = some (r1, r2) := by (rw [hy193]; with_reducible exact H)
                        have Ny193 := Aside0.mk hy193
                        clear hy193
                        replace H := Option.bind_eq_some_iff.mp H
                        obtain ⟨t197, A330, H⟩ := H
                        replace H : (if x11_2.length < 5864062014805 then (erasure_Encode.l1 k2 t181 x8_1 (x11_2 ++ [(⟨x55_2, t197⟩ : S41)]) a0_1 (wrap64 (x55_2 + 1)) a0_0 a0_1 t187 t188 t189) else (none)) = some (r1, r2) := H
                        have A33 := Aside0.mk A330
                        clear A330
                        by_cases c34 : x11_2.length < 5864062014805
                        · rw [if_pos c34] at H
                          have LMc34 := Aside0.mk c34
                          clear c34
                          obtain ⟨y198, hy198⟩ : ∃ y_ : List (S41), y_ = (x11_2 ++ [(⟨x55_2, t197⟩ : S41)]) := ⟨_, rfl⟩
                          replace H : (erasure_Encode.l1 k2 t181 x8_1 y198 a0_1 (wrap64 (x55_2 + 1)) a0_0 a0_1 t187 t188 t189) = some (r1, r2) := by (rw [hy198]; with_reducible exact H)
                          have Ny198 := Aside0.mk hy198
                          clear hy198
                          have H' := Aside0.mk H
                          clear H
                          have hnb35 := NB192_180.out
                          have hnc35 := NB180_192.out
                          have hcz36_0 : wr.cell? ⟨gb192, 0, none⟩ = some (.int .i64 t187) := (blk_cell BK192.out 0).trans rfl
                          have hcz36_1 : wr.cell? ⟨gb192, 1, none⟩ = some (.int .i64 t188) := (blk_cell BK192.out 1).trans rfl
                          have hcz36_2 : wr.cell? ⟨gb192, 2, none⟩ = some (.slice Ao26 t189.length co26) := (blk_cell BK192.out 2).trans rfl
                          have hfz36_0 := blk_frozen BK192.out 0
                          have hfz36_1 := blk_frozen BK192.out 1
                          have hfz36_2 := blk_frozen BK192.out 2
                          have hcz37_0 : wr.cell? ⟨gb180, 0, none⟩ = some (.int .i64 a0_0) := (blk_cell BK180.out 0).trans rfl
                          have hcz37_1 : wr.cell? ⟨gb180, 1, none⟩ = some (.int .i64 a0_1) := (blk_cell BK180.out 1).trans rfl
                          have hfz37_0 := blk_frozen BK180.out 0
                          have hfz37_1 := blk_frozen BK180.out 1
                          have q38 : ((wrap64 ((wrap64 (x55_2 + 1)) * a0_0)) : Int) ≤ ((t189.length : Int) : Int) := of_decide_eq_true (by (with_reducible assumption))
                          obtain ⟨i038, hi038, _, hsz38, _⟩ := info_parts info3
                          have hroom38 : t189.length ≤ co26 := (Kd.R_reads' HO_193002.out).2.1
                          have hC38 : Kd.C (Kd.int .i64) _ Ao26 t189.length t189 := (Kd.R_reads' HO_193002.out).2.2
                          have ql38 : ((ji29) : Int) ≤ ((wrap64 ((wrap64 (x55_2 + 1)) * a0_0)) : Int) := of_decide_eq_true (by (with_reducible assumption))
                          have q038 : (0 : Int) ≤ ((ji29) : Int) := of_decide_eq_true (by (with_reducible assumption))
                          have hcut38 := cut_mid (P := Try.prog) 22 3 .i64 .i64 Try.underlying22 hi038 1 hsz38 Ao26 t189.length co26 (ji29) (wrap64 ((wrap64 (x55_2 + 1)) * a0_0)) q038 ql38 q38 hroom38
                          have hr38 := Kd.C_mid (lo := ((ji29) : Int).toNat) (hi := ((wrap64 ((wrap64 (x55_2 + 1)) * a0_0)) : Int).toNat) (c := co26) hC38 (by omega) (by omega) hroom38
                          obtain ⟨A38, hA38⟩ : ∃ A1, A1 = (if co26 = ((ji29) : Int).toNat then Ao26 else (Ao26 : Option Addr).map (·.add (((ji29) : Int).toNat * 1))) := ⟨_, rfl⟩
                          obtain ⟨c38, hc38⟩ : ∃ c1, c1 = co26 - ((ji29) : Int).toNat := ⟨_, rfl⟩
                          have hy38 : y193.length = ((wrap64 ((wrap64 (x55_2 + 1)) * a0_0)) : Int).toNat - ((ji29) : Int).toNat := (by rw [Ny193.out, List.length_drop, List.length_take] <;> omega)
                          rw [show ((t189).take ((wrap64 ((wrap64 (x55_2 + 1)) * a0_0)) : Int).toNat).drop ((ji29) : Int).toNat = y193 from Ny193.out.symm] at hr38
                          replace hr38 : Kd.C (Kd.int .i64) _ A38 y193.length y193 := (by rw [hA38]; exact hr38)
                          rw [← hy38, ← hA38, ← hc38] at hcut38
                          have HR196 := Aside0.mk hr38
                          have HC196 := Aside0.mk (show y193.length ≤ c38 from by rw [hy38, hc38]; exact Nat.sub_le_sub_right (Nat.le_trans (by omega) hroom38) _)
                          clear hr38 hC38 hroom38 hi038 hsz38 hc38
                          have KY38 := Aside0.mk hy38
                          have KA38 := Aside0.mk hA38
                          clear hy38 hA38
                          have KL38 := Aside0.mk (show ((wrap64 ((wrap64 (x55_2 + 1)) * a0_0)) : Int).toNat ≤ t189.length from by omega)
                          have KM38 := Aside0.mk (show ((ji29) : Int).toNat ≤ ((wrap64 ((wrap64 (x55_2 + 1)) * a0_0)) : Int).toNat from by omega)
                          replace q38 := eq_true q38
                          obtain ⟨Ao39, co39, eo39⟩ := Kd.R_slice HO_8.out
                          subst eo39
                          go_wp2_with (first | ((with_reducible refine gate_callee (f := 40) rfl ?_); refine goesL_ (some 74) rfl rfl Try.func40 (by kernel_rfl) rfl #[.slice A38 y193.length c38, .slice Ao39 x8_1.length co39, .int .i64 t181] rfl (by ((simp only [List.map_toArray, List.map_cons, List.map_nil])); (rfl)) ?_; (with_reducible refine (erasure_shard.calls k2 _ _ y193 _ _ x8_1 t181 t197 _ ?side1 ?side2 ?side3 ?side4 A33.out).mono ?_); (case side1 => repeat ((exact (by repeat ((with_reducible exact HR196.out)))))); (case side2 => exact HC196.out); (case side3 => repeat ((exact (Kd.R_reads' HO_8.out).2.2))); (case side4 => exact (Kd.R_reads' HO_8.out).2.1); rintro e w40 ⟨rfl, hb⟩; refine ⟨_, rfl, ?_⟩; have n0_ := Aside0.mk (Kd.R_below (by exact HO_8.out) hb); have n1_ := Aside0.mk (Kd.R_below (by exact HO_11.out) hb); have n2_ := Aside0.mk (Kd.R_below (by exact HO_193002.out) hb); have n3_ := Aside0.mk (blk_below (g := gb180) (o := .cells #[.int .i64 a0_0, .int .i64 a0_1] 30 (0, 0)) (by exact BK180.out) hb); have n4_ := Aside0.mk (blk_below (g := gb192) (o := .cells #[.int .i64 t187, .int .i64 t188, .slice Ao26 t189.length co26] 79 (0, 0)) (by exact BK192.out) hb); have n5_ := Aside0.mk (Kd.C_below (by repeat ((with_reducible exact HR196.out))) hb); have n6_ := Aside0.mk (below_step HB.out hb); clear HO_8 HO_11 HO_193002 BK180 BK192 HR196 HB; have HO_8 := n0_; have HO_11 := n1_; have HO_193002 := n2_; have BK180 := n3_; have BK192 := n4_; have HR196 := n5_; have HB := n6_; clear n0_ n1_ n2_ n3_ n4_ n5_ n6_; clear hb) | ((with_reducible refine gate_builtin (b := .append) (xs := #[.tmp 58, .tmp 76]) rfl ?_); at_builtin; refine Kd.R_append k41 (w0 := w) w.heap.size rfl (.tmp 58) (.tmp 76) 23 41 (.agg #[(.int .i64 0), (.string ⟨#[]⟩)]) 24 rfl Try.underlying23 info41 rfl (by decide) (by omega) u11 x11_2 (⟨x55_2, t197⟩ : S41) [.int .i64 x55_2, .string t197] (fun _ => True) (fun _ => False) rfl rfl ?aP (fun _ hk => hk.elim) ?aF ?aO ?aB ?aS ?aL ?_; (case aP => exact k41_mkM _ _ _ (⟨x55_2, t197⟩ : S41)); (case aB => exact HB.out); (case aF => exact (fun _ _ => trivial)); (case aO => exact (by exact HO_11.out)); (case aS => exact (below_size HB.out)); (case aL => have := LMc34.out; omega); intro v199 w41 ho hb hg hat; rw [← Ny198.out] at ho; have n0_ := Aside0.mk (Kd.R_over' (by exact HO_8.out) (Kd.R_typed (by exact HO_11.out)) (by decide) hg); have n1_ := Aside0.mk (Kd.R_over' (by exact HO_193002.out) (Kd.R_typed (by exact HO_11.out)) (by decide) hg); have n2_ := Aside0.mk (blk_grown (g := gb180) (o := .cells #[.int .i64 a0_0, .int .i64 a0_1] 30 (0, 0)) (by exact BK180.out) hg (Kd.R_ne HO_11.out BK180.out (by decide))); have n3_ := Aside0.mk (blk_grown (g := gb192) (o := .cells #[.int .i64 t187, .int .i64 t188, .slice Ao26 t189.length co26] 79 (0, 0)) (by exact BK192.out) hg (Kd.R_ne HO_11.out BK192.out (by decide))); have n4_ := Aside0.mk (hb); have n5_ := Aside0.mk ((show Kd.C (Kd.int .i64) w41 A38 y193.length y193 from by rw [Ny193.out, KA38.out]; exact Kd.C_mid (lo := ((ji29) : Int).toNat) (hi := ((wrap64 ((wrap64 (x55_2 + 1)) * a0_0)) : Int).toNat) (c := co26) ((Kd.R_reads' (Kd.R_over' (by exact HO_193002.out) (Kd.R_typed (by exact HO_11.out)) (by decide) hg)).2.2) KM38.out KL38.out ((Kd.R_reads' (Kd.R_over' (by exact HO_193002.out) (Kd.R_typed (by exact HO_11.out)) (by decide) hg)).2.1))); have n6_ := Aside0.mk (ho); clear HO_8 HO_193002 BK180 BK192 HB HR196 HO_11; have HO_8 := n0_; have HO_193002 := n1_; have BK180 := n2_; have BK192 := n3_; have HB := n4_; have HR196 := n5_; have HO200 := n6_; clear n0_ n1_ n2_ n3_ n4_ n5_ n6_; clear ho hb hg hat))
                          go_roundg k2
                          case measure => have := HK1.out; have := HK2.out; omega
                          case rel => exact ⟨(y198), (wrap64 (x55_2 + 1)), (by (rfl)), H', ⟨by have := HK1.out; have := HK2.out; omega⟩, ⟨by exact HO_8.out⟩, ⟨by exact HO200.out⟩, ⟨by exact HO_193002.out⟩, ⟨by exact BK180.out⟩, ⟨by exact BK192.out⟩, ⟨HB.out⟩⟩
                        · rw [if_neg c34] at H
                          exact absurd H (by simp)
                      · rw [if_neg c32] at H
                        exact absurd H (by simp)
                    · rw [if_neg c31] at H
                      exact absurd H (by simp)
                  · rw [if_neg c30] at H
                    exact absurd H (by simp)
                · rw [if_neg c28] at H
                  have c28b0 : decide (x55_2 < a0_1) = false := decide_eq_false c28
                  clear c28
                  simp only [Option.some.injEq, Prod.mk.injEq] at H
                  obtain ⟨rfl, rfl⟩ := H
                  go_wp2
                  go_ret2
                  exact ⟨_, by (rfl), by exact HO_11.out, HB.out⟩
    · rw [if_neg c6] at H
      exact absurd H (by simp)
  · rw [if_neg c4] at H
    exact absurd H (by simp)

end Go.Proofs.Ythfddndmhjkeiaa.L
end
section
/- erasure.look: the first error of shards. -/
namespace Go.Proofs.Ythfddndmhjkeiaa.L
open Go.RowKit Go.Proofs.YthfddndmhjkeiaaW.PrintWords Go.Proofs.YthfddndmhjkeiaaW.PrintLast Go.Proofs.YthfddndmhjkeiaaW.PrintMore
set_option linter.unusedVariables false
set_option linter.unusedSimpArgs false

/-- The first error of shards, one after the other; seen: the indices that were there. -/
def lookAt (all len : Int) : List S41 → (Nat → Bool) → Int
  | [], _ => 0
  | s :: l, seen => if s.f0 < 0 then 1 else if s.f0 ≥ all then 1 else if (s.f1.size : Int) ≠ len then 2 else if seen s.f0.toNat = true then 7 else lookAt all len l (fun i => if i = s.f0.toNat then true else seen i)
def erasure_look.f (a0_0 a0_1 a1 : Int) (l2 : List S41) : Option (Int × Int) :=
  (erasure_Length.f a0_0 a0_1 a1).bind fun t => if t.2 = 0 then (if lookAt a0_1 t.1 l2 (fun _ => false) = 0 then (if (l2.length : Int) < a0_0 then some (0, 14) else some (t.1, 0)) else some (0, lookAt a0_1 t.1 l2 (fun _ => false))) else some (0, t.2)

/-- The array's cells. -/
def arrB (seen : Nat → Bool) : Array Value := (List.ofFn (n := 16) fun i => Value.bool (seen i.1)).toArray
theorem arrB_size (seen : Nat → Bool) : (arrB seen).size = 16 := by simp [arrB]
theorem arrB_at (seen : Nat → Bool) (i : Nat) (h : i < 16) : (arrB seen)[i]? = some (.bool (seen i)) := by
  unfold arrB
  rw [List.getElem?_toArray, List.getElem?_ofFn, dif_pos h]
theorem arrB_set (seen : Nat → Bool) (i : Nat) : (arrB seen).setIfInBounds i (.bool true) = arrB (fun q => if q = i then true else seen q) := by
  apply Array.ext_getElem?
  intro j
  rw [Array.getElem?_setIfInBounds]
  by_cases hj : j < 16
  · rw [arrB_at _ _ hj, arrB_at _ _ hj, arrB_size]
    by_cases e : i = j
    · subst e
      simp [hj]
    · rw [if_neg e, if_neg (fun h => e h.symm)]
  · rw [Array.getElem?_eq_none (by rw [arrB_size]; omega), Array.getElem?_eq_none (by rw [arrB_size]; omega)]
    split
    · rw [if_neg (by rw [arrB_size]; omega)]
    · rfl
theorem arrB_none : #[Value.bool false, Value.bool false, Value.bool false, Value.bool false, Value.bool false, Value.bool false, Value.bool false, Value.bool false, Value.bool false, Value.bool false, Value.bool false, Value.bool false, Value.bool false, Value.bool false, Value.bool false, Value.bool false] = arrB (fun _ => false) := by rfl
theorem length_all {a0 a1 s r : Int} (h : erasure_Length.f a0 a1 s = some (r, 0)) : 1 ≤ a0 ∧ a0 ≤ a1 ∧ a1 ≤ 16 ∧ 0 ≤ s := by
  unfold erasure_Length.f erasure_Check.f at h
  split at h
  · simp at h
  · split at h
    · simp at h
    · split at h
      · simp at h
      · simp only [Option.bind_some, if_true] at h
        split at h
        · simp at h
        · exact ⟨by omega, by omega, by omega, by omega⟩

theorem look_end {v a b r1 r2 : Int} {n : Nat} (H : (if v = 0 then (if (n : Int) < a then some (0, 14) else some (b, 0)) else some (0, v)) = some (r1, r2)) (u : Int) (hv : v = u) (hu : u ≠ 0) : r1 = 0 ∧ r2 = u := by
  subst hv
  rw [if_neg hu] at H
  simp only [Option.some.injEq, Prod.mk.injEq] at H
  exact ⟨H.1.symm, H.2.symm⟩
theorem look_step {all len : Int} {l : List S41} {x : Int} (h0 : 0 ≤ x) (h : x < l.length) (seen : Nat → Bool) : lookAt all len (l.drop x.toNat) seen = if (rd_T41 l x).f0 < 0 then 1 else if (rd_T41 l x).f0 ≥ all then 1 else if ((rd_T41 l x).f1.size : Int) ≠ len then 2 else if seen (rd_T41 l x).f0.toNat = true then 7 else lookAt all len (l.drop (x + 1).toNat) (fun i => if i = (rd_T41 l x).f0.toNat then true else seen i) := by
  have hl : x.toNat < l.length := by omega
  have e : rd_T41 l x = l[x.toNat] := by
    unfold rd_T41
    rw [List.getD_eq_getElem?_getD, List.getElem?_eq_getElem hl]
    rfl
  rw [List.drop_eq_getElem_cons hl, e, show (x + 1).toNat = x.toNat + 1 by omega]
  rfl
set_option maxHeartbeats 1000000 in
set_option maxRecDepth 100000 in
theorem erasure_look.calls (a0_0 a0_1 a1 : Int) (A2 : Option Addr) (c2 : Nat) (l2 : List S41) (r1 r2 : Int) (w : World) (hr2 : Kd.C k41 w A2 l2.length l2) (hc2 : l2.length ≤ c2) (h : erasure_look.f a0_0 a0_1 a1 l2 = some (r1, r2)) :
    Calls Try.prog 41 #[.agg #[.int .i64 a0_0, .int .i64 a0_1], .int .i64 a1, .slice A2 l2.length c2] w fun e w' => e = .returned (.tuple #[.int .i64 r1, .int .i64 r2]) ∧ Below w.heap.size w w' := by
  have HR2 := Aside0.mk hr2
  have HC2 := Aside0.mk hc2
  have HB := Aside0.mk (Below.refl w.heap.size w)
  have hlen := hr2.2.1
  clear hr2 hc2
  unfold erasure_look.f at h
  replace h := Option.bind_eq_some_iff.mp h
  obtain ⟨⟨t1, t2⟩, hL, h⟩ := h
  have HL := Aside0.mk hL
  have H := Aside0.mk h
  clear hL h
  have hu30 := Try.underlying30
  have hu41 := Try.underlying41
  go_enter Try.func41, Try.ntmps41
  go_wp2_with fail
  refine (erasure_Length.calls _ _ _ t1 t2 _ HL.out).mono ?_
  rintro e w1 ⟨rfl, hb1⟩
  by_cases ht : t2 = 0
  · subst ht
    rw [if_pos rfl] at H
    obtain ⟨g1, g2, g3, g4⟩ := length_all HL.out
    go_wp2_with fail
    rw [arrB_none]
    have HB1 := Aside0.mk hb1
    have HBW := Aside0.mk (Below.refl w1.heap.size w1)
    clear hb1
    go_loopw [24] (fun v wr => ∃ (x : Int) (seen : Nat → Bool), v = .int .i64 x ∧ 0 ≤ x ∧ x ≤ l2.length ∧ Aside0 (wr.heap[w1.heap.size]? = some (.cells (arrB seen) 116 (0, 0))) ∧ Aside0 (Below w1.heap.size w1 wr) ∧ Aside0 (lookAt a0_1 t1 (l2.drop x.toNat) seen = lookAt a0_1 t1 l2 (fun _ => false))) (fun v _ => l2.length - (intOf v).toNat)
    case atStart => exact ⟨0, fun _ => false, rfl, by omega, by omega, ⟨heap_alloc_new _ _⟩, ⟨below_alloc HBW.out _⟩, ⟨rfl⟩⟩
    case round =>
      obtain ⟨x, seen, rfl, hx0, hx1, HA, HBR, HS⟩ := hrel
      have HBW1 : Below w.heap.size w w1 := (below_alloc (Below.refl w.heap.size w) _).trans (HB1.out.mono (by simp))
      by_cases hlt : x < (l2.length : Int)
      · obtain ⟨ad, e, hc0, hc1⟩ := at_T41 HR2.out x hx0 hlt
        cases e
        have st := look_step (all := a0_1) (len := t1) hx0 hlt seen
        replace hc0 := pw_cell_below (HBW1.trans (HBR.out.mono HBW1.size)) hc0
        replace hc1 := pw_cell_below (HBW1.trans (HBR.out.mono HBW1.size)) hc1
        have hk1 : ∀ o, (wr.alloc o).cell? ⟨w.heap.size, 1, none⟩ = some (.int .i64 a0_1) := by
          intro o
          have e0 : (w.alloc (.cells #[.int .i64 a0_0, .int .i64 a0_1] 30)).cell? ⟨w.heap.size, 1, none⟩ = some (.int .i64 a0_1) := (blk_cell (heap_alloc_new w _) 1).trans rfl
          have e1 := pw_cell_below HB1.out e0
          exact pw_cell_below (below_alloc (Below.refl _ _) o) (pw_cell_below HBR.out e1)
        generalize (rd_T41 l2 x).f0 = i at hc0 st
        generalize (rd_T41 l2 x).f1 = d at hc1 st
        rw [st] at HS
        clear st
        have Hend := look_end H.out
        have HBB := HBW1.trans (HBR.out.mono HBW1.size)
        by_cases k0 : i < 0
        · rw [if_pos k0] at HS
          obtain ⟨rfl, rfl⟩ := Hend 1 HS.out.symm (by decide)
          clear Hend HS H HL
          have k0b : decide (i < 0) = true := decide_eq_true k0
          go_wp2
          go_ret2
          exact ⟨rfl, by repeat (first | exact HBB | apply below_alloc | apply pw_below_drewN | apply below_drew1)⟩
        · rw [if_neg k0] at HS
          have k0b : decide (i < 0) = false := decide_eq_false k0
          by_cases k1 : i ≥ a0_1
          · rw [if_pos k1] at HS
            obtain ⟨rfl, rfl⟩ := Hend 1 HS.out.symm (by decide)
            clear Hend HS H HL
            have k1b : decide (a0_1 ≤ i) = true := decide_eq_true k1
            go_wp2
            go_ret2
            exact ⟨rfl, by repeat (first | exact HBB | apply below_alloc | apply pw_below_drewN | apply below_drew1)⟩
          · rw [if_neg k1] at HS
            have k1b : decide (a0_1 ≤ i) = false := decide_eq_false k1
            by_cases k2 : (d.size : Int) ≠ t1
            · rw [if_pos k2] at HS
              obtain ⟨rfl, rfl⟩ := Hend 2 HS.out.symm (by decide)
              clear Hend HS H HL
              have k2b : ((d.size : Int) != t1) = true := bne_iff_ne.mpr k2
              clear k2
              go_wp2
              go_ret2
              exact ⟨rfl, by repeat (first | exact HBB | apply below_alloc | apply pw_below_drewN | apply below_drew1)⟩
            · rw [if_neg k2] at HS
              have k2b : ((d.size : Int) != t1) = false := by simpa using k2
              clear k2
              have hi : i.toNat < 16 := by omega
              have hcA : ∀ o, (wr.alloc o).cell? ⟨w1.heap.size, i.toNat, none⟩ = some (.bool (seen i.toNat)) := fun o => pw_cell_below (below_alloc (Below.refl _ _) o) ((blk_cell HA.out i.toNat).trans (arrB_at seen _ hi))
              cases k3 : seen i.toNat with
              | true =>
                rw [if_pos k3] at HS
                rw [k3] at hcA
                obtain ⟨rfl, rfl⟩ := Hend 7 HS.out.symm (by decide)
                clear Hend HS H HL k3
                go_wp2
                go_ret2
                exact ⟨rfl, by repeat (first | exact HBB | apply below_alloc | apply pw_below_drewN | apply below_drew1)⟩
              | false =>
                rw [if_neg (by rw [k3]; decide)] at HS
                rw [k3] at hcA
                have hfA : ∀ o, (wr.alloc o).frozen? ⟨w1.heap.size, i.toNat, none⟩ = false := fun o => blk_frozen (blk_alloc HA.out o) _
                clear Hend k3
                go_wp2
                refine ⟨⟨x + 1, fun q => if q = i.toNat then true else seen q, rfl, by omega, by omega, ⟨?_⟩, ⟨?_⟩, HS⟩, by simp [intOf]; omega⟩
                · exact blk_put (blk_alloc HA.out _) _ _ (arrB_set seen _)
                · exact below_set (below_alloc HBR.out _) (Nat.le_refl _)
      · have hx : l2.drop x.toNat = [] := List.drop_eq_nil_of_le (by omega)
        rw [hx] at HS
        have hz : lookAt a0_1 t1 l2 (fun _ => false) = 0 := HS.out.symm
        have H2 := H.out
        rw [if_pos hz] at H2
        clear H HS hx hz HL
        have hk0 : wr.cell? ⟨w.heap.size, 0, none⟩ = some (.int .i64 a0_0) := by
          have e0 : (w.alloc (.cells #[.int .i64 a0_0, .int .i64 a0_1] 30)).cell? ⟨w.heap.size, 0, none⟩ = some (.int .i64 a0_0) := (blk_cell (heap_alloc_new w _) 0).trans rfl
          exact pw_cell_below HBR.out (pw_cell_below HB1.out e0)
        have HBB := HBW1.trans (HBR.out.mono HBW1.size)
        by_cases k5 : (l2.length : Int) < a0_0
        · rw [if_pos k5] at H2
          obtain ⟨rfl, rfl⟩ : r1 = 0 ∧ r2 = 14 := by
            simp only [Option.some.injEq, Prod.mk.injEq] at H2
            exact ⟨H2.1.symm, H2.2.symm⟩
          clear H2
          have k5b : decide ((l2.length : Int) < a0_0) = true := decide_eq_true k5
          go_wp2
          go_ret2
          exact ⟨rfl, by repeat (first | exact HBB | apply below_alloc | apply pw_below_drewN | apply below_drew1)⟩
        · rw [if_neg k5] at H2
          obtain ⟨rfl, rfl⟩ : r1 = t1 ∧ r2 = 0 := by
            simp only [Option.some.injEq, Prod.mk.injEq] at H2
            exact ⟨H2.1.symm, H2.2.symm⟩
          clear H2
          have k5b : decide ((l2.length : Int) < a0_0) = false := decide_eq_false k5
          go_wp2
          go_ret2
          exact ⟨rfl, by repeat (first | exact HBB | apply below_alloc | apply pw_below_drewN | apply below_drew1)⟩
  · have H2 := H.out
    rw [if_neg ht] at H2
    obtain ⟨rfl, rfl⟩ : r1 = 0 ∧ r2 = t2 := by
      simp only [Option.some.injEq, Prod.mk.injEq] at H2
      exact ⟨H2.1.symm, H2.2.symm⟩
    clear H2 H HL
    have htb : (r2 != 0) = true := bne_iff_ne.mpr ht
    have HBB : Below w.heap.size w w1 := (below_alloc (Below.refl w.heap.size w) _).trans (hb1.mono (by simp))
    clear ht
    go_wp2
    go_ret2
    exact ⟨rfl, by repeat (first | exact HBB | apply below_alloc | apply pw_below_drewN | apply below_drew1)⟩
end Go.Proofs.Ythfddndmhjkeiaa.L
end
section
/- slices.SortFunc at shards by their indices, which are elements and differ. -/
namespace Go.Proofs.Ythfddndmhjkeiaa.L
open Go.Shelf Go.RowKit Go.Lib Go.Sort
open Go.Proofs.YthfddndmhjkeiaaW.PrintWords Go.Proofs.YthfddndmhjkeiaaW.PrintLast Go.Proofs.YthfddndmhjkeiaaW.PrintMore
set_option linter.unusedVariables false
set_option linter.unusedSimpArgs false

def sortS (l : List S41) : List S41 := l.mergeSort fun a b => decide (a.f0 ≤ b.f0)
def Idx (l : List S41) : Prop := (∀ s, s ∈ l → 0 ≤ s.f0 ∧ s.f0 ≤ 15) ∧ l.Pairwise fun a b => a.f0 ≠ b.f0
def encS (l : List S41) (x : { s : S41 // s ∈ l }) : List Value := [.int .i64 x.1.f0, .string x.1.f1]
def cfS (l : List S41) (x y : { s : S41 // s ∈ l }) : Int := x.1.f0 - y.1.f0
theorem ltS (l : List S41) (x y : { s : S41 // s ∈ l }) : ltOf (cfS l) x y = decide (x.1.f0 < y.1.f0) := by
  unfold ltOf cfS
  rw [Bool.eq_iff_iff, decide_eq_true_iff, decide_eq_true_iff]
  omega
theorem swoS (l : List S41) : SWO (ltOf (cfS l)) where
  irrefl x := by rw [ltS]; simp
  trans x y z h1 h2 := by rw [ltS] at *; simp at *; omega
  ntrans x y z h1 h2 := by rw [ltS] at *; simp at *; omega

set_option maxHeartbeats 1000000 in
theorem closure37 (x0 y0 : Int) (x1 y1 : ByteArray) (hx : 0 ≤ x0 ∧ x0 ≤ 15) (hy : 0 ≤ y0 ∧ y0 ≤ 15) (W : World) : Calls Try.prog 44 #[.agg #[.int .i64 x0, .string x1], .agg #[.int .i64 y0, .string y1]] W fun e w' => e = .returned (.int .i64 (x0 - y0)) ∧ ∃ q os', w' = grow (W.drewN q) os' := by
  obtain ⟨a1, a2⟩ := hx
  obtain ⟨b1, b2⟩ := hy
  have hu41 := Try.underlying41
  go_enter Try.func44, Try.ntmps44
  go_wp2_with fail
  go_ret
  exact ⟨rfl, 0, _, by rw [alloc_eq_grow, alloc_eq_grow, grow_grow]; rfl⟩
theorem sortS_perm (l : List S41) : (sortS l).Perm l := List.mergeSort_perm _ _
theorem sortS_length (l : List S41) : (sortS l).length = l.length := (sortS_perm l).length_eq
theorem sortS_map (l : List S41) : ((l.attach.toArray.toList.mergeSort fun x y => !(ltOf (cfS l)) y x).map (·.1)) = sortS l := by
  rw [List.map_mergeSort (s := fun a b : S41 => decide (a.f0 ≤ b.f0)) (fun a _ b _ => ?_)]
  · simp [sortS]
  · rw [ltS, Bool.eq_iff_iff, Bool.not_eq_true', decide_eq_false_iff_not, decide_eq_true_iff]
    omega

set_option maxHeartbeats 1000000 in
theorem sort_calls (l : List S41) (hne : l ≠ []) (hI : Idx l) (hlen : l.length ≤ 1000) (base g cap : Nat) (ok : Nat → Prop) (w : World) (hR : Kd.R k41 41 w base ok (.slice (some ⟨g, 0, none⟩) l.length cap) l) :
    Calls Try.prog 43 #[.slice (some ⟨g, 0, none⟩) l.length cap, .func (.func 44) #[] #[]] w fun e w' => e = .returned (.tuple #[]) ∧ Kd.C k41 w' (some ⟨g, 0, none⟩) l.length (sortS l) ∧ Below base w w' ∧ w.heap.size ≤ w'.heap.size ∧ ∀ i, i < w.heap.size → i ≠ g → w'.heap[i]? = w.heap[i]? := by
  have hpos : 0 < l.length := List.length_pos_iff.mpr hne
  haveI : Inhabited { s : S41 // s ∈ l } := ⟨⟨l.head hne, List.head_mem hne⟩⟩
  obtain ⟨g', cap', hv, hgb, hgl, cells, hcells⟩ := Kd.R_form hR hpos
  have hgg : g' = g := by
    injection hv with h1 _ _
    injection h1 with h1
    injection h1 with h1 _ _
    exact h1.symm
  subst hgg
  have hC := (Kd.R_reads' hR).2.2
  have hsz : l.attach.toArray.size = l.length := by simp
  have hat : ∀ i, i < l.length → (l.attach.toArray)[i]!.1 = rd_T41 l (i : Int) := by
    intro i hi
    rw [getElem!_pos _ _ (by simpa using hi)]
    unfold rd_T41
    rw [List.getD_eq_getElem?_getD]
    simp [List.getElem?_eq_getElem hi]
  have hH : HoldsK (encS l) 2 w g' 0 l.attach.toArray := by
    intro j hj
    rw [size_flatK, hsz] at hj
    rw [get_flatK _ _ _ _ (by rw [hsz]; exact hj)]
    have hi : j / 2 < l.length := by omega
    obtain ⟨ad, e, c0, c1⟩ := at_T41 hC ((j / 2 : Nat) : Int) (by omega) (by omega)
    cases e
    rw [Int.toNat_natCast, add_plain] at c0 c1
    rw [← hat _ hi] at c0 c1
    refine ⟨?_, blk_frozen hcells _⟩
    rcases Nat.mod_two_eq_zero_or_one j with h2 | h2
    · rw [h2, show 0 + j = j / 2 * 2 by omega]
      exact c0
    · rw [h2, show 0 + j = j / 2 * 2 + 1 by omega]
      exact c1
  have eg : ∀ args w, (callFunc 44 args).run Try.prog w = .ok (.enter 44 args) w := enters_of Try.func44 (by kernel_rfl) rfl
  have hcmp : CmpLays Try.prog 44 #[] (encS l) 2 (cfS l) g' 0 l.attach.toArray.size w := fun _ _ _ _ x y => closure37 x.1.f0 y.1.f0 x.1.f1 y.1.f1 (hI.1 _ x.2) (hI.1 _ y.2) _
  have hT : ∀ x y, (ltOf (cfS l)) x y = false → (ltOf (cfS l)) y x = false → x = y := by
    intro x y h1 h2
    rw [ltS, decide_eq_false_iff_not] at h1 h2
    have he : x.1.f0 = y.1.f0 := by omega
    apply Subtype.ext
    obtain ⟨i, hi, ei⟩ := List.getElem_of_mem x.2
    obtain ⟨j, hj, ej⟩ := List.getElem_of_mem y.2
    rw [← ei, ← ej] at he ⊢
    have hp := List.pairwise_iff_getElem.1 hI.2
    rcases Nat.lt_trichotomy i j with h | h | h
    · exact absurd he (hp i j hi hj h)
    · subst h
      rfl
    · exact absurd he.symm (hp j i hj hi h)
  have hcon := AnyQ.slices_SortFunc_total Try.sortShard 2 Try.isAgg41 Try.sizeOf41 (encS l) (fun _ => rfl) (fun x v hv => by simp [encS] at hv; rcases hv with rfl | rfl <;> rfl) (cfS l) (swoS l) 44 #[] g' 0 cap l.attach.toArray w eg hcmp hH hgl (by rw [hsz]; omega) hT
  change Calls Try.prog 43 _ _ _ at hcon
  rw [hsz] at hcon
  refine hcon.mono ?_
  rintro e w' ⟨rfl, n, os, rfl⟩
  have hms : (l.attach.toArray.toList.mergeSort fun x y => !(ltOf (cfS l)) y x).toArray.size = l.attach.toArray.size := by simp
  have hH2 := holdsK_sortWorldK (encS l) 2 w g' 0 n _ _ os hgl hH hms
  have hsize : w.heap.size ≤ (sortWorldK (encS l) 2 w g' 0 n (l.attach.toArray.toList.mergeSort fun x y => !(ltOf (cfS l)) y x).toArray os).heap.size := by
    unfold sortWorldK grow putRowK
    simp [Sort.ahead]
  have hother : ∀ i, i < w.heap.size → i ≠ g' → (sortWorldK (encS l) 2 w g' 0 n (l.attach.toArray.toList.mergeSort fun x y => !(ltOf (cfS l)) y x).toArray os).heap[i]? = w.heap[i]? := by
    intro i hi hne2
    unfold sortWorldK
    rw [heap_grow_old _ _ (by unfold putRowK; simp [Sort.ahead]; exact hi)]
    unfold putRowK putRow mapBlock
    show (w.heap.modify g' _)[i]? = _
    rw [Array.getElem?_modify, if_neg (fun e => hne2 e.symm)]
  refine ⟨rfl, ⟨sortS_length l, by omega, fun _ => ⟨_, rfl, fun j p hj => ⟨[.int .i64 p.f0, .string p.f1], rfl, k41_mk _ p, fun i u hu => ?_⟩⟩⟩, ?_, ?_, ?_⟩
  · have hjl : j < l.length := by have := (List.getElem?_eq_some_iff.1 hj).1; rw [sortS_length] at this; exact this
    have hp : ((l.attach.toArray.toList.mergeSort fun x y => !(ltOf (cfS l)) y x).toArray)[j]!.1 = p := by
      have h3 : ((l.attach.toArray.toList.mergeSort fun x y => !(ltOf (cfS l)) y x).map (·.1))[j]? = some p := by rw [sortS_map]; exact hj
      rw [getElem!_pos _ _ (by simpa using hjl)]
      rw [List.getElem?_map] at h3
      rw [List.getElem?_eq_getElem (by simpa using hjl)] at h3
      injection h3 with h3
    rw [add_plain]
    have hi2 : i < 2 := by
      rcases Nat.lt_or_ge i 2 with h | h
      · exact h
      · rw [List.getElem?_eq_none (by simpa using h)] at hu
        cases hu
    have hc := (hH2.cell (i := j) (c := i) (by rw [hms, hsz]; exact hjl) hi2).1
    rw [Nat.zero_add] at hc
    refine Eq.trans hc (congrArg some ?_)
    unfold encS
    rw [hp]
    rcases (show i = 0 ∨ i = 1 by omega) with rfl | rfl
    · injection hu with hu
    · injection hu with hu
  · refine ⟨rfl, rfl, rfl, ?_, fun i hi => hother i (by omega) (by omega)⟩
    omega
  · exact hsize
  · exact hother
end Go.Proofs.Ythfddndmhjkeiaa.L
end
section
-- Printed for this claim by a small program of the session's own, drv.py, round the kit's print.py. Lean checks it.
namespace Go.Proofs.Ythfddndmhjkeiaa.L
open Go.RowKit Go.Proofs.YthfddndmhjkeiaaW.PrintWords Go.Proofs.YthfddndmhjkeiaaW.PrintLast Go.Proofs.YthfddndmhjkeiaaW.PrintMore
attribute [local go_sem] max2_int min2_int max_two min_two max_three min_three max_four min_four   -- for this text's walks alone
set_option linter.unusedVariables false
set_option linter.unusedSimpArgs false

/-! ### matrix_mul: function 87 -/
def matrix_mul.f (k : Nat) (a0 : Int) (a1 : Int) : Option (Int) := (field_Mul.f k a0 a1).bind fun bt244 => (some bt244.1)
theorem matrix_mul.mono : ∀ a0 a1 k, LeO (matrix_mul.f k a0 a1) (matrix_mul.f (k + 1) a0 a1) := by
  intro a0 a1 k
  unfold matrix_mul.f
  repeat' first | (with_reducible exact field_Mul.mono _ _ _) | (with_reducible exact LeO.refl _) | (with_reducible refine LeO.bind ?_ (fun _ => ?_))
set_option maxHeartbeats 8000000 in
set_option maxRecDepth 100000 in
theorem matrix_mul.calls (k : Nat) (a0 : Int) (a1 : Int) (r : Int) (w : World) (h : matrix_mul.f k a0 a1 = some r) :
    Calls Try.prog 87 #[.int .i64 a0, .int .i64 a1] w fun e w' => e = .returned (.int .i64 r) ∧ Drawn0 w w' := by
  have H : ((field_Mul.f k a0 a1).bind fun bt244 => (some bt244.1)) = some r := h
  clear h
  replace H := Option.bind_eq_some_iff.mp H
  obtain ⟨⟨t244, t245⟩, A30, H⟩ := H
  replace H : (some t244) = some r := H
  have A3 := Aside0.mk A30
  clear A30
  obtain rfl := Option.some.inj H
  go_enter Try.func87, Try.ntmps87
  go_wp2_with (((with_reducible refine gate_callee (f := 92) rfl ?_); refine goesL_ (some 10) rfl rfl Try.func92 (by kernel_rfl) rfl #[.int .i64 a0, .int .i64 a1] rfl (by ((simp only [List.map_toArray, List.map_cons, List.map_nil])); (rfl)) ?_; (with_reducible refine (field_Mul.calls k a0 a1 t244 t245 _ A3.out).mono ?_); rintro e w' ⟨rfl, ⟨nd, rfl⟩⟩; refine ⟨_, rfl, ?_⟩))
  go_ret
  exact ⟨by (rfl), by repeat (first | exact Drawn0.refl _ | apply Drawn0.step)⟩

end Go.Proofs.Ythfddndmhjkeiaa.L
end
section
/- Matrices in memory: a row of rows of numbers; and the plain functions by which rows are reduced. -/
namespace Go.Proofs.Ythfddndmhjkeiaa.L
open Go.RowKit Go.Proofs.YthfddndmhjkeiaaW.PrintWords Go.Proofs.YthfddndmhjkeiaaW.PrintLast Go.Proofs.YthfddndmhjkeiaaW.PrintMore
set_option linter.unusedVariables false
set_option linter.unusedSimpArgs false

/-! ### the field's functions as the program has them -/
def gm (a b : Int) : Int := (matrix_mul.f 40 a b).getD 0
def ginv (a : Int) : Int := ((field_Inverse.f 40 a).getD (0, 0)).1
def gierr (a : Int) : Int := ((field_Inverse.f 40 a).getD (0, 0)).2
def gx (a b : Int) : Int := Go.bits .xor .i64 a b
def El (a : Int) : Prop := 0 ≤ a ∧ a ≤ 15
theorem El.fin {a : Int} (h : El a) : ∃ i : Fin 16, a = (i.1 : Int) := ⟨⟨a.toNat, by unfold El at h; omega⟩, by unfold El at h; simp; omega⟩
theorem gm_all : ∀ a b : Fin 16, matrix_mul.f 40 (a.1 : Int) (b.1 : Int) = some (gm a.1 b.1) ∧ 0 ≤ gm a.1 b.1 ∧ gm a.1 b.1 ≤ 15 := by decide +kernel
theorem ginv_all : ∀ a : Fin 16, field_Inverse.f 40 (a.1 : Int) = some (ginv a.1, gierr a.1) ∧ 0 ≤ ginv a.1 ∧ ginv a.1 ≤ 15 := by decide +kernel
theorem gx_all : ∀ a b : Fin 16, 0 ≤ gx a.1 b.1 ∧ gx a.1 b.1 ≤ 15 := by decide +kernel
theorem gm_some {a b : Int} (ha : El a) (hb : El b) : matrix_mul.f 40 a b = some (gm a b) := by
  obtain ⟨i, rfl⟩ := ha.fin
  obtain ⟨j, rfl⟩ := hb.fin
  exact (gm_all i j).1
theorem gm_el {a b : Int} (ha : El a) (hb : El b) : El (gm a b) := by
  obtain ⟨i, rfl⟩ := ha.fin
  obtain ⟨j, rfl⟩ := hb.fin
  exact (gm_all i j).2
theorem ginv_some {a : Int} (ha : El a) : field_Inverse.f 40 a = some (ginv a, gierr a) := by
  obtain ⟨i, rfl⟩ := ha.fin
  exact (ginv_all i).1
theorem ginv_el {a : Int} (ha : El a) : El (ginv a) := by
  obtain ⟨i, rfl⟩ := ha.fin
  exact (ginv_all i).2
theorem gx_el {a b : Int} (ha : El a) (hb : El b) : El (gx a b) := by
  obtain ⟨i, rfl⟩ := ha.fin
  obtain ⟨j, rfl⟩ := hb.fin
  exact gx_all i j

/-! ### rows -/
abbrev row (rows : List (List Int)) (i : Nat) : List Int := rows.getD i []
def Good (m : Nat) (rows : List (List Int)) : Prop := ∀ i, i < rows.length → (row rows i).length = m ∧ ∀ j, j < m → El ((row rows i).getD j 0)
def pivot (rows : List (List Int)) (k i : Nat) : Nat := i + (rows.drop i).findIdx (fun r => r.getD k 0 != 0)
def swapR (rows : List (List Int)) (a b : Nat) : List (List Int) := (rows.set a (row rows b)).set b (row rows a)
def mid (r : List Int) (F : Nat → Int) (j : Nat) : List Int := r.mapIdx fun i x => if i < j then F i else x
def scaleRow (rows : List (List Int)) (r k : Nat) : List (List Int) := rows.set r (mid (row rows r) (fun j => gm ((row rows r).getD j 0) (ginv ((row rows r).getD k 0))) (row rows r).length)
def elimRow (rows : List (List Int)) (r k i : Nat) (x : List Int) : List Int :=
  if i ≠ r ∧ x.getD k 0 ≠ 0 then mid x (fun j => gx (x.getD j 0) (gm ((row rows r).getD j 0) (x.getD k 0))) x.length else x
def elimTo (rows : List (List Int)) (r k n : Nat) : List (List Int) := rows.mapIdx fun i x => if i < n then elimRow rows r k i x else x
def stepP (k : Nat) (s : List (List Int) × Nat) : List (List Int) × Nat :=
  if pivot s.1 k s.2 = s.1.length then s else
    (elimTo (scaleRow (swapR s.1 s.2 (pivot s.1 k s.2)) s.2 k) s.2 k s.1.length, s.2 + 1)
def reduceTo (rows : List (List Int)) (n : Nat) : List (List Int) × Nat := (List.range n).foldl (fun s k => stepP k s) (rows, 0)
theorem reduceTo_succ (rows : List (List Int)) (n : Nat) : reduceTo rows (n + 1) = stepP n (reduceTo rows n) := by
  unfold reduceTo
  rw [List.range_succ, List.foldl_append]
  rfl

theorem mid_length (r : List Int) (F : Nat → Int) (j : Nat) : (mid r F j).length = r.length := by simp [mid]
theorem mid_getD (r : List Int) (F : Nat → Int) (j i : Nat) (h : i < r.length) : (mid r F j).getD i 0 = if i < j then F i else r.getD i 0 := by
  unfold mid
  rw [List.getD_eq_getElem?_getD, List.getElem?_mapIdx, List.getElem?_eq_getElem h]
  simp only [Option.map_some, Option.getD_some]
  rw [List.getD_eq_getElem?_getD, List.getElem?_eq_getElem h]
  rfl
theorem mapIdx_id {α : Type} (l : List α) : l.mapIdx (fun _ x => x) = l := by
  apply List.ext_getElem?
  intro i
  rw [List.getElem?_mapIdx]
  cases l[i]? <;> rfl
theorem mid_zero (r : List Int) (F : Nat → Int) : mid r F 0 = r := by
  unfold mid
  simp only [Nat.not_lt_zero, if_false]
  exact mapIdx_id r
theorem mid_set (r : List Int) (F : Nat → Int) (j : Nat) : (mid r F j).set j (F j) = mid r F (j + 1) := by
  apply List.ext_getElem?
  intro i
  rw [List.getElem?_set]
  unfold mid
  rw [List.getElem?_mapIdx, List.getElem?_mapIdx, List.length_mapIdx]
  by_cases hi : i < r.length
  · rw [List.getElem?_eq_getElem hi]
    by_cases e : j = i
    · subst e
      simp [hi]
    · rw [if_neg e]
      simp only [Option.map_some]
      congr 1
      by_cases h1 : i < j
      · rw [if_pos h1, if_pos (by omega)]
      · rw [if_neg h1, if_neg (by omega)]
  · rw [List.getElem?_eq_none (by omega)]
    split
    · rename_i e
      rw [if_neg (by omega)]
      rfl
    · rfl
theorem row_set (rows : List (List Int)) (i j : Nat) (x : List Int) (h : i < rows.length) : row (rows.set i x) j = if i = j then x else row rows j := by
  unfold row
  rw [List.getD_eq_getElem?_getD, List.getElem?_set]
  by_cases e : i = j
  · subst e
    simp [h]
  · rw [if_neg e, if_neg e, List.getD_eq_getElem?_getD]
theorem set_row (rows : List (List Int)) (r : Nat) : rows.set r (row rows r) = rows := by
  apply List.ext_getElem?
  intro i
  rw [List.getElem?_set]
  split
  · rename_i e
    subst e
    split
    · rename_i h
      unfold row
      rw [List.getD_eq_getElem?_getD, List.getElem?_eq_getElem h]
      rfl
    · rename_i h
      rw [List.getElem?_eq_none (by omega)]
  · rfl
theorem row_swap (rows : List (List Int)) (a b j : Nat) (ha : a < rows.length) (hb : b < rows.length) : row (swapR rows a b) j = if b = j then row rows a else if a = j then row rows b else row rows j := by
  unfold swapR
  rw [row_set _ _ _ _ (by simpa using hb), row_set _ _ _ _ ha]
theorem swap_length (rows : List (List Int)) (a b : Nat) : (swapR rows a b).length = rows.length := by simp [swapR]
theorem scale_length (rows : List (List Int)) (a b : Nat) : (scaleRow rows a b).length = rows.length := by simp [scaleRow]
theorem elimTo_length (rows : List (List Int)) (a b n : Nat) : (elimTo rows a b n).length = rows.length := by simp [elimTo]
theorem elimTo_row (rows : List (List Int)) (r k n i : Nat) (h : i < rows.length) : row (elimTo rows r k n) i = if i < n then elimRow rows r k i (row rows i) else row rows i := by
  unfold row elimTo
  rw [List.getD_eq_getElem?_getD, List.getElem?_mapIdx, List.getD_eq_getElem?_getD, List.getElem?_eq_getElem h]
  simp
theorem elimTo_zero (rows : List (List Int)) (r k : Nat) : elimTo rows r k 0 = rows := by
  unfold elimTo
  simp only [Nat.not_lt_zero, if_false]
  exact mapIdx_id rows
theorem list_ext_row {l l' : List (List Int)} (hl : l.length = l'.length) (h : ∀ i, i < l.length → row l i = row l' i) : l = l' := by
  apply List.ext_getElem hl
  intro i h1 h2
  have := h i h1
  unfold row at this
  rw [List.getD_eq_getElem?_getD, List.getD_eq_getElem?_getD, List.getElem?_eq_getElem h1, List.getElem?_eq_getElem h2] at this
  simpa using this
theorem elimTo_succ (rows : List (List Int)) (r k n : Nat) (h : n < rows.length) : elimTo rows r k (n + 1) = (elimTo rows r k n).set n (elimRow rows r k n (row rows n)) := by
  apply list_ext_row
  · simp [elimTo_length]
  · intro i hi
    rw [elimTo_length] at hi
    rw [row_set _ _ _ _ (by rw [elimTo_length]; exact h), elimTo_row _ _ _ _ _ hi, elimTo_row _ _ _ _ _ hi]
    by_cases e : n = i
    · subst e
      rw [if_pos (by omega), if_pos rfl]
    · rw [if_neg e]
      by_cases h1 : i < n
      · rw [if_pos (by omega), if_pos h1]
      · rw [if_neg (by omega), if_neg h1]
theorem elimTo_pivot (rows : List (List Int)) (r k n : Nat) (h : r < rows.length) : row (elimTo rows r k n) r = row rows r := by
  rw [elimTo_row _ _ _ _ _ h]
  split
  · unfold elimRow
    rw [if_neg (fun hh => hh.1 rfl)]
  · rfl
theorem Good.getD {m : Nat} {rows : List (List Int)} (h : Good m rows) {i j : Nat} (hi : i < rows.length) (hj : j < m) : El ((row rows i).getD j 0) := (h i hi).2 j hj
theorem Good.set {m : Nat} {rows : List (List Int)} (h : Good m rows) {i : Nat} (hi : i < rows.length) {x : List Int} (hx : x.length = m) (he : ∀ j, j < m → El (x.getD j 0)) : Good m (rows.set i x) := by
  intro q hq
  rw [List.length_set] at hq
  rw [row_set _ _ _ _ hi]
  split
  · exact ⟨hx, he⟩
  · exact h q hq
theorem Good.swap {m : Nat} {rows : List (List Int)} (h : Good m rows) {a b : Nat} (ha : a < rows.length) (hb : b < rows.length) : Good m (swapR rows a b) :=
  (h.set ha (h b hb).1 (h b hb).2).set (by simpa using hb) (h a ha).1 (h a ha).2
theorem Good.mid {m : Nat} {rows : List (List Int)} (h : Good m rows) {i : Nat} (hi : i < rows.length) (F : Nat → Int) (hF : ∀ j, j < m → El (F j)) (n : Nat) : Good m (rows.set i (mid (row rows i) F n)) := by
  refine h.set hi (by rw [mid_length]; exact (h i hi).1) (fun j hj => ?_)
  rw [mid_getD _ _ _ _ (by rw [(h i hi).1]; exact hj)]
  split
  · exact hF j hj
  · exact (h i hi).2 j hj
theorem Good.scale {m : Nat} {rows : List (List Int)} (h : Good m rows) {r k : Nat} (hr : r < rows.length) (hk : k < m) : Good m (scaleRow rows r k) :=
  h.mid hr _ (fun j hj => gm_el (h.getD hr hj) (ginv_el (h.getD hr hk))) _
theorem Good.elim {m : Nat} {rows : List (List Int)} (h : Good m rows) {r k : Nat} (hr : r < rows.length) (hk : k < m) (n : Nat) : Good m (elimTo rows r k n) := by
  intro i hi
  rw [elimTo_length] at hi
  rw [elimTo_row _ _ _ _ _ hi]
  split
  · unfold elimRow
    split
    · refine ⟨by rw [mid_length]; exact (h i hi).1, fun j hj => ?_⟩
      rw [mid_getD _ _ _ _ (by rw [(h i hi).1]; exact hj)]
      split
      · exact gx_el (h.getD hi hj) (gm_el (h.getD hr hj) (h.getD hi hk))
      · exact h.getD hi hj
    · exact h i hi
  · exact h i hi
theorem findIdx_le' {α : Type} (p : α → Bool) (l : List α) : l.findIdx p ≤ l.length := List.findIdx_le_length
theorem pivot_le {rows : List (List Int)} {k i : Nat} (h : i ≤ rows.length) : i ≤ pivot rows k i ∧ pivot rows k i ≤ rows.length := by
  unfold pivot
  have := @List.findIdx_le_length _ (fun r : List Int => r.getD k 0 != 0) (rows.drop i)
  rw [List.length_drop] at this
  omega
theorem pivot_stop {rows : List (List Int)} {k i : Nat} (h : i < rows.length) (hz : ¬ (row rows i).getD k 0 = 0) : pivot rows k i = i := by
  unfold pivot
  rw [List.drop_eq_getElem_cons h, List.findIdx_cons]
  have e : rows[i] = row rows i := by unfold row; rw [List.getD_eq_getElem?_getD, List.getElem?_eq_getElem h]; rfl
  rw [e]
  have : ((row rows i).getD k 0 != 0) = true := bne_iff_ne.mpr hz
  rw [this]
  rfl
theorem pivot_go {rows : List (List Int)} {k i : Nat} (h : i < rows.length) (hz : (row rows i).getD k 0 = 0) : pivot rows k i = pivot rows k (i + 1) := by
  unfold pivot
  rw [List.drop_eq_getElem_cons h, List.findIdx_cons]
  have e : rows[i] = row rows i := by unfold row; rw [List.getD_eq_getElem?_getD, List.getElem?_eq_getElem h]; rfl
  rw [e, hz]
  simp
  omega
theorem pivot_end {rows : List (List Int)} {k i : Nat} (h : i = rows.length) : pivot rows k i = i := by
  unfold pivot
  rw [List.drop_eq_nil_of_le (by omega)]
  rfl
theorem stepP_length (k : Nat) (s : List (List Int) × Nat) : (stepP k s).1.length = s.1.length := by
  unfold stepP
  split
  · rfl
  · simp only [elimTo_length, scale_length, swap_length]
theorem reduceTo_length (rows : List (List Int)) (n : Nat) : (reduceTo rows n).1.length = rows.length := by
  induction n with
  | zero => rfl
  | succ n ih => rw [reduceTo_succ, stepP_length, ih]
theorem stepP_inv {m k : Nat} {s : List (List Int) × Nat} (hk : k < m) (h : Good m s.1) (hr : s.2 ≤ s.1.length) : Good m (stepP k s).1 ∧ (stepP k s).2 ≤ (stepP k s).1.length := by
  have hp := pivot_le (k := k) hr
  rw [stepP_length]
  unfold stepP
  split
  · exact ⟨h, hr⟩
  · rename_i e
    have hb : pivot s.1 k s.2 < s.1.length := by omega
    have ha : s.2 < s.1.length := by omega
    have h1 := h.swap ha hb
    have h2 := h1.scale (r := s.2) (k := k) (by rw [swap_length]; exact ha) hk
    exact ⟨h2.elim (by rw [scale_length, swap_length]; exact ha) hk _, ha⟩
theorem reduceTo_inv {m n : Nat} {rows : List (List Int)} (hn : n ≤ m) (h : Good m rows) : Good m (reduceTo rows n).1 ∧ (reduceTo rows n).2 ≤ rows.length := by
  induction n with
  | zero => exact ⟨h, Nat.zero_le _⟩
  | succ n ih =>
    have h1 := ih (by omega)
    rw [reduceTo_succ]
    have h2 := stepP_inv (k := n) (by omega) h1.1 (by rw [reduceTo_length]; exact h1.2)
    rw [stepP_length, reduceTo_length] at h2
    exact h2

/-! ### a matrix in memory -/
abbrev bk (hs : List (Nat × Nat)) (i : Nat) : Nat := (hs.getD i (0, 0)).1
abbrev cp (hs : List (Nat × Nat)) (i : Nat) : Nat := (hs.getD i (0, 0)).2
structure Mat (w : World) (L : Nat) (hs : List (Nat × Nat)) (rows : List (List Int)) : Prop where
  outer : ∃ C, w.heap[L]? = some (.cells C 22 (0, 0)) ∧ ∀ i, i < rows.length → C[i]? = some (.slice (some ⟨bk hs i, 0, none⟩) (row rows i).length (cp hs i))
  inner : ∀ i, i < rows.length → ∃ R, w.heap[bk hs i]? = some (.cells R 3 (0, 0)) ∧ R.size = cp hs i ∧ ∀ j, j < (row rows i).length → R[j]? = some (.int .i64 ((row rows i).getD j 0))
  caps : ∀ i, i < rows.length → (row rows i).length ≤ cp hs i ∧ cp hs i ≤ maxLen
  inj : ∀ i j, i < rows.length → j < rows.length → bk hs i = bk hs j → i = j
  len : hs.length = rows.length
section
variable {w w1 : World} {L : Nat} {hs : List (Nat × Nat)} {rows : List (List Int)}
theorem Mat.cellO (h : Mat w L hs rows) {i : Nat} (hi : i < rows.length) : w.cell? ⟨L, i, none⟩ = some (.slice (some ⟨bk hs i, 0, none⟩) (row rows i).length (cp hs i)) := by
  obtain ⟨C, hC, hc⟩ := h.outer
  exact (blk_cell hC i).trans (hc i hi)
theorem Mat.cellI (h : Mat w L hs rows) {i j : Nat} (hi : i < rows.length) (hj : j < (row rows i).length) : w.cell? ⟨bk hs i, j, none⟩ = some (.int .i64 ((row rows i).getD j 0)) := by
  obtain ⟨R, hR, hz, hr⟩ := h.inner i hi
  exact (blk_cell hR j).trans (hr j hj)
theorem Mat.frO (h : Mat w L hs rows) (j : Nat) : w.frozen? ⟨L, j, none⟩ = false := by
  obtain ⟨C, hC, hc⟩ := h.outer
  exact blk_frozen hC j
theorem Mat.frI (h : Mat w L hs rows) {i : Nat} (hi : i < rows.length) (j : Nat) : w.frozen? ⟨bk hs i, j, none⟩ = false := by
  obtain ⟨R, hR, hz, hr⟩ := h.inner i hi
  exact blk_frozen hR j
theorem Mat.setO (h : Mat w L hs rows) {i : Nat} (hi : i < rows.length) (a : Nat) (v : Value) : ∃ v', (w.setCell ⟨L, a, none⟩ v).cell? ⟨L, i, none⟩ = some v' ∧ (w.setCell ⟨L, a, none⟩ v).frozen? ⟨L, i, none⟩ = false := by
  obtain ⟨C, hC, hc⟩ := h.outer
  have hA : i < C.size := (Array.getElem?_eq_some_iff.1 (hc i hi)).1
  have h1 := blk_set hC a v
  refine ⟨_, (blk_cell h1 i).trans (Array.getElem?_eq_getElem (by rw [Array.size_setIfInBounds]; exact hA)), blk_frozen h1 i⟩
theorem Mat.ne (h : Mat w L hs rows) {i : Nat} (hi : i < rows.length) : bk hs i ≠ L := by
  obtain ⟨C, hC, hc⟩ := h.outer
  obtain ⟨R, hR, hz, hr⟩ := h.inner i hi
  intro e
  rw [e, hC] at hR
  injection hR with hR
  injection hR with _ hR
  exact absurd hR (by decide)
theorem Mat.move (h : Mat w L hs rows) (hL : w1.heap[L]? = w.heap[L]?) (hb : ∀ i, i < rows.length → w1.heap[bk hs i]? = w.heap[bk hs i]?) : Mat w1 L hs rows where
  outer := by rw [hL]; exact h.outer
  inner := fun i hi => by rw [hb i hi]; exact h.inner i hi
  caps := h.caps
  inj := h.inj
  len := h.len
theorem Mat.ltL (h : Mat w L hs rows) : L < w.heap.size := by
  obtain ⟨C, hC, hc⟩ := h.outer
  exact blk_lt hC
theorem Mat.ltI (h : Mat w L hs rows) {i : Nat} (hi : i < rows.length) : bk hs i < w.heap.size := by
  obtain ⟨R, hR, hz, hr⟩ := h.inner i hi
  exact blk_lt hR
theorem Mat.below (h : Mat w L hs rows) (hb : Below w.heap.size w w1) : Mat w1 L hs rows := h.move (hb.block _ h.ltL) (fun i hi => hb.block _ (h.ltI hi))
theorem Mat.far (h : Mat w L hs rows) {p : Addr} (hL : L ≠ p.block) (hb : ∀ i, i < rows.length → bk hs i ≠ p.block) (u : Value) : Mat (w.setCell p u) L hs rows :=
  h.move (Below.heap_setCell w p u L hL) (fun i hi => Below.heap_setCell w p u _ (hb i hi))
/-- A number is stored into a row. -/
theorem Mat.store (h : Mat w L hs rows) {i j : Nat} (hi : i < rows.length) (hj : j < (row rows i).length) (x : Int) : Mat (w.setCell ⟨bk hs i, j, none⟩ (.int .i64 x)) L hs (rows.set i ((row rows i).set j x)) where
  outer := by
    obtain ⟨C, hC, hc⟩ := h.outer
    refine ⟨C, blk_far hC (p := ⟨bk hs i, j, none⟩) (fun e => h.ne hi e.symm) _, fun q hq => ?_⟩
    rw [List.length_set] at hq
    rw [hc q hq, row_set _ _ _ _ hi]
    split
    · rename_i e
      subst e
      rw [List.length_set]
    · rfl
  inner := fun q hq => by
    rw [List.length_set] at hq
    obtain ⟨R, hR, hz, hr⟩ := h.inner q hq
    rw [row_set _ _ _ _ hi]
    by_cases e : i = q
    · subst e
      refine ⟨_, blk_set hR j _, by rw [Array.size_setIfInBounds]; exact hz, fun z hzz => ?_⟩
      rw [if_pos rfl, List.length_set] at hzz
      rw [if_pos rfl, Array.getElem?_setIfInBounds]
      by_cases ez : j = z
      · subst ez
        have hsz : j < R.size := (Array.getElem?_eq_some_iff.1 (hr j hj)).1
        rw [if_pos rfl, if_pos hsz, List.getD_eq_getElem?_getD, List.getElem?_set, if_pos rfl, if_pos hj]
        rfl
      · rw [if_neg ez, hr z hzz, List.getD_eq_getElem?_getD, List.getD_eq_getElem?_getD, List.getElem?_set, if_neg ez]
    · rw [if_neg e]
      refine ⟨R, blk_far hR (p := ⟨bk hs i, j, none⟩) (fun e' => e (h.inj q i hq hi e').symm) _, hz, hr⟩
  caps := fun q hq => by
    rw [List.length_set] at hq
    rw [row_set _ _ _ _ hi]
    split
    · rename_i e
      subst e
      rw [List.length_set]
      exact h.caps i hi
    · exact h.caps q hq
  inj := fun a b ha hb => by
    rw [List.length_set] at ha hb
    exact h.inj a b ha hb
  len := by rw [List.length_set]; exact h.len
def swapH (hs : List (Nat × Nat)) (a b : Nat) : List (Nat × Nat) := (hs.set a (hs.getD b (0, 0))).set b (hs.getD a (0, 0))
theorem swapH_getD (hs : List (Nat × Nat)) (a b j : Nat) (ha : a < hs.length) (hb : b < hs.length) : (swapH hs a b).getD j (0, 0) = if b = j then hs.getD a (0, 0) else if a = j then hs.getD b (0, 0) else hs.getD j (0, 0) := by
  unfold swapH
  rw [List.getD_eq_getElem?_getD, List.getElem?_set, List.getElem?_set]
  by_cases e : b = j
  · subst e
    simp [hb]
  · rw [if_neg e, if_neg e]
    by_cases e' : a = j
    · subst e'
      simp [ha]
    · rw [if_neg e', if_neg e', ← List.getD_eq_getElem?_getD]
/-- Two rows change places. -/
theorem Mat.swap (h : Mat w L hs rows) {a b : Nat} (ha : a < rows.length) (hb : b < rows.length) :
    Mat ((w.setCell ⟨L, a, none⟩ (.slice (some ⟨bk hs b, 0, none⟩) (row rows b).length (cp hs b))).setCell ⟨L, b, none⟩ (.slice (some ⟨bk hs a, 0, none⟩) (row rows a).length (cp hs a))) L (swapH hs a b) (swapR rows a b) := by
  have hla : a < hs.length := by rw [h.len]; exact ha
  have hlb : b < hs.length := by rw [h.len]; exact hb
  have hsw : ∀ j, (swapH hs a b).getD j (0, 0) = if b = j then hs.getD a (0, 0) else if a = j then hs.getD b (0, 0) else hs.getD j (0, 0) := fun j => swapH_getD hs a b j hla hlb
  refine ⟨?_, ?_, ?_, ?_, ?_⟩
  · obtain ⟨C, hC, hc⟩ := h.outer
    refine ⟨_, blk_set (blk_set hC a _) b _, fun q hq => ?_⟩
    rw [swap_length] at hq
    have hA : a < C.size := (Array.getElem?_eq_some_iff.1 (hc a ha)).1
    have hB : b < C.size := (Array.getElem?_eq_some_iff.1 (hc b hb)).1
    unfold bk cp
    rw [row_swap _ _ _ _ ha hb, hsw, Array.getElem?_setIfInBounds, Array.getElem?_setIfInBounds, Array.size_setIfInBounds]
    by_cases e : b = q
    · subst e
      simp [hB]
    · rw [if_neg e, if_neg e, if_neg e]
      by_cases e' : a = q
      · subst e'
        simp [hA]
      · rw [if_neg e', if_neg e', if_neg e']
        exact hc q hq
  · intro q hq
    rw [swap_length] at hq
    have key : ∀ p, p < rows.length → ∃ R, ((w.setCell ⟨L, a, none⟩ (.slice (some ⟨bk hs b, 0, none⟩) (row rows b).length (cp hs b))).setCell ⟨L, b, none⟩ (.slice (some ⟨bk hs a, 0, none⟩) (row rows a).length (cp hs a))).heap[bk hs p]? = some (.cells R 3 (0, 0)) ∧ R.size = cp hs p ∧ ∀ j, j < (row rows p).length → R[j]? = some (.int .i64 ((row rows p).getD j 0)) := by
      intro p hp
      obtain ⟨R, hR, hz, hr⟩ := h.inner p hp
      exact ⟨R, blk_far (blk_far hR (p := ⟨L, a, none⟩) (h.ne hp) _) (p := ⟨L, b, none⟩) (h.ne hp) _, hz, hr⟩
    unfold bk cp
    rw [row_swap _ _ _ _ ha hb, hsw]
    by_cases e : b = q
    · rw [if_pos e, if_pos e]
      exact key a ha
    · rw [if_neg e, if_neg e]
      by_cases e' : a = q
      · rw [if_pos e', if_pos e']
        exact key b hb
      · rw [if_neg e', if_neg e']
        exact key q hq
  · intro q hq
    rw [swap_length] at hq
    unfold cp
    rw [row_swap _ _ _ _ ha hb, hsw]
    split
    · exact h.caps a ha
    · split
      · exact h.caps b hb
      · exact h.caps q hq
  · intro p q hp hq
    rw [swap_length] at hp hq
    unfold bk
    rw [hsw, hsw]
    intro e
    have inj := h.inj
    unfold bk at inj
    by_cases p1 : b = p
    · rw [if_pos p1] at e
      by_cases q1 : b = q
      · omega
      · rw [if_neg q1] at e
        by_cases q2 : a = q
        · rw [if_pos q2] at e
          have := inj _ _ ha hb e; omega
        · rw [if_neg q2] at e
          have := inj _ _ ha hq e; omega
    · rw [if_neg p1] at e
      by_cases p2 : a = p
      · rw [if_pos p2] at e
        by_cases q1 : b = q
        · rw [if_pos q1] at e
          have := inj _ _ hb ha e; omega
        · rw [if_neg q1] at e
          by_cases q2 : a = q
          · omega
          · rw [if_neg q2] at e
            have := inj _ _ hb hq e; omega
      · rw [if_neg p2] at e
        by_cases q1 : b = q
        · rw [if_pos q1] at e
          have := inj _ _ hp ha e; omega
        · rw [if_neg q1] at e
          by_cases q2 : a = q
          · rw [if_pos q2] at e
            have := inj _ _ hp hb e; omega
          · rw [if_neg q2] at e
            exact inj _ _ hp hq e
  · rw [swap_length]
    simp [swapH, h.len]
theorem swapH_bk (hs : List (Nat × Nat)) (a b : Nat) (ha : a < hs.length) (hb : b < hs.length) (P : Nat → Prop) (hP : ∀ i, i < hs.length → P (bk hs i)) : ∀ i, i < hs.length → P (bk (swapH hs a b) i) := by
  intro i hi
  unfold bk
  rw [swapH_getD _ _ _ _ ha hb]
  split
  · exact hP a ha
  · split
    · exact hP b hb
    · exact hP i hi
theorem nums_one (l : List Int) (j : Nat) (h : j < l.length) : ((nums .i64 l).drop (j * 1)).take 1 = [.int .i64 (l.getD j 0)] := by
  unfold nums
  rw [Nat.mul_one, ← List.map_drop, List.drop_eq_getElem_cons h, List.getD_eq_getElem?_getD, List.getElem?_eq_getElem h]
  rfl
theorem Mat.rowR (h : Mat w L hs rows) {i : Nat} (hi : i < rows.length) {base : Nat} (hb : base ≤ bk hs i) : (Kd.int .i64).R 3 w base (fun k => k = bk hs i) (.slice (some ⟨bk hs i, 0, none⟩) (row rows i).length (cp hs i)) (row rows i) := by
  obtain ⟨R, hR, hz, hr⟩ := h.inner i hi
  have hc := h.caps i hi
  have htake : R.toList.take ((row rows i).length * 1) = nums .i64 (row rows i) := by
    apply List.ext_getElem?
    intro j
    rw [List.getElem?_take, Nat.mul_one]
    unfold nums
    rw [List.getElem?_map]
    split
    · rename_i hj
      rw [Array.getElem?_toList, hr j hj, List.getElem?_eq_getElem hj, List.getD_eq_getElem?_getD, List.getElem?_eq_getElem hj]
      rfl
    · rename_i hj
      rw [List.getElem?_eq_none (by omega)]
      rfl
  refine ⟨fun k hk => by simpa [Value.ownBlock] using hk.symm, nums .i64 (row rows i), ⟨by rw [nums_length]; exact (Nat.mul_one _).symm, .inr ⟨bk hs i, cp hs i, R, rfl, hb, hR, hc.1, hc.2, by rw [hz]; exact (Nat.mul_one _).symm, htake⟩⟩, ⟨by rw [nums_length]; exact (Nat.mul_one _).symm, fun j p hj => ?_⟩⟩
  have hjl := (List.getElem?_eq_some_iff.1 hj).1
  have e : p = (row rows i).getD j 0 := by rw [List.getD_eq_getElem?_getD, hj]; rfl
  rw [e]
  exact nums_one _ j hjl
/-- A row that was appended to is put back in its place. -/
theorem Mat.putBack (h : Mat w L hs rows) {i : Nat} (hi : i < rows.length) {base : Nat} {ok : Nat → Prop} {v1 : Value} {new : List Int} (hpos : 0 < new.length) (ho : (Kd.int .i64).R 3 w1 base ok v1 new) (hg : w.grownBy w1 (some (bk hs i))) (hat : v1.ownBlock = some (bk hs i) ∨ ∃ b, v1.ownBlock = some b ∧ w.heap.size ≤ b) :
    ∃ g c, v1 = .slice (some ⟨g, 0, none⟩) new.length c ∧ base ≤ g ∧ (g = bk hs i ∨ w.heap.size ≤ g) ∧ Mat (w1.setCell ⟨L, i, none⟩ v1) L (hs.set i (g, c)) (rows.set i new) := by
  obtain ⟨_, inn, ⟨hl, ho⟩, hr⟩ := ho
  rcases ho with ⟨rfl, hz⟩ | ⟨g, c, R, rfl, hgb, hR, hc, hmax, hsz, htake⟩
  · omega
  have hgi : g = bk hs i ∨ w.heap.size ≤ g := by
    rcases hat with hat | ⟨b, hb, hlt⟩
    · exact .inl (by simpa [Value.ownBlock] using hat)
    · have : g = b := by simpa [Value.ownBlock] using hb
      exact .inr (by omega)
  have hLne : L ≠ bk hs i := fun e => h.ne hi e.symm
  have hgL : g ≠ L := by
    rcases hgi with e | e
    · rw [e]; exact h.ne hi
    · have := h.ltL; omega
  have hil : i < hs.length := by rw [h.len]; exact hi
  have hsi : (hs.set i (g, c)).getD i (0, 0) = (g, c) := by rw [List.getD_eq_getElem?_getD, List.getElem?_set, if_pos rfl, if_pos hil]; rfl
  have hsj : ∀ j, i ≠ j → (hs.set i (g, c)).getD j (0, 0) = hs.getD j (0, 0) := by
    intro j hj
    rw [List.getD_eq_getElem?_getD, List.getElem?_set, if_neg hj, ← List.getD_eq_getElem?_getD]
  have hgj : ∀ j, j < rows.length → i ≠ j → g ≠ bk hs j := by
    intro j hj hij
    rcases hgi with e | e
    · intro e2
      exact hij (h.inj i j hi hj (e ▸ e2))
    · have := h.ltI hj; omega
  refine ⟨g, c, rfl, hgb, hgi, ?_, ?_, ?_, ?_, by rw [List.length_set, List.length_set]; exact h.len⟩
  · obtain ⟨C, hC, hcc⟩ := h.outer
    have hC1 := (hg.block L h.ltL (by intro e; injection e with e; exact hLne e)).trans hC
    refine ⟨_, blk_set hC1 i _, fun q hq => ?_⟩
    rw [List.length_set] at hq
    rw [row_set _ _ _ _ hi, Array.getElem?_setIfInBounds]
    unfold bk cp
    by_cases e : i = q
    · subst e
      have hA : i < C.size := (Array.getElem?_eq_some_iff.1 (hcc i hi)).1
      rw [if_pos rfl, if_pos rfl, if_pos hA, hsi]
    · rw [if_neg e, if_neg e, hsj q e]
      exact hcc q hq
  · intro q hq
    rw [List.length_set] at hq
    rw [row_set _ _ _ _ hi]
    unfold bk cp
    by_cases e : i = q
    · subst e
      rw [if_pos rfl, hsi]
      refine ⟨R, blk_far hR (p := ⟨L, i, none⟩) hgL _, by rw [hsz]; exact Nat.mul_one _, fun j hj => ?_⟩
      have h2 : (inn.drop (j * 1)).take 1 = [.int .i64 (new.getD j 0)] := hr.2 j (new.getD j 0) (by rw [List.getD_eq_getElem?_getD, List.getElem?_eq_getElem hj]; rfl)
      have h4 : ((inn.drop (j * 1)).take 1)[0]? = some (.int .i64 (new.getD j 0)) := by rw [h2]; rfl
      rw [Nat.mul_one, List.getElem?_take_of_lt (by omega), List.getElem?_drop, Nat.add_zero, ← (show R.toList.take (new.length * 1) = inn from htake)] at h4
      rw [List.getElem?_take] at h4
      split at h4
      · rw [← Array.getElem?_toList]; exact h4
      · cases h4
    · rw [if_neg e, hsj q e]
      obtain ⟨R', hR', hz', hr'⟩ := h.inner q hq
      have hne : bk hs i ≠ bk hs q := fun e2 => e (h.inj i q hi hq e2)
      have hR1 := (hg.block (bk hs q) (h.ltI hq) (by intro e2; injection e2 with e2; exact hne e2.symm)).trans hR'
      exact ⟨R', blk_far hR1 (p := ⟨L, i, none⟩) (h.ne hq) _, hz', hr'⟩
  · intro q hq
    rw [List.length_set] at hq
    rw [row_set _ _ _ _ hi]
    unfold cp
    by_cases e : i = q
    · subst e
      rw [if_pos rfl, hsi]
      exact ⟨hc, hmax⟩
    · rw [if_neg e, hsj q e]
      exact h.caps q hq
  · intro p q hp hq
    rw [List.length_set] at hp hq
    unfold bk
    by_cases e1 : i = p
    · subst e1
      by_cases e2 : i = q
      · intro _; exact e2
      · rw [hsi, hsj q e2]
        intro e
        exact absurd e (hgj q hq e2)
    · rw [hsj p e1]
      by_cases e2 : i = q
      · subst e2
        rw [hsi]
        intro e
        exact absurd e.symm (hgj p hp e1)
      · rw [hsj q e2]
        exact h.inj p q hp hq
end
end Go.Proofs.Ythfddndmhjkeiaa.L
end
section
/- matrix.reduce: what it does to rows in memory. -/
namespace Go.Proofs.Ythfddndmhjkeiaa.L
open Go.RowKit Go.Proofs.YthfddndmhjkeiaaW.PrintWords Go.Proofs.YthfddndmhjkeiaaW.PrintLast Go.Proofs.YthfddndmhjkeiaaW.PrintMore
set_option linter.unusedVariables false
set_option linter.unusedSimpArgs false

set_option maxHeartbeats 2000000 in
set_option maxRecDepth 100000 in
theorem matrix_reduce.calls (P : Nat → Prop) (B L cap : Nat) (hs : List (Nat × Nat)) (rows : List (List Int)) (m cols : Nat) (w0 w : World) (hM : Mat w L hs rows) (hG : Good m rows) (hm : m ≤ 1000) (hr : rows.length ≤ 1000) (hcap : rows.length ≤ cap) (hc : cols ≤ m)
    (hP : ∀ i, i < rows.length → P (bk hs i)) (hPL : P L) (hPB : ∀ k, P k → B ≤ k) (hB : Below B w0 w) :
    Calls Try.prog 65 #[.slice (some ⟨L, 0, none⟩) rows.length cap, .int .i64 (cols : Int)] w fun e w' => e = .returned (.int .i64 ((reduceTo rows cols).2 : Int)) ∧ ∃ hs', Mat w' L hs' (reduceTo rows cols).1 ∧ (∀ i, i < rows.length → P (bk hs' i)) ∧ Below B w0 w' ∧ Kept w w' P := by
  have HM := Aside0.mk hM
  have HG := Aside0.mk hG
  have HP := Aside0.mk hP
  have HPL := Aside0.mk hPL
  have HPB := Aside0.mk hPB
  have HB := Aside0.mk hB
  clear hM hG hP hPL hPB hB
  generalize hn : rows.length = n at *
  have Hn := Aside0.mk hn
  clear hn
  go_enter Try.func65, Try.ntmps65
  go_wp2_with fail
  go_loopw [18, 5] (fun v u wr => ∃ (k r : Nat) (hs1 : List (Nat × Nat)), v = .int .i64 (k : Int) ∧ u = .int .i64 (r : Int) ∧ k ≤ cols ∧ r ≤ n ∧ Aside0 (r = (reduceTo rows k).2) ∧ Aside0 (Mat wr L hs1 (reduceTo rows k).1) ∧ Aside0 (∀ i, i < n → P (bk hs1 i)) ∧ Aside0 (Below B w0 wr) ∧ Aside0 (Kept w wr P)) (fun v _ _ => cols - (intOf v).toNat)
  case atStart => exact ⟨0, 0, hs, rfl, rfl, Nat.zero_le _, Nat.zero_le _, ⟨rfl⟩, ⟨HM.out⟩, ⟨HP.out⟩, ⟨HB.out⟩, ⟨Kept.refl _ _⟩⟩
  case round =>
    obtain ⟨k, r, hs1, rfl, rfl, hk, hrn, HR, HM1, HP1, HB1, HK1⟩ := hrel
    have hl0 : (reduceTo rows k).1.length = n := by rw [reduceTo_length]; exact Hn.out
    have hinv := (reduceTo_inv (n := k) (by omega) HG.out).1
    have hst : ∀ R0, R0 = (reduceTo rows k).1 → reduceTo rows (k + 1) = stepP k (R0, r) := by
      intro R0 e
      rw [reduceTo_succ, e, HR.out]
    obtain ⟨R0, hR0⟩ : ∃ R0, R0 = (reduceTo rows k).1 := ⟨_, rfl⟩
    have HST := Aside0.mk (hst R0 hR0)
    rw [← hR0] at hl0 hinv
    have HM0 : Aside0 (Mat wr L hs1 R0) := ⟨by rw [hR0]; exact HM1.out⟩
    have HR0 := Aside0.mk hR0
    have HI0 := Aside0.mk hinv
    have HL0 := Aside0.mk hl0
    clear hst hR0 hinv HM1 hl0
    by_cases hlt : k < cols
    · have hltb : decide ((k : Int) < (cols : Int)) = true := decide_eq_true (by omega)
      go_wp2_with fail
      go_loop [7] (fun v => ∃ i : Nat, v = .int .i64 (i : Int) ∧ r ≤ i ∧ i ≤ n ∧ Aside0 (pivot R0 k r = pivot R0 k i)) (fun v => n - (intOf v).toNat)
      case atStart => exact ⟨r, rfl, Nat.le_refl _, hrn, ⟨rfl⟩⟩
      case round =>
        obtain ⟨i, rfl, hi0, hi1, HPV⟩ := hrel
        by_cases hin : i < n
        · have hinb : decide ((i : Int) < (n : Int)) = true := decide_eq_true (by omega)
          have hil : i < R0.length := by rw [HL0.out]; exact hin
          have hO := HM0.out.cellO hil
          have hlr : (row R0 i).length = m := (HI0.out i hil).1
          have hI := HM0.out.cellI hil (j := k) (by rw [hlr]; omega)
          rw [hlr] at hO
          generalize hx : (row R0 i).getD k 0 = x at hI
          by_cases hz : x = 0
          · have hzb : (x == 0) = true := beq_iff_eq.mpr hz
            have HPV2 := Aside0.mk (HPV.out.trans (pivot_go hil (by rw [hx]; exact hz)))
            clear hx hz hlr hil
            go_wp2_with fail
            exact ⟨⟨i + 1, rfl, by omega, by omega, HPV2⟩, by simp [intOf]; omega⟩
          · have hzb : (x == 0) = false := beq_eq_false_iff_ne.mpr hz
            have hp : pivot R0 k r = i := HPV.out.trans (pivot_stop hil (by rw [hx]; exact hz))
            have HST2 := Aside0.mk (show reduceTo rows (k + 1) = (elimTo (scaleRow (swapR R0 r i) r k) r k R0.length, r + 1) by
              rw [HST.out]
              unfold stepP
              rw [if_neg (by show ¬ pivot R0 k r = R0.length; rw [hp, HL0.out]; omega)]
              show _ = _
              rw [hp])
            have hne : ((i : Int) == (n : Int)) = false := beq_eq_false_iff_ne.mpr (by omega)
            have hrl : r < R0.length := by omega
            have hO2 := HM0.out.cellO hrl
            have hlr2 : (row R0 r).length = m := (HI0.out r hrl).1
            rw [hlr2] at hO2
            have hf1 := HM0.out.frO i
            have hf2 := HM0.out.frO r
            have hsw := Aside0.mk (HM0.out.swap hrl hil)
            rw [hlr, hlr2] at hsw
            obtain ⟨vz, hz1, hz2⟩ := HM0.out.setO hil r (.slice (some ⟨bk hs1 i, 0, none⟩) m (cp hs1 i))
            clear hz hp HPV HST hlr hx
            go_wp2_with fail
            go_region
            clear hz1 hz2 hf1 hf2 hO hO2 hI hinb hne hzb hlr2
            have hl1 : hs1.length = n := by rw [HM0.out.len, HL0.out]
            have hPi : P L := HPL.out
            have hBL : B ≤ L := HPB.out L hPi
            obtain ⟨w2, hw2, HM2, HB2, HK2⟩ : ∃ w2, w2 = ((wr.setCell ⟨L, r, none⟩ (.slice (some ⟨bk hs1 i, 0, none⟩) m (cp hs1 i))).setCell ⟨L, i, none⟩ (.slice (some ⟨bk hs1 r, 0, none⟩) m (cp hs1 r))).drew ∧ Aside0 (Mat w2 L (swapH hs1 r i) (swapR R0 r i)) ∧ Aside0 (Below B w0 w2) ∧ Aside0 (Kept w w2 P) :=
              ⟨_, rfl, ⟨hsw.out.move rfl (fun _ _ => rfl)⟩, ⟨below_drew ((HB1.out.setCell hBL _).setCell hBL _)⟩, ⟨Kept.drew (Kept.setCell (Kept.setCell HK1.out (.inl hPi) _) (.inl hPi) _)⟩⟩
            rw [← hw2]
            clear hw2 hsw
            have HP2 := Aside0.mk (show ∀ q, q < n → P (bk (swapH hs1 r i) q) by
              have := swapH_bk hs1 r i (by omega) (by omega) P (by rw [hl1]; exact HP1.out)
              rw [hl1] at this
              exact this)
            obtain ⟨R1, hR1⟩ : ∃ R1, R1 = swapR R0 r i := ⟨_, rfl⟩
            obtain ⟨hs2, hh2⟩ : ∃ hs2, hs2 = swapH hs1 r i := ⟨_, rfl⟩
            have HST3 : Aside0 (reduceTo rows (k + 1) = (elimTo (scaleRow R1 r k) r k n, r + 1)) := ⟨by rw [HST2.out, hR1, HL0.out]⟩
            rw [← hR1, ← hh2] at HM2
            rw [← hh2] at HP2
            have HI1 := Aside0.mk (show Good m R1 by rw [hR1]; exact HI0.out.swap (by rw [HL0.out]; omega) hil)
            have HL1 := Aside0.mk (show R1.length = n by rw [hR1, swap_length, HL0.out])
            have hrn2 : r < n := by omega
            clear hin hi0 hi1
            clear HST2 hR1 hh2 HM0 HB1 HK1 HP1 HI0 HL0 HR0 hil hrl hl1 hBL hPi
            have hrl : r < R1.length := by rw [HL1.out]; omega
            have hlr : (row R1 r).length = m := (HI1.out r hrl).1
            have hO := HM2.out.cellO hrl
            have hI := HM2.out.cellI hrl (j := k) (by rw [hlr]; omega)
            rw [hlr] at hO
            have hel := HI1.out.getD hrl (j := k) (by omega)
            have hgi := Aside0.mk (ginv_some hel)
            have hge := Aside0.mk (ginv_el hel)
            obtain ⟨x, hxx⟩ : ∃ x, x = (row R1 r).getD k 0 := ⟨_, rfl⟩
            obtain ⟨by_, hby⟩ : ∃ y, y = ginv ((row R1 r).getD k 0) := ⟨_, rfl⟩
            rw [← hby] at hgi hge
            have HBY := Aside0.mk hby
            rw [← hxx] at hI hgi
            clear hby hel hxx
            go_wp2_with fail
            refine (field_Inverse.calls 40 x _ _ _ hgi.out).mono ?_
            rintro e w3 ⟨rfl, ⟨nd, rfl⟩⟩
            have HM3 : Aside0 (Mat (w2.drewN nd) L hs2 R1) := ⟨HM2.out.move rfl (fun _ _ => rfl)⟩
            have HB3 := Aside0.mk (pw_below_drewN HB2.out nd)
            have HK3 := Aside0.mk (Kept.drewN HK2.out nd)
            clear HM2 HB2 HK2 hI
            generalize w2.drewN nd = w3 at *
            have hO := HM3.out.cellO hrl
            rw [hlr] at hO
            have HLR := Aside0.mk hlr
            have HPR := Aside0.mk (show P (bk hs2 r) ∧ B ≤ bk hs2 r from ⟨HP2.out r hrn2, HPB.out _ (HP2.out r hrn2)⟩)
            clear hlr
            go_wp2_with fail
            clear hO
            go_loopw [72] (fun v wr => ∃ j : Nat, v = .int .i64 (j : Int) ∧ j ≤ m ∧ Aside0 (Mat wr L hs2 (R1.set r (mid (row R1 r) (fun j => gm ((row R1 r).getD j 0) by_) j))) ∧ Aside0 (Below B w0 wr) ∧ Aside0 (Kept w wr P)) (fun v _ => m - (intOf v).toNat)
            case atStart => exact ⟨0, rfl, Nat.zero_le _, ⟨by rw [mid_zero, show R1.set r (row R1 r) = R1 from set_row R1 r]; exact HM3.out⟩, HB3, HK3⟩
            case round =>
              rename_i wr2 _
              obtain ⟨j, rfl, hj, HMj, HBj, HKj⟩ := hrel
              by_cases hjm : j < m
              · have hjb : decide ((j : Int) < (m : Int)) = true := decide_eq_true (by omega)
                obtain ⟨R2, hR2⟩ : ∃ R2, R2 = R1.set r (mid (row R1 r) (fun j => gm ((row R1 r).getD j 0) by_) j) := ⟨_, rfl⟩
                rw [← hR2] at HMj
                have hrl2 : r < R2.length := by rw [hR2, List.length_set]; exact hrl
                have hlr2 : (row R2 r).length = m := by rw [hR2, row_set _ _ _ _ hrl, if_pos rfl, mid_length]; exact HLR.out
                have hO := HMj.out.cellO hrl2
                have hI := HMj.out.cellI hrl2 (j := j) (by rw [hlr2]; exact hjm)
                have hfr := HMj.out.frI hrl2 j
                have hx : (row R2 r).getD j 0 = (row R1 r).getD j 0 := by rw [hR2, row_set _ _ _ _ hrl, if_pos rfl, mid_getD _ _ _ _ (by rw [HLR.out]; exact hjm), if_neg (by omega)]
                have hel := HI1.out.getD hrl hjm
                have hst := Aside0.mk (HMj.out.store hrl2 (j := j) (by rw [hlr2]; exact hjm) (gm ((row R1 r).getD j 0) by_))
                have hre := Aside0.mk (show R2.set r ((row R2 r).set j (gm ((row R1 r).getD j 0) by_)) = R1.set r (mid (row R1 r) (fun j => gm ((row R1 r).getD j 0) by_) (j + 1)) by
                  rw [hR2, row_set _ _ _ _ hrl, if_pos rfl, List.set_set, mid_set (row R1 r) (fun j => gm ((row R1 r).getD j 0) by_) j])
                rw [hx] at hI
                rw [hlr2] at hO
                have hgm := Aside0.mk (gm_some hel hge.out)
                generalize (row R1 r).getD j 0 = y at hI hgm hst hre hel
                clear hx hel hlr2 hR2
                go_wp2_with fail
                go_region_with ((go_at_call 87; refine (matrix_mul.calls 40 _ _ _ _ hgm.out).mono ?_; rintro e w' ⟨rfl, ⟨nd, rfl⟩⟩))
                all_goals
                  go_wp2_with fail
                  refine ⟨⟨j + 1, rfl, by omega, ⟨?_⟩, ⟨?_⟩, ⟨?_⟩⟩, by simp [intOf]; omega⟩
                  · rw [← hre.out]; exact hst.out.move rfl (fun _ _ => rfl)
                  · repeat (first | exact HBj.out | apply pw_below_drewN | apply below_drew | refine Below.setCell ?_ HPR.out.2 _)
                  · repeat (first | exact HKj.out | apply Kept.drewN | apply Kept.drew | refine Kept.setCell ?_ (.inl HPR.out.1) _)
              · have hjb : decide ((j : Int) < (m : Int)) = false := decide_eq_false (by omega)
                obtain rfl : m = j := by omega
                obtain ⟨R3, hR3⟩ : ∃ R3, R3 = scaleRow R1 r k := ⟨_, rfl⟩
                have hR2 : R1.set r (mid (row R1 r) (fun j => gm ((row R1 r).getD j 0) by_) m) = R3 := by
                  rw [hR3]
                  unfold scaleRow
                  rw [HLR.out, HBY.out]
                rw [hR2] at HMj
                have HI3 := Aside0.mk (show Good m R3 by rw [hR3]; exact HI1.out.scale hrl (by omega))
                have HL3 := Aside0.mk (show R3.length = n by rw [hR3, scale_length, HL1.out])
                have HST4 : Aside0 (reduceTo rows (k + 1) = (elimTo R3 r k n, r + 1)) := ⟨by rw [HST3.out, hR3]⟩
                clear hR2 hR3 HST3 HBY HI1 HL1 HLR hgi hge hjm hj hrl HM3 HB3 HK3
                have hr3 : r < R3.length := by rw [HL3.out]; exact hrn2
                go_wp2_with fail
                go_loopw [89] (fun v wr => ∃ q : Nat, v = .int .i64 (q : Int) ∧ q ≤ n ∧ Aside0 (Mat wr L hs2 (elimTo R3 r k q)) ∧ Aside0 (Below B w0 wr) ∧ Aside0 (Kept w wr P)) (fun v _ => n - (intOf v).toNat)
                case atStart => exact ⟨0, rfl, Nat.zero_le _, ⟨by rw [elimTo_zero]; exact HMj.out⟩, HBj, HKj⟩
                case round =>
                  rename_i wr3 _
                  clear HMj HBj HKj
                  obtain ⟨q, rfl, hq, HMq, HBq, HKq⟩ := hrel
                  by_cases hqn : q < n
                  · have hqb : decide ((q : Int) < (n : Int)) = true := decide_eq_true (by omega)
                    obtain ⟨R4, hR4⟩ : ∃ R4, R4 = elimTo R3 r k q := ⟨_, rfl⟩
                    rw [← hR4] at HMq
                    have hq3 : q < R3.length := by rw [HL3.out]; exact hqn
                    have hq4 : q < R4.length := by rw [hR4, elimTo_length]; exact hq3
                    have hr4 : r < R4.length := by rw [hR4, elimTo_length]; exact hr3
                    have hrow : row R4 q = row R3 q := by rw [hR4, elimTo_row _ _ _ _ _ hq3, if_neg (by omega)]
                    have hrowr : row R4 r = row R3 r := by rw [hR4, elimTo_pivot _ _ _ _ hr3]
                    have hlq : (row R3 q).length = m := (HI3.out q hq3).1
                    have hlr : (row R3 r).length = m := (HI3.out r hr3).1
                    have hOq := HMq.out.cellO hq4
                    have hOr := HMq.out.cellO hr4
                    have hI := HMq.out.cellI hq4 (j := k) (by rw [hrow, hlq]; omega)
                    rw [hrow] at hI hOq
                    rw [hrowr] at hOr
                    rw [hlq] at hOq
                    rw [hlr] at hOr
                    have HES := Aside0.mk (show elimTo R3 r k (q + 1) = R4.set q (elimRow R3 r k q (row R3 q)) by rw [elimTo_succ _ _ _ _ hq3, hR4])
                    have HROW := Aside0.mk hrow
                    have HROWR := Aside0.mk hrowr
                    have HLQ := Aside0.mk hlq
                    have HLR3 := Aside0.mk hlr
                    clear hrow hrowr hR4 hlq hlr
                    obtain ⟨z, hz⟩ : ∃ z, z = (row R3 q).getD k 0 := ⟨_, rfl⟩
                    have hzel : El z := by rw [hz]; exact HI3.out.getD hq3 (by omega)
                    rw [← hz] at hI
                    have HZ := Aside0.mk hz
                    clear hz
                    by_cases hcnd : q ≠ r ∧ z ≠ 0
                    · have c1 : ((q : Int) != (r : Int)) = true := bne_iff_ne.mpr (by omega)
                      have c2 : (z != 0) = true := bne_iff_ne.mpr hcnd.2
                      have hqr : q ≠ r := hcnd.1
                      have HPQ := Aside0.mk (show P (bk hs2 q) ∧ B ≤ bk hs2 q from ⟨HP2.out q hqn, HPB.out _ (HP2.out q hqn)⟩)
                      have HEL := Aside0.mk (show elimRow R3 r k q (row R3 q) = mid (row R3 q) (fun j => gx ((row R3 q).getD j 0) (gm ((row R3 r).getD j 0) z)) m by
                        unfold elimRow
                        rw [if_pos ⟨hqr, by rw [← HZ.out]; exact hcnd.2⟩, HLQ.out, ← HZ.out])
                      clear hcnd
                      go_wp2_with fail
                      clear hOq hOr hI
                      go_loopw [110] (fun v wr => ∃ j : Nat, v = .int .i64 (j : Int) ∧ j ≤ m ∧ Aside0 (Mat wr L hs2 (R4.set q (mid (row R3 q) (fun j => gx ((row R3 q).getD j 0) (gm ((row R3 r).getD j 0) z)) j))) ∧ Aside0 (Below B w0 wr) ∧ Aside0 (Kept w wr P)) (fun v _ => m - (intOf v).toNat)
                      case atStart => exact ⟨0, rfl, Nat.zero_le _, ⟨by rw [mid_zero, ← HROW.out, set_row]; exact HMq.out⟩, HBq, HKq⟩
                      case round =>
                        rename_i wr4 _
                        clear HMq HBq HKq
                        obtain ⟨j, rfl, hj, HMj, HBj, HKj⟩ := hrel
                        by_cases hjm : j < m
                        · have hjb : decide ((j : Int) < (m : Int)) = true := decide_eq_true (by omega)
                          obtain ⟨F, hF⟩ : ∃ F : Nat → Int, F = (fun j => gx ((row R3 q).getD j 0) (gm ((row R3 r).getD j 0) z)) := ⟨_, rfl⟩
                          obtain ⟨R5, hR5⟩ : ∃ R5, R5 = R4.set q (mid (row R3 q) F j) := ⟨_, rfl⟩
                          rw [← hF, ← hR5] at HMj
                          have hq5 : q < R5.length := by rw [hR5, List.length_set]; exact hq4
                          have hr5 : r < R5.length := by rw [hR5, List.length_set]; exact hr4
                          have hrq : row R5 q = mid (row R3 q) F j := by rw [hR5, row_set _ _ _ _ hq4, if_pos rfl]
                          have hrr : row R5 r = row R3 r := by rw [hR5, row_set _ _ _ _ hq4, if_neg hqr, HROWR.out]
                          have hlq : (row R5 q).length = m := by rw [hrq, mid_length, HLQ.out]
                          have hlr : (row R5 r).length = m := by rw [hrr, HLR3.out]
                          have hIq := HMj.out.cellI hq5 (j := j) (by rw [hlq]; exact hjm)
                          have hIr := HMj.out.cellI hr5 (j := j) (by rw [hlr]; exact hjm)
                          have hfr := HMj.out.frI hq5 j
                          rw [show (row R5 q).getD j 0 = (row R3 q).getD j 0 by rw [hrq, mid_getD _ _ _ _ (by rw [HLQ.out]; exact hjm), if_neg (by omega)]] at hIq
                          rw [hrr] at hIr
                          have helq := HI3.out.getD hq3 hjm
                          have helr := HI3.out.getD hr3 hjm
                          have hgm := Aside0.mk (gm_some helr hzel)
                          have hst := Aside0.mk (HMj.out.store hq5 (j := j) (by rw [hlq]; exact hjm) (F j))
                          have hre := Aside0.mk (show R5.set q ((row R5 q).set j (F j)) = R4.set q (mid (row R3 q) F (j + 1)) by
                            rw [hrq, mid_set, hR5, List.set_set])
                          have hFj : F j = Go.bits .xor .i64 ((row R3 q).getD j 0) (gm ((row R3 r).getD j 0) z) := by rw [hF]; rfl
                          rw [hFj] at hst hre
                          have HF := Aside0.mk hF
                          clear hFj hF hR5 hrq hrr hlq hlr
                          generalize (row R3 q).getD j 0 = yq at hIq hst hre helq
                          generalize (row R3 r).getD j 0 = yr at hIr hst hre helr hgm
                          clear helq helr
                          go_wp2_with fail
                          go_region_with ((go_at_call 87; refine (matrix_mul.calls 40 _ _ _ _ hgm.out).mono ?_; rintro e w' ⟨rfl, ⟨nd, rfl⟩⟩))
                          all_goals
                            go_wp2_with fail
                            refine ⟨⟨j + 1, rfl, by omega, ⟨?_⟩, ⟨?_⟩, ⟨?_⟩⟩, by simp [intOf]; omega⟩
                            · rw [← HF.out, ← hre.out]; exact hst.out.move rfl (fun _ _ => rfl)
                            · repeat (first | exact HBj.out | apply pw_below_drewN | apply below_drew | refine Below.setCell ?_ HPQ.out.2 _)
                            · repeat (first | exact HKj.out | apply Kept.drewN | apply Kept.drew | refine Kept.setCell ?_ (.inl HPQ.out.1) _)
                        · have hjb : decide ((j : Int) < (m : Int)) = false := decide_eq_false (by omega)
                          obtain rfl : m = j := by omega
                          have hM6 := HMj.out
                          rw [← HEL.out, ← HES.out] at hM6
                          have HM6 := Aside0.mk hM6
                          clear hM6
                          clear HMj hjm hj
                          go_wp2_with fail
                          exact ⟨⟨q + 1, rfl, by omega, HM6, HBj, HKj⟩, by simp [intOf]; omega⟩
                    · have hre : elimTo R3 r k (q + 1) = R4 := by
                        rw [HES.out]
                        unfold elimRow
                        rw [if_neg (by rw [← HZ.out]; exact hcnd), ← HROW.out, set_row]
                      have hM6 := HMq.out
                      rw [← hre] at hM6
                      have HM6 := Aside0.mk hM6
                      clear hM6 hre
                      by_cases hqr : q = r
                      · have c1 : ((q : Int) != (r : Int)) = false := bne_eq_false_iff_eq.mpr (by omega)
                        clear hcnd hqr
                        go_wp2_with fail
                        exact ⟨⟨q + 1, rfl, by omega, HM6, HBq, HKq⟩, by simp [intOf]; omega⟩
                      · have c1 : ((q : Int) != (r : Int)) = true := bne_iff_ne.mpr (by omega)
                        have c2 : (z != 0) = false := bne_eq_false_iff_eq.mpr (by
                          rcases Classical.em (z = 0) with h0 | h0
                          · exact h0
                          · exact absurd ⟨hqr, h0⟩ hcnd)
                        clear hcnd hqr
                        go_wp2_with fail
                        exact ⟨⟨q + 1, rfl, by omega, HM6, HBq, HKq⟩, by simp [intOf]; omega⟩
                  · have hqb : decide ((q : Int) < (n : Int)) = false := decide_eq_false (by omega)
                    obtain rfl : n = q := by omega
                    go_wp2_with fail
                    refine ⟨⟨k + 1, r + 1, hs2, rfl, rfl, by omega, by omega, ⟨by rw [HST4.out]⟩, ⟨by rw [HST4.out]; exact HMq.out⟩, HP2, HBq, HKq⟩, by simp [intOf]; omega⟩
        · have hinb : decide ((i : Int) < (n : Int)) = false := decide_eq_false (by omega)
          have hne : ((i : Int) == (n : Int)) = true := beq_iff_eq.mpr (by omega)
          have hs2 : reduceTo rows (k + 1) = (R0, r) := by
            rw [HST.out]
            unfold stepP
            rw [if_pos]
            show pivot R0 k r = R0.length
            rw [HPV.out, pivot_end (by rw [HL0.out]; omega), HL0.out]
            omega
          have HS2 := Aside0.mk hs2
          clear hs2
          go_wp2_with fail
          refine ⟨⟨k + 1, r, hs1, rfl, rfl, by omega, hrn, ⟨by rw [HS2.out]⟩, ⟨by rw [HS2.out]; exact HM0.out⟩, HP1, HB1, HK1⟩, by simp [intOf]; omega⟩
    · have hltb : decide ((k : Int) < (cols : Int)) = false := decide_eq_false (by omega)
      obtain rfl : k = cols := by omega
      go_wp2_with fail
      go_ret
      exact ⟨by rw [HR.out]; rfl, hs1, by rw [← HR0.out]; exact HM0.out, HP1.out, HB1.out, HK1.out⟩
end Go.Proofs.Ythfddndmhjkeiaa.L
end
