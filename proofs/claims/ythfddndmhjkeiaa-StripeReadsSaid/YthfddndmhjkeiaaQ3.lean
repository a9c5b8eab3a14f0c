/- Texts of this claim, put together by a small program of the session's own: F12, F49, F67, F50, F27, F28, MCheck, MLook, MSort, F87. -/
import Derived.Test.YthfddndmhjkeiaaQ0
import Derived.Test.YthfddndmhjkeiaaQ2
import Derived.Test.YthfddndmhjkeiaaQ1
import Derived.Test.YthfddndmhjkeiaaShelf
import Derived.Deep.RegionLaw
import Derived.Shelf.SlSortCmp.NoneTotal
section
-- Printed for this claim by a small program of the session's own, drv.py, round the kit's print.py. Lean checks it.
namespace Go.Proofs.Ythfddndmhjkeiaa.L
open Go.RowKit Go.Proofs.YthfddndmhjkeiaaW.PrintWords Go.Proofs.YthfddndmhjkeiaaW.PrintLast Go.Proofs.YthfddndmhjkeiaaW.PrintMore
attribute [local go_sem] max2_int min2_int max_two min_two max_three min_three max_four min_four   -- for this text's walks alone
set_option linter.unusedVariables false
set_option linter.unusedSimpArgs false

/-! ### stripe_Make: function 12 -/
def stripe_Make.l0 : Nat → List (S41) → List (S41) → Int → Int → Int → Int → Int → List Int → Option (Int × Int × Int × List Int × (List (S41)) × Int)
  | 0, _, _, _, _, _, _, _, _ => none
  | k + 1, x13, x56, x57, x58, x215000, x215001, x215002, x215003 => if x58 < x57 then (if 0 ≤ x58 then (if x58 < (x56.length : Int) then ((digest_Sum.f k ((rd_T41 x56 x58).f1)).bind fun t217 => (if x215003.length < 17592186044416 then (stripe_Make.l0 k x13 x56 x57 (wrap64 (x58 + 1)) x215000 x215001 x215002 (x215003 ++ [t217])) else (none))) else (none)) else (none)) else (some (x215000, x215001, x215002, x215003, x13, 0))
def stripe_Make.f (k : Nat) (a0_0 : Int) (a0_1 : Int) (a1 : ByteArray) (a2 : Int) : Option (Int × Int × Int × List Int × (List (S41)) × Int) := (erasure_Check.f a0_0 a0_1).bind fun t203 => (if t203 = 0 then ((seal_Seal.f a1 a2).bind fun bt204 => (if bt204.2.2 = 0 then ((seal_Encode.f bt204.1 bt204.2.1).bind fun bt208 => (if bt208.2 = 0 then ((erasure_Encode.f k a0_0 a0_1 bt208.1).bind fun bt210 => (if bt210.2 = 0 then (stripe_Make.l0 k bt210.1 bt210.1 (bt210.1.length : Int) 0 a0_0 a0_1 (bt208.1.size : Int) ([] : List Int)) else (none))) else (none))) else (none))) else (none))
theorem stripe_Make.mono_l : ∀ k, (∀ y0 y1 y2 y3 y4 y5 y6 y7, LeO (stripe_Make.l0 k y0 y1 y2 y3 y4 y5 y6 y7) (stripe_Make.l0 (k + 1) y0 y1 y2 y3 y4 y5 y6 y7))
  | 0 => fun _ _ _ _ _ _ _ _ r h => by simp [stripe_Make.l0] at h
  | k + 1 => by
    have ih0 := stripe_Make.mono_l k
    · intro y0 y1 y2 y3 y4 y5 y6 y7
      unfold stripe_Make.l0
      repeat' first | (with_reducible exact ih0 _ _ _ _ _ _ _ _) | (with_reducible exact digest_Sum.mono _ _) | (with_reducible exact LeO.refl _) | (with_reducible refine LeO.ite ?_ ?_) | (with_reducible refine LeO.bind ?_ (fun _ => ?_))
theorem stripe_Make.mono : ∀ a0 a1 a2 a3 k, LeO (stripe_Make.f k a0 a1 a2 a3) (stripe_Make.f (k + 1) a0 a1 a2 a3) := by
  intro a0 a1 a2 a3 k
  have ih0 := stripe_Make.mono_l k
  unfold stripe_Make.f
  repeat' first | (with_reducible exact ih0 _ _ _ _ _ _ _ _) | (with_reducible exact erasure_Encode.mono _ _ _ _) | (with_reducible exact LeO.refl _) | (with_reducible refine LeO.ite ?_ ?_) | (with_reducible refine LeO.bind ?_ (fun _ => ?_))
def stripe_Make.T17 : Bool × List (List Nat × List Nat) := (true, [([], []), ([0], [0]), ([], []), ([2], [2]), ([3], [3]), ([4], [4]), ([1, 5, 4], [1, 5]), ([0, 1, 2, 3, 4, 5, 6], []), ([7, 6, 6, 0, 1, 2, 3, 4, 5, 6], [6, 7])])
def stripe_Make.B17 : List Nat := [0, 1, 0, 4, 12, 28, 63, 127, 255]
theorem stripe_Make.tab17 : rtab .any (opsOf Try.f12 17) = stripe_Make.T17 := by kernel_rfl
theorem stripe_Make.bits17 : waitsOk stripe_Make.T17.2 stripe_Make.B17 = true := by kernel_rfl
set_option maxHeartbeats 8000000 in
set_option maxRecDepth 100000 in
theorem stripe_Make.calls (k : Nat) (a0_0 : Int) (a0_1 : Int) (a1 : ByteArray) (a2 : Int) (r1 : Int) (r2 : Int) (r3 : Int) (r4 : List Int) (r5 : List (S41)) (r6 : Int) (w : World) (h : stripe_Make.f k a0_0 a0_1 a1 a2 = some (r1, r2, r3, r4, r5, r6)) :
    Calls Try.prog 12 #[.agg #[.int .i64 a0_0, .int .i64 a0_1], .string a1, .int .i64 a2] w fun e w' => ∃ v3_ v4_ : Value, e = .returned (.tuple #[.agg #[.int .i64 r1, .int .i64 r2, .int .i64 r3, v3_], v4_, .int .i64 r6]) ∧ Kd.R (Kd.int .i64) 3 w' w.heap.size (fun _ => True) v3_ r4 ∧ Kd.R k41 41 w' w.heap.size (fun _ => True) v4_ r5 ∧ Below w.heap.size w w' := by
  have hu30 := Try.underlying30
  have hu34 := Try.underlying34
  have hu55 := Try.underlying55
  have hu41 := Try.underlying41
  have HB := Aside0.mk (Below.refl w.heap.size w)
  have H : ((erasure_Check.f a0_0 a0_1).bind fun t203 => (if t203 = 0 then ((seal_Seal.f a1 a2).bind fun bt204 => (if bt204.2.2 = 0 then ((seal_Encode.f bt204.1 bt204.2.1).bind fun bt208 => (if bt208.2 = 0 then ((erasure_Encode.f k a0_0 a0_1 bt208.1).bind fun bt210 => (if bt210.2 = 0 then (stripe_Make.l0 k bt210.1 bt210.1 (bt210.1.length : Int) 0 a0_0 a0_1 (bt208.1.size : Int) ([] : List Int)) else (none))) else (none))) else (none))) else (none))) = some (r1, r2, r3, r4, r5, r6) := h
  clear h
  replace H := Option.bind_eq_some_iff.mp H
  obtain ⟨t203, A40, H⟩ := H
  replace H : (if t203 = 0 then ((seal_Seal.f a1 a2).bind fun bt204 => (if bt204.2.2 = 0 then ((seal_Encode.f bt204.1 bt204.2.1).bind fun bt208 => (if bt208.2 = 0 then ((erasure_Encode.f k a0_0 a0_1 bt208.1).bind fun bt210 => (if bt210.2 = 0 then (stripe_Make.l0 k bt210.1 bt210.1 (bt210.1.length : Int) 0 a0_0 a0_1 (bt208.1.size : Int) ([] : List Int)) else (none))) else (none))) else (none))) else (none)) = some (r1, r2, r3, r4, r5, r6) := H
  have A4 := Aside0.mk A40
  clear A40
  by_cases c5 : t203 = 0
  · rw [if_pos c5] at H
    have c5b0 : (t203 == 0) = true := beq_iff_eq.mpr c5
    have c5b1 : (t203 != 0) = false := bne_eq_false_iff_eq.mpr c5
    clear c5
    replace H := Option.bind_eq_some_iff.mp H
    obtain ⟨⟨t204, t205, t206⟩, A60, H⟩ := H
    replace H : (if t206 = 0 then ((seal_Encode.f t204 t205).bind fun bt208 => (if bt208.2 = 0 then ((erasure_Encode.f k a0_0 a0_1 bt208.1).bind fun bt210 => (if bt210.2 = 0 then (stripe_Make.l0 k bt210.1 bt210.1 (bt210.1.length : Int) 0 a0_0 a0_1 (bt208.1.size : Int) ([] : List Int)) else (none))) else (none))) else (none)) = some (r1, r2, r3, r4, r5, r6) := H
    have A6 := Aside0.mk A60
    clear A60
    by_cases c7 : t206 = 0
    · rw [if_pos c7] at H
      have c7b0 : (t206 == 0) = true := beq_iff_eq.mpr c7
      have c7b1 : (t206 != 0) = false := bne_eq_false_iff_eq.mpr c7
      clear c7
      replace H := Option.bind_eq_some_iff.mp H
      obtain ⟨⟨t208, t209⟩, A80, H⟩ := H
      replace H : (if t209 = 0 then ((erasure_Encode.f k a0_0 a0_1 t208).bind fun bt210 => (if bt210.2 = 0 then (stripe_Make.l0 k bt210.1 bt210.1 (bt210.1.length : Int) 0 a0_0 a0_1 (t208.size : Int) ([] : List Int)) else (none))) else (none)) = some (r1, r2, r3, r4, r5, r6) := H
      have A8 := Aside0.mk A80
      clear A80
      by_cases c9 : t209 = 0
      · rw [if_pos c9] at H
        have c9b0 : (t209 == 0) = true := beq_iff_eq.mpr c9
        have c9b1 : (t209 != 0) = false := bne_eq_false_iff_eq.mpr c9
        clear c9
        replace H := Option.bind_eq_some_iff.mp H
        obtain ⟨⟨t210, t213⟩, A100, H⟩ := H
        replace H : (if t213 = 0 then (stripe_Make.l0 k t210 t210 (t210.length : Int) 0 a0_0 a0_1 (t208.size : Int) ([] : List Int)) else (none)) = some (r1, r2, r3, r4, r5, r6) := H
        have A10 := Aside0.mk A100
        clear A100
        by_cases c11 : t213 = 0
        · rw [if_pos c11] at H
          have c11b0 : (t213 == 0) = true := beq_iff_eq.mpr c11
          have c11b1 : (t213 != 0) = false := bne_eq_false_iff_eq.mpr c11
          clear c11
          have H' := Aside0.mk H
          clear H
          go_enter Try.func12, Try.ntmps12
          go_wp2_with (first | ((with_reducible refine gate_dst (N := 3) rfl ?_); refine box_event ?hg (N := 3) ?hd (cs := #[.int .i64 a0_0, .int .i64 a0_1]) (t := 30) ?hr ?_; (case hd => rfl); (case hg => rfl); (case hr => (go_simp; done)); intro gb201 hg w12 hbox hb; have n0_ := Aside0.mk (below_step HB.out hb); have n1_ := Aside0.mk (hbox); have n2_ := Aside0.mk ((by rw [hg]; exact (below_size HB.out) : w.heap.size ≤ gb201)); have n3_ := Aside0.mk ((by rw [hg]; exact (below_size HB.out) : w.heap.size ≤ gb201)); clear HB; have HB := n0_; have BK201 := n1_; have GW201 := n2_; have GE201 := n3_; clear n0_ n1_ n2_ n3_; clear hb hbox hg) | ((with_reducible refine gate_dst (N := 6) rfl ?_); refine box_event ?hg (N := 6) ?hd (cs := #[.int .i64 0, .int .i64 0, .int .i64 0, .slice none 0 0]) (t := 34) ?hr ?_; (case hd => rfl); (case hg => rfl); (case hr => (go_simp; done)); intro gb202 hg w13 hbox hb; have n0_ := Aside0.mk (blk_below (g := gb201) (o := .cells #[.int .i64 a0_0, .int .i64 a0_1] 30 (0, 0)) (by exact BK201.out) hb); have n1_ := Aside0.mk (below_step HB.out hb); have n2_ := Aside0.mk (hbox); have n3_ := Aside0.mk ((by rw [hg]; exact (below_size HB.out) : w.heap.size ≤ gb202)); have n4_ := Aside0.mk ((by rw [hg]; exact (below_size HB.out) : w.heap.size ≤ gb202)); have n5_ := Aside0.mk ((by rw [hg]; exact Nat.ne_of_lt (blk_lt (g := gb201) (o := .cells #[.int .i64 a0_0, .int .i64 a0_1] 30 (0, 0)) (by exact BK201.out)) : gb201 ≠ gb202)); have n6_ := Aside0.mk ((by rw [hg]; exact Nat.ne_of_gt (blk_lt (g := gb201) (o := .cells #[.int .i64 a0_0, .int .i64 a0_1] 30 (0, 0)) (by exact BK201.out)) : gb202 ≠ gb201)); clear BK201 HB; have BK201 := n0_; have HB := n1_; have BK202 := n2_; have GW202 := n3_; have GE202 := n4_; have NB201_202 := n5_; have NB202_201 := n6_; clear n0_ n1_ n2_ n3_ n4_ n5_ n6_; clear hb hbox hg; have hnb14 := NB201_202.out; have hnc14 := NB202_201.out; have hcz15_0 : w13.cell? ⟨gb201, 0, none⟩ = some (.int .i64 a0_0) := (blk_cell BK201.out 0).trans rfl; have hcz15_1 : w13.cell? ⟨gb201, 1, none⟩ = some (.int .i64 a0_1) := (blk_cell BK201.out 1).trans rfl; have hfz15_0 := blk_frozen BK201.out 0; have hfz15_1 := blk_frozen BK201.out 1) | ((with_reducible refine gate_callee (f := 19) rfl ?_); refine goesL_ (some 18) rfl rfl Try.func19 (by kernel_rfl) rfl #[.agg #[.int .i64 a0_0, .int .i64 a0_1]] rfl (by ((simp only [List.map_toArray, List.map_cons, List.map_nil])); (rfl)) ?_; (with_reducible refine (erasure_Check.calls a0_0 a0_1 t203 _ A4.out).mono ?_); rintro e w16 ⟨rfl, hb⟩; refine ⟨_, rfl, ?_⟩; have n0_ := Aside0.mk (blk_below (g := gb201) (o := .cells #[.int .i64 a0_0, .int .i64 a0_1] 30 (0, 0)) (by exact BK201.out) hb); have n1_ := Aside0.mk (blk_below (g := gb202) (o := .cells #[.int .i64 0, .int .i64 0, .int .i64 0, .slice none 0 0] 34 (0, 0)) (by exact BK202.out) hb); have n2_ := Aside0.mk (below_step HB.out hb); clear BK201 BK202 HB; have BK201 := n0_; have BK202 := n1_; have HB := n2_; clear n0_ n1_ n2_; clear hb) | ((with_reducible refine gate_callee (f := 20) rfl ?_); refine goesL_ (some 26) rfl rfl Try.func20 (by kernel_rfl) rfl #[.string a1, .int .i64 a2] rfl (by ((simp only [List.map_toArray, List.map_cons, List.map_nil])); (rfl)) ?_; (with_reducible refine (seal_Seal.calls a1 a2 t204 t205 t206 _ A6.out).mono ?_); rintro e w17 ⟨rfl, hb⟩; refine ⟨_, rfl, ?_⟩; have n0_ := Aside0.mk (blk_below (g := gb201) (o := .cells #[.int .i64 a0_0, .int .i64 a0_1] 30 (0, 0)) (by exact BK201.out) hb); have n1_ := Aside0.mk (blk_below (g := gb202) (o := .cells #[.int .i64 0, .int .i64 0, .int .i64 0, .slice none 0 0] 34 (0, 0)) (by exact BK202.out) hb); have n2_ := Aside0.mk (below_step HB.out hb); clear BK201 BK202 HB; have BK201 := n0_; have BK202 := n1_; have HB := n2_; clear n0_ n1_ n2_; clear hb) | ((with_reducible refine gate_dst (N := 10) rfl ?_); refine box_event ?hg (N := 10) ?hd (cs := #[.int .i64 0, .string (⟨#[]⟩ : ByteArray)]) (t := 55) ?hr ?_; (case hd => rfl); (case hg => rfl); (case hr => (go_simp; done)); intro gb207 hg w18 hbox hb; have n0_ := Aside0.mk (blk_below (g := gb201) (o := .cells #[.int .i64 a0_0, .int .i64 a0_1] 30 (0, 0)) (by exact BK201.out) hb); have n1_ := Aside0.mk (blk_below (g := gb202) (o := .cells #[.int .i64 0, .int .i64 0, .int .i64 0, .slice none 0 0] 34 (0, 0)) (by exact BK202.out) hb); have n2_ := Aside0.mk (below_step HB.out hb); have n3_ := Aside0.mk (hbox); have n4_ := Aside0.mk ((by rw [hg]; exact (below_size HB.out) : w.heap.size ≤ gb207)); have n5_ := Aside0.mk ((by rw [hg]; exact (below_size HB.out) : w.heap.size ≤ gb207)); have n6_ := Aside0.mk ((by rw [hg]; exact Nat.ne_of_lt (blk_lt (g := gb201) (o := .cells #[.int .i64 a0_0, .int .i64 a0_1] 30 (0, 0)) (by exact BK201.out)) : gb201 ≠ gb207)); have n7_ := Aside0.mk ((by rw [hg]; exact Nat.ne_of_gt (blk_lt (g := gb201) (o := .cells #[.int .i64 a0_0, .int .i64 a0_1] 30 (0, 0)) (by exact BK201.out)) : gb207 ≠ gb201)); have n8_ := Aside0.mk ((by rw [hg]; exact Nat.ne_of_lt (blk_lt (g := gb202) (o := .cells #[.int .i64 0, .int .i64 0, .int .i64 0, .slice none 0 0] 34 (0, 0)) (by exact BK202.out)) : gb202 ≠ gb207)); have n9_ := Aside0.mk ((by rw [hg]; exact Nat.ne_of_gt (blk_lt (g := gb202) (o := .cells #[.int .i64 0, .int .i64 0, .int .i64 0, .slice none 0 0] 34 (0, 0)) (by exact BK202.out)) : gb207 ≠ gb202)); clear BK201 BK202 HB; have BK201 := n0_; have BK202 := n1_; have HB := n2_; have BK207 := n3_; have GW207 := n4_; have GE207 := n5_; have NB201_207 := n6_; have NB207_201 := n7_; have NB202_207 := n8_; have NB207_202 := n9_; clear n0_ n1_ n2_ n3_ n4_ n5_ n6_ n7_ n8_ n9_; clear hb hbox hg; have hnb19 := NB207_201.out; have hnc19 := NB201_207.out; have hnb20 := NB207_202.out; have hnc20 := NB202_207.out; have hcz21_0 : w18.cell? ⟨gb207, 0, none⟩ = some (.int .i64 0) := (blk_cell BK207.out 0).trans rfl; have hcz21_1 : w18.cell? ⟨gb207, 1, none⟩ = some (.string (⟨#[]⟩ : ByteArray)) := (blk_cell BK207.out 1).trans rfl; have hfz21_0 := blk_frozen BK207.out 0; have hfz21_1 := blk_frozen BK207.out 1) | ((with_reducible refine gate_callee (f := 21) rfl ?_); refine goesL_ (some 35) rfl rfl Try.func21 (by kernel_rfl) rfl #[.agg #[.int .i64 t204, .string t205]] rfl (by ((simp only [List.map_toArray, List.map_cons, List.map_nil])); (rfl)) ?_; (with_reducible refine (seal_Encode.calls t204 t205 t208 t209 _ A8.out).mono ?_); rintro e w22 ⟨rfl, hb⟩; refine ⟨_, rfl, ?_⟩; have n0_ := Aside0.mk (blk_below (g := gb201) (o := .cells #[.int .i64 a0_0, .int .i64 a0_1] 30 (0, 0)) (by refine blk_far ?_ NB201_207.out _; refine blk_far ?_ NB201_207.out _; exact BK201.out) hb); have n1_ := Aside0.mk (blk_below (g := gb202) (o := .cells #[.int .i64 0, .int .i64 0, .int .i64 0, .slice none 0 0] 34 (0, 0)) (by refine blk_far ?_ NB202_207.out _; refine blk_far ?_ NB202_207.out _; exact BK202.out) hb); have n2_ := Aside0.mk (blk_below (g := gb207) (o := .cells #[.int .i64 t204, .string t205] 55 (0, 0)) (by refine blk_put (cs := #[.int .i64 t204, .string (⟨#[]⟩ : ByteArray)]) ?_ 1 _ rfl; refine blk_put (cs := #[.int .i64 0, .string (⟨#[]⟩ : ByteArray)]) ?_ 0 _ rfl; exact BK207.out) hb); have n3_ := Aside0.mk (below_step (by repeat ((with_reducible first | exact HB.out | refine below_set ?_ GE207.out))) hb); clear BK201 BK202 BK207 HB; have BK201 := n0_; have BK202 := n1_; have BK207 := n2_; have HB := n3_; clear n0_ n1_ n2_ n3_; clear hb; have hcz23_0 : w22.cell? ⟨gb201, 0, none⟩ = some (.int .i64 a0_0) := (blk_cell BK201.out 0).trans rfl; have hcz23_1 : w22.cell? ⟨gb201, 1, none⟩ = some (.int .i64 a0_1) := (blk_cell BK201.out 1).trans rfl; have hfz23_0 := blk_frozen BK201.out 0; have hfz23_1 := blk_frozen BK201.out 1) | ((with_reducible refine gate_callee (f := 22) rfl ?_); refine goesL_ (some 45) rfl rfl Try.func22 (by kernel_rfl) rfl #[.agg #[.int .i64 a0_0, .int .i64 a0_1], .string t208] rfl (by ((simp only [List.map_toArray, List.map_cons, List.map_nil])); (rfl)) ?_; (with_reducible refine (erasure_Encode.calls k a0_0 a0_1 t208 t210 t213 _ A10.out).mono ?_); rintro e w24 ⟨v211, rfl, ho0, hb⟩; refine ⟨_, rfl, ?_⟩; have n0_ := Aside0.mk (Kd.R_lower ho0 (below_size HB.out)); have n1_ := Aside0.mk (blk_below (g := gb201) (o := .cells #[.int .i64 a0_0, .int .i64 a0_1] 30 (0, 0)) (by exact BK201.out) hb); have n2_ := Aside0.mk (blk_below (g := gb202) (o := .cells #[.int .i64 0, .int .i64 0, .int .i64 0, .slice none 0 0] 34 (0, 0)) (by exact BK202.out) hb); have n3_ := Aside0.mk (blk_below (g := gb207) (o := .cells #[.int .i64 t204, .string t205] 55 (0, 0)) (by exact BK207.out) hb); have n4_ := Aside0.mk (below_step HB.out hb); clear BK201 BK202 BK207 HB; have HO212 := n0_; have BK201 := n1_; have BK202 := n2_; have BK207 := n3_; have HB := n4_; clear n0_ n1_ n2_ n3_ n4_; clear hb; clear ho0; have hcz25_0 : w24.cell? ⟨gb201, 0, none⟩ = some (.int .i64 a0_0) := (blk_cell BK201.out 0).trans rfl; have hcz25_1 : w24.cell? ⟨gb201, 1, none⟩ = some (.int .i64 a0_1) := (blk_cell BK201.out 1).trans rfl; have hfz25_0 := blk_frozen BK201.out 0; have hfz25_1 := blk_frozen BK201.out 1) | ((with_reducible refine gate_dst (N := 14) rfl ?_); refine box_event ?hg (N := 14) ?hd (cs := #[.int .i64 0, .int .i64 0, .int .i64 0, .slice none 0 0]) (t := 34) ?hr ?_; (case hd => rfl); (case hg => rfl); (case hr => (go_simp; done)); intro gb214 hg w26 hbox hb; have n0_ := Aside0.mk (Kd.R_below (by exact HO212.out) hb); have n1_ := Aside0.mk (blk_below (g := gb201) (o := .cells #[.int .i64 a0_0, .int .i64 a0_1] 30 (0, 0)) (by exact BK201.out) hb); have n2_ := Aside0.mk (blk_below (g := gb202) (o := .cells #[.int .i64 0, .int .i64 0, .int .i64 0, .slice none 0 0] 34 (0, 0)) (by exact BK202.out) hb); have n3_ := Aside0.mk (blk_below (g := gb207) (o := .cells #[.int .i64 t204, .string t205] 55 (0, 0)) (by exact BK207.out) hb); have n4_ := Aside0.mk (below_step HB.out hb); have n5_ := Aside0.mk (hbox); have n6_ := Aside0.mk ((by rw [hg]; exact (below_size HB.out) : w.heap.size ≤ gb214)); have n7_ := Aside0.mk ((by rw [hg]; exact (below_size HB.out) : w.heap.size ≤ gb214)); have n8_ := Aside0.mk ((by rw [hg]; exact Nat.ne_of_lt (blk_lt (g := gb201) (o := .cells #[.int .i64 a0_0, .int .i64 a0_1] 30 (0, 0)) (by exact BK201.out)) : gb201 ≠ gb214)); have n9_ := Aside0.mk ((by rw [hg]; exact Nat.ne_of_gt (blk_lt (g := gb201) (o := .cells #[.int .i64 a0_0, .int .i64 a0_1] 30 (0, 0)) (by exact BK201.out)) : gb214 ≠ gb201)); have n10_ := Aside0.mk ((by rw [hg]; exact Nat.ne_of_lt (blk_lt (g := gb202) (o := .cells #[.int .i64 0, .int .i64 0, .int .i64 0, .slice none 0 0] 34 (0, 0)) (by exact BK202.out)) : gb202 ≠ gb214)); have n11_ := Aside0.mk ((by rw [hg]; exact Nat.ne_of_gt (blk_lt (g := gb202) (o := .cells #[.int .i64 0, .int .i64 0, .int .i64 0, .slice none 0 0] 34 (0, 0)) (by exact BK202.out)) : gb214 ≠ gb202)); have n12_ := Aside0.mk ((by rw [hg]; exact Nat.ne_of_lt (blk_lt (g := gb207) (o := .cells #[.int .i64 t204, .string t205] 55 (0, 0)) (by exact BK207.out)) : gb207 ≠ gb214)); have n13_ := Aside0.mk ((by rw [hg]; exact Nat.ne_of_gt (blk_lt (g := gb207) (o := .cells #[.int .i64 t204, .string t205] 55 (0, 0)) (by exact BK207.out)) : gb214 ≠ gb207)); clear HO212 BK201 BK202 BK207 HB; have HO212 := n0_; have BK201 := n1_; have BK202 := n2_; have BK207 := n3_; have HB := n4_; have BK214 := n5_; have GW214 := n6_; have GE214 := n7_; have NB201_214 := n8_; have NB214_201 := n9_; have NB202_214 := n10_; have NB214_202 := n11_; have NB207_214 := n12_; have NB214_207 := n13_; clear n0_ n1_ n2_ n3_ n4_ n5_ n6_ n7_ n8_ n9_ n10_ n11_ n12_ n13_; clear hb hbox hg; have hnb27 := NB214_201.out; have hnc27 := NB201_214.out; have hnb28 := NB214_202.out; have hnc28 := NB202_214.out; have hnb29 := NB214_207.out; have hnc29 := NB207_214.out; have hcz30_0 : w26.cell? ⟨gb214, 0, none⟩ = some (.int .i64 0) := (blk_cell BK214.out 0).trans rfl; have hcz30_1 : w26.cell? ⟨gb214, 1, none⟩ = some (.int .i64 0) := (blk_cell BK214.out 1).trans rfl; have hcz30_2 : w26.cell? ⟨gb214, 2, none⟩ = some (.int .i64 0) := (blk_cell BK214.out 2).trans rfl; have hcz30_3 : w26.cell? ⟨gb214, 3, none⟩ = some (.slice none 0 0) := (blk_cell BK214.out 3).trans rfl; have hfz30_0 := blk_frozen BK214.out 0; have hfz30_1 := blk_frozen BK214.out 1; have hfz30_2 := blk_frozen BK214.out 2; have hfz30_3 := blk_frozen BK214.out 3; obtain ⟨Ao31, co31, eo31⟩ := Kd.R_slice HO212.out; subst eo31))
          go_loopg [58] k (fun kq v58 w' => ∃ (x58_1 : Int) (x215003_1 : List Int) (u215003 : Value), v58 = .int .i64 x58_1 ∧ Aside0 (stripe_Make.l0 kq t210 t210 (t210.length : Int) x58_1 a0_0 a0_1 (t208.size : Int) x215003_1 = some (r1, r2, r3, r4, r5, r6)) ∧ Aside0 (kq ≤ k) ∧ Aside0 (Kd.R k41 41 w' w.heap.size (fun _ => True) (.slice Ao31 t210.length co31) t210) ∧ Aside0 (Kd.R k41 41 w' w.heap.size (fun _ => True) (.slice Ao31 t210.length co31) t210) ∧ Aside0 (Kd.R (Kd.int .i64) 3 w' w.heap.size (fun _ => True) u215003 x215003_1) ∧ Aside0 (w'.heap[gb201]? = some (.cells #[.int .i64 a0_0, .int .i64 a0_1] 30 (0, 0))) ∧ Aside0 (w'.heap[gb202]? = some (.cells #[.int .i64 0, .int .i64 0, .int .i64 0, (.slice none 0 0)] 34 (0, 0))) ∧ Aside0 (w'.heap[gb207]? = some (.cells #[.int .i64 t204, .string t205] 55 (0, 0))) ∧ Aside0 (w'.heap[gb214]? = some (.cells #[.int .i64 a0_0, .int .i64 a0_1, .int .i64 (t208.size : Int), u215003] 34 (0, 0))) ∧ Aside0 (Below w.heap.size w w'))
          case atStart => exact ⟨(0), (([] : List Int)), (.slice none 0 0), (by (rfl)), H', ⟨Nat.le_refl _⟩, ⟨by exact Kd.R_mono (Kd.R_far (p := ⟨gb214, 3, none⟩) (Kd.R_far (p := ⟨gb214, 2, none⟩) (Kd.R_far (p := ⟨gb214, 1, none⟩) (Kd.R_far (p := ⟨gb214, 0, none⟩) (Kd.R_types HO212.out BK214.out (by decide)) (fun _ hk => hk.2) (.int .i64 a0_0)) (fun _ hk => hk.2) (.int .i64 a0_1)) (fun _ hk => hk.2) (.int .i64 (t208.size : Int))) (fun _ hk => hk.2) (.slice none 0 0)) (fun _ hk => trivial)⟩, ⟨by exact Kd.R_mono (Kd.R_far (p := ⟨gb214, 3, none⟩) (Kd.R_far (p := ⟨gb214, 2, none⟩) (Kd.R_far (p := ⟨gb214, 1, none⟩) (Kd.R_far (p := ⟨gb214, 0, none⟩) (Kd.R_types HO212.out BK214.out (by decide)) (fun _ hk => hk.2) (.int .i64 a0_0)) (fun _ hk => hk.2) (.int .i64 a0_1)) (fun _ hk => hk.2) (.int .i64 (t208.size : Int))) (fun _ hk => hk.2) (.slice none 0 0)) (fun _ hk => trivial)⟩, ⟨by (exact Kd.R_nil _ _ _ _ _)⟩, ⟨by refine blk_far ?_ NB201_214.out _; refine blk_far ?_ NB201_214.out _; refine blk_far ?_ NB201_214.out _; refine blk_far ?_ NB201_214.out _; exact BK201.out⟩, ⟨by refine blk_far ?_ NB202_214.out _; refine blk_far ?_ NB202_214.out _; refine blk_far ?_ NB202_214.out _; refine blk_far ?_ NB202_214.out _; exact BK202.out⟩, ⟨by refine blk_far ?_ NB207_214.out _; refine blk_far ?_ NB207_214.out _; refine blk_far ?_ NB207_214.out _; refine blk_far ?_ NB207_214.out _; exact BK207.out⟩, ⟨by refine blk_put (cs := #[.int .i64 a0_0, .int .i64 a0_1, .int .i64 (t208.size : Int), .slice none 0 0]) ?_ 3 _ rfl; refine blk_put (cs := #[.int .i64 a0_0, .int .i64 a0_1, .int .i64 0, .slice none 0 0]) ?_ 2 _ rfl; refine blk_put (cs := #[.int .i64 a0_0, .int .i64 0, .int .i64 0, .slice none 0 0]) ?_ 1 _ rfl; refine blk_put (cs := #[.int .i64 0, .int .i64 0, .int .i64 0, .slice none 0 0]) ?_ 0 _ rfl; exact BK214.out⟩, ⟨by repeat ((with_reducible first | exact HB.out | refine below_set ?_ GE214.out))⟩⟩
          case round =>
            clear H'
            clear c5b0 c5b1 c7b0 c7b1 c9b0 c9b1 c11b0 c11b1 hcz15_0 hcz15_1 hcz21_0 hcz21_1 hcz23_0 hcz23_1 hcz25_0 hcz25_1 hcz30_0 hcz30_1 hcz30_2 hcz30_3 hfz15_0 hfz15_1 hfz21_0 hfz21_1 hfz23_0 hfz23_1 hfz25_0 hfz25_1 hfz30_0 hfz30_1 hfz30_2 hfz30_3
            obtain ⟨x58_1, x215003_1, u215003, rfl, HA, HK1, HO_13, HO_56, HO_215003, BK201, BK202, BK207, BK214, HB⟩ := hrel
            cases gk with
            | zero => exact absurd HA.out (by simp [stripe_Make.l0])
            | succ k1 =>
              have H := HA.out
              clear HA
              simp only [stripe_Make.l0] at H
              by_cases c32 : x58_1 < (t210.length : Int)
              · rw [if_pos c32] at H
                have c32b0 : decide (x58_1 < (t210.length : Int)) = true := decide_eq_true c32
                clear c32
                by_cases c33 : 0 ≤ x58_1
                · rw [if_pos c33] at H
                  have c33b0 : decide (0 ≤ x58_1) = true := decide_eq_true c33
                  clear c33
                  by_cases c34 : x58_1 < (t210.length : Int)
                  · rw [if_pos c34] at H
                    have c34b0 : decide (x58_1 < (t210.length : Int)) = true := decide_eq_true c34
                    clear c34
                    replace H := Option.bind_eq_some_iff.mp H
                    obtain ⟨t217, A350, H⟩ := H
                    replace H : (if x215003_1.length < 17592186044416 then (stripe_Make.l0 k1 t210 t210 (t210.length : Int) (wrap64 (x58_1 + 1)) a0_0 a0_1 (t208.size : Int) (x215003_1 ++ [t217])) else (none)) = some (r1, r2, r3, r4, r5, r6) := H
                    have A35 := Aside0.mk A350
                    clear A350
                    by_cases c36 : x215003_1.length < 17592186044416
                    · rw [if_pos c36] at H
                      have LMc36 := Aside0.mk c36
                      clear c36
                      obtain ⟨y218, hy218⟩ : ∃ y_ : List Int, y_ = (x215003_1 ++ [t217]) := ⟨_, rfl⟩
                      replace H : (stripe_Make.l0 k1 t210 t210 (t210.length : Int) (wrap64 (x58_1 + 1)) a0_0 a0_1 (t208.size : Int) y218) = some (r1, r2, r3, r4, r5, r6) := by (rw [hy218]; with_reducible exact H)
                      have Ny218 := Aside0.mk hy218
                      clear hy218
                      have H' := Aside0.mk H
                      clear H
                      have p215 : 0 ≤ (x58_1 : Int) := of_decide_eq_true (by (with_reducible assumption))
                      have q215 : x58_1 < (t210.length : Int) := of_decide_eq_true (by (with_reducible assumption))
                      obtain ⟨ad215, e215, hx215_0, hx215_1⟩ := at_T41 (Kd.R_reads' HO_56.out).2.2 x58_1 p215 q215
                      cases e215
                      replace p215 := eq_true p215
                      replace q215 := eq_true q215
                      (go_wp2_with (((with_reducible refine gate_dst (N := 16) rfl ?_); refine box_event ?hg (N := 16) ?hd (cs := #[.int .i64 0, .string (⟨#[]⟩ : ByteArray)]) (t := 41) ?hr ?_; (case hd => rfl); (case hg => rfl); (case hr => (go_simp; done)); intro gb216 hg w37 hbox hb; have n0_ := Aside0.mk (Kd.R_below (Kd.R_elderB (by exact HO_13.out) gb216 (Nat.le_of_eq hg.symm)) hb); have n1_ := Aside0.mk (Kd.R_below (Kd.R_elderB (by exact HO_56.out) gb216 (Nat.le_of_eq hg.symm)) hb); have n2_ := Aside0.mk (Kd.R_below (by exact HO_215003.out) hb); have n3_ := Aside0.mk (blk_below (g := gb201) (o := .cells #[.int .i64 a0_0, .int .i64 a0_1] 30 (0, 0)) (by exact BK201.out) hb); have n4_ := Aside0.mk (blk_below (g := gb202) (o := .cells #[.int .i64 0, .int .i64 0, .int .i64 0, .slice none 0 0] 34 (0, 0)) (by exact BK202.out) hb); have n5_ := Aside0.mk (blk_below (g := gb207) (o := .cells #[.int .i64 t204, .string t205] 55 (0, 0)) (by exact BK207.out) hb); have n6_ := Aside0.mk (blk_below (g := gb214) (o := .cells #[.int .i64 a0_0, .int .i64 a0_1, .int .i64 (t208.size : Int), u215003] 34 (0, 0)) (by exact BK214.out) hb); have n7_ := Aside0.mk (below_step HB.out hb); have n8_ := Aside0.mk (hbox); have n9_ := Aside0.mk ((by rw [hg]; exact (below_size HB.out) : w.heap.size ≤ gb216)); have n10_ := Aside0.mk ((by rw [hg]; exact (below_size HB.out) : w.heap.size ≤ gb216)); have n11_ := Aside0.mk ((by rw [hg]; exact Nat.ne_of_lt (blk_lt (g := gb201) (o := .cells #[.int .i64 a0_0, .int .i64 a0_1] 30 (0, 0)) (by exact BK201.out)) : gb201 ≠ gb216)); have n12_ := Aside0.mk ((by rw [hg]; exact Nat.ne_of_gt (blk_lt (g := gb201) (o := .cells #[.int .i64 a0_0, .int .i64 a0_1] 30 (0, 0)) (by exact BK201.out)) : gb216 ≠ gb201)); have n13_ := Aside0.mk ((by rw [hg]; exact Nat.ne_of_lt (blk_lt (g := gb202) (o := .cells #[.int .i64 0, .int .i64 0, .int .i64 0, .slice none 0 0] 34 (0, 0)) (by exact BK202.out)) : gb202 ≠ gb216)); have n14_ := Aside0.mk ((by rw [hg]; exact Nat.ne_of_gt (blk_lt (g := gb202) (o := .cells #[.int .i64 0, .int .i64 0, .int .i64 0, .slice none 0 0] 34 (0, 0)) (by exact BK202.out)) : gb216 ≠ gb202)); have n15_ := Aside0.mk ((by rw [hg]; exact Nat.ne_of_lt (blk_lt (g := gb207) (o := .cells #[.int .i64 t204, .string t205] 55 (0, 0)) (by exact BK207.out)) : gb207 ≠ gb216)); have n16_ := Aside0.mk ((by rw [hg]; exact Nat.ne_of_gt (blk_lt (g := gb207) (o := .cells #[.int .i64 t204, .string t205] 55 (0, 0)) (by exact BK207.out)) : gb216 ≠ gb207)); have n17_ := Aside0.mk ((by rw [hg]; exact Nat.ne_of_lt (blk_lt (g := gb214) (o := .cells #[.int .i64 a0_0, .int .i64 a0_1, .int .i64 (t208.size : Int), u215003] 34 (0, 0)) (by exact BK214.out)) : gb214 ≠ gb216)); have n18_ := Aside0.mk ((by rw [hg]; exact Nat.ne_of_gt (blk_lt (g := gb214) (o := .cells #[.int .i64 a0_0, .int .i64 a0_1, .int .i64 (t208.size : Int), u215003] 34 (0, 0)) (by exact BK214.out)) : gb216 ≠ gb214)); clear HO_13 HO_56 HO_215003 BK201 BK202 BK207 BK214 HB; have HO_13 := n0_; have HO_56 := n1_; have HO_215003 := n2_; have BK201 := n3_; have BK202 := n4_; have BK207 := n5_; have BK214 := n6_; have HB := n7_; have BK216 := n8_; have GW216 := n9_; have GE216 := n10_; have NB201_216 := n11_; have NB216_201 := n12_; have NB202_216 := n13_; have NB216_202 := n14_; have NB207_216 := n15_; have NB216_207 := n16_; have NB214_216 := n17_; have NB216_214 := n18_; clear n0_ n1_ n2_ n3_ n4_ n5_ n6_ n7_ n8_ n9_ n10_ n11_ n12_ n13_ n14_ n15_ n16_ n17_ n18_; clear hb hbox hg; have hnb38 := NB216_201.out; have hnc38 := NB201_216.out; have hnb39 := NB216_202.out; have hnc39 := NB202_216.out; have hnb40 := NB216_207.out; have hnc40 := NB207_216.out; have hnb41 := NB216_214.out; have hnc41 := NB214_216.out; have hcz42_0 : w37.cell? ⟨gb216, 0, none⟩ = some (.int .i64 0) := (blk_cell BK216.out 0).trans rfl; have hcz42_1 : w37.cell? ⟨gb216, 1, none⟩ = some (.string (⟨#[]⟩ : ByteArray)) := (blk_cell BK216.out 1).trans rfl; have hfz42_0 := blk_frozen BK216.out 0; have hfz42_1 := blk_frozen BK216.out 1)))
                      have n0_ : Aside0 (Kd.R k41 41 ((w37.setCell ⟨gb216, 0, none⟩ (.int .i64 ((rd_T41 t210 x58_1).f0))).setCell ⟨gb216, 1, none⟩ (.string ((rd_T41 t210 x58_1).f1))) w.heap.size (fun k_ => k_ ≠ gb216) (.slice (some ad215) t210.length co31) t210) := ⟨by exact Kd.R_mono (Kd.R_far (p := ⟨gb216, 1, none⟩) (Kd.R_far (p := ⟨gb216, 0, none⟩) (Kd.R_mono HO_13.out (fun k_ hk => (⟨hk, hk.2⟩ : _ ∧ k_ ≠ gb216))) (fun _ hk => hk.2) (.int .i64 ((rd_T41 t210 x58_1).f0))) (fun _ hk => hk.2) (.string ((rd_T41 t210 x58_1).f1))) (fun _ hk => hk.1.2)⟩
                      have n1_ : Aside0 (Kd.R k41 41 ((w37.setCell ⟨gb216, 0, none⟩ (.int .i64 ((rd_T41 t210 x58_1).f0))).setCell ⟨gb216, 1, none⟩ (.string ((rd_T41 t210 x58_1).f1))) w.heap.size (fun k_ => k_ ≠ gb216) (.slice (some ad215) t210.length co31) t210) := ⟨by exact Kd.R_mono (Kd.R_far (p := ⟨gb216, 1, none⟩) (Kd.R_far (p := ⟨gb216, 0, none⟩) (Kd.R_mono HO_56.out (fun k_ hk => (⟨hk, hk.2⟩ : _ ∧ k_ ≠ gb216))) (fun _ hk => hk.2) (.int .i64 ((rd_T41 t210 x58_1).f0))) (fun _ hk => hk.2) (.string ((rd_T41 t210 x58_1).f1))) (fun _ hk => hk.1.2)⟩
                      have n2_ : Aside0 (Kd.R (Kd.int .i64) 3 ((w37.setCell ⟨gb216, 0, none⟩ (.int .i64 ((rd_T41 t210 x58_1).f0))).setCell ⟨gb216, 1, none⟩ (.string ((rd_T41 t210 x58_1).f1))) w.heap.size (fun _ => True) u215003 x215003_1) := ⟨by exact Kd.R_mono (Kd.R_far (p := ⟨gb216, 1, none⟩) (Kd.R_far (p := ⟨gb216, 0, none⟩) (Kd.R_types HO_215003.out BK216.out (by decide)) (fun _ hk => hk.2) (.int .i64 ((rd_T41 t210 x58_1).f0))) (fun _ hk => hk.2) (.string ((rd_T41 t210 x58_1).f1))) (fun _ hk => trivial)⟩
                      have n3_ : Aside0 (((w37.setCell ⟨gb216, 0, none⟩ (.int .i64 ((rd_T41 t210 x58_1).f0))).setCell ⟨gb216, 1, none⟩ (.string ((rd_T41 t210 x58_1).f1))).heap[gb201]? = some (.cells #[.int .i64 a0_0, .int .i64 a0_1] 30 (0, 0))) := ⟨by refine blk_far ?_ NB201_216.out _; refine blk_far ?_ NB201_216.out _; exact BK201.out⟩
                      have n4_ : Aside0 (((w37.setCell ⟨gb216, 0, none⟩ (.int .i64 ((rd_T41 t210 x58_1).f0))).setCell ⟨gb216, 1, none⟩ (.string ((rd_T41 t210 x58_1).f1))).heap[gb202]? = some (.cells #[.int .i64 0, .int .i64 0, .int .i64 0, .slice none 0 0] 34 (0, 0))) := ⟨by refine blk_far ?_ NB202_216.out _; refine blk_far ?_ NB202_216.out _; exact BK202.out⟩
                      have n5_ : Aside0 (((w37.setCell ⟨gb216, 0, none⟩ (.int .i64 ((rd_T41 t210 x58_1).f0))).setCell ⟨gb216, 1, none⟩ (.string ((rd_T41 t210 x58_1).f1))).heap[gb207]? = some (.cells #[.int .i64 t204, .string t205] 55 (0, 0))) := ⟨by refine blk_far ?_ NB207_216.out _; refine blk_far ?_ NB207_216.out _; exact BK207.out⟩
                      have n6_ : Aside0 (((w37.setCell ⟨gb216, 0, none⟩ (.int .i64 ((rd_T41 t210 x58_1).f0))).setCell ⟨gb216, 1, none⟩ (.string ((rd_T41 t210 x58_1).f1))).heap[gb214]? = some (.cells #[.int .i64 a0_0, .int .i64 a0_1, .int .i64 (t208.size : Int), u215003] 34 (0, 0))) := ⟨by refine blk_far ?_ NB214_216.out _; refine blk_far ?_ NB214_216.out _; exact BK214.out⟩
                      have n7_ : Aside0 (((w37.setCell ⟨gb216, 0, none⟩ (.int .i64 ((rd_T41 t210 x58_1).f0))).setCell ⟨gb216, 1, none⟩ (.string ((rd_T41 t210 x58_1).f1))).heap[gb216]? = some (.cells #[.int .i64 ((rd_T41 t210 x58_1).f0), .string ((rd_T41 t210 x58_1).f1)] 41 (0, 0))) := ⟨by refine blk_put (cs := #[.int .i64 ((rd_T41 t210 x58_1).f0), .string (⟨#[]⟩ : ByteArray)]) ?_ 1 _ rfl; refine blk_put (cs := #[.int .i64 0, .string (⟨#[]⟩ : ByteArray)]) ?_ 0 _ rfl; exact BK216.out⟩
                      have n8_ : Aside0 (Below w.heap.size w ((w37.setCell ⟨gb216, 0, none⟩ (.int .i64 ((rd_T41 t210 x58_1).f0))).setCell ⟨gb216, 1, none⟩ (.string ((rd_T41 t210 x58_1).f1)))) := ⟨by repeat ((with_reducible first | exact HB.out | refine below_set ?_ GE216.out))⟩
                      ((clear HO_13))
                      ((clear HO_56))
                      ((clear HO_215003))
                      ((clear BK201))
                      ((clear BK202))
                      ((clear BK207))
                      ((clear BK214))
                      ((clear BK216))
                      ((clear HB))
                      generalize ((w37.setCell ⟨gb216, 0, none⟩ (.int .i64 ((rd_T41 t210 x58_1).f0))).setCell ⟨gb216, 1, none⟩ (.string ((rd_T41 t210 x58_1).f1))) = w43 at n0_ n1_ n2_ n3_ n4_ n5_ n6_ n7_ n8_ ⊢
                      have HO_13 := n0_
                      have HO_56 := n1_
                      have HO_215003 := n2_
                      have BK201 := n3_
                      have BK202 := n4_
                      have BK207 := n5_
                      have BK214 := n6_
                      have BK216 := n7_
                      have HB := n8_
                      clear n0_ n1_ n2_ n3_ n4_ n5_ n6_ n7_ n8_
                      have n0_ := Aside0.mk (Kd.R_drew HO_13.out)
                      have n1_ := Aside0.mk (Kd.R_drew HO_56.out)
                      have n2_ := Aside0.mk (Kd.R_drew HO_215003.out)
                      have n3_ := Aside0.mk (blk_drew BK201.out)
                      have n4_ := Aside0.mk (blk_drew BK202.out)
                      have n5_ := Aside0.mk (blk_drew BK207.out)
                      have n6_ := Aside0.mk (blk_drew BK214.out)
                      have n7_ := Aside0.mk (blk_drew BK216.out)
                      have n8_ := Aside0.mk (below_drew1 HB.out)
                      clear HO_13 HO_56 HO_215003 BK201 BK202 BK207 BK214 BK216 HB
                      have HO_13 := n0_
                      have HO_56 := n1_
                      have HO_215003 := n2_
                      have BK201 := n3_
                      have BK202 := n4_
                      have BK207 := n5_
                      have BK214 := n6_
                      have BK216 := n7_
                      have HB := n8_
                      clear n0_ n1_ n2_ n3_ n4_ n5_ n6_ n7_ n8_
                      refine start_ (n := 9) (S := fun w' => w'.cell? ⟨gb214, 0, none⟩ = some (.int .i64 a0_0) ∧ w'.cell? ⟨gb214, 1, none⟩ = some (.int .i64 a0_1) ∧ w'.cell? ⟨gb214, 2, none⟩ = some (.int .i64 (t208.size : Int)) ∧ w'.cell? ⟨gb214, 3, none⟩ = some (u215003) ∧ w'.cell? ⟨gb216, 0, none⟩ = some (.int .i64 ((rd_T41 t210 x58_1).f0)) ∧ w'.cell? ⟨gb216, 1, none⟩ = some (.string ((rd_T41 t210 x58_1).f1))) (ds := [8]) #[false, false, false, false, false, false, false, false, false] (by kernel_rfl) rfl rfl ⟨(blk_cell BK214.out 0).trans rfl, (blk_cell BK214.out 1).trans rfl, (blk_cell BK214.out 2).trans rfl, (blk_cell BK214.out 3).trans rfl, (blk_cell BK216.out 0).trans rfl, (blk_cell BK216.out 1).trans rfl⟩ (fun hHeld => ?_); refine with_tabW stripe_Make.tab17 stripe_Make.bits17 (fun HT_ HW_ => ?_)
                      generalize w43.drew = w44 at HO_13 HO_56 HO_215003 BK201 BK202 BK207 BK214 BK216 HB hHeld ⊢
                      refine pure_ (i := 0) (N := some 62) (v := ?_) (a' := ?_) #[true, false, false, false, false, false, false, false, false] rfl rfl (any_of HT_.out (by kernel_rfl)) (fun _ _ _ h => h) (Or.inl ⟨by rfl, ?_⟩) ?_ ?_
                      rotate_left
                      · intro w'
                        go_simp
                        with_reducible rfl
                      rotate_left
                      · simp only [Act.put, List.setIfInBounds_toArray, List.set_cons_zero, List.set_cons_succ, i64_w, i32_w]
                        rfl
                      refine pure_ (i := 2) (N := some 64) (v := ?_) (a' := ?_) #[true, false, true, false, false, false, false, false, false] rfl rfl (any_of HT_.out (by kernel_rfl)) (fun _ _ _ h => h) (Or.inl ⟨by rfl, ?_⟩) ?_ ?_
                      rotate_left
                      · intro w'
                        go_simp
                        with_reducible rfl
                      rotate_left
                      · simp only [Act.put, List.setIfInBounds_toArray, List.set_cons_zero, List.set_cons_succ, i64_w, i32_w]
                        rfl
                      refine take_ (i := 1) (N := some 63) (v := ?_) (a' := ?_) #[true, true, true, false, false, false, false, false, false] rfl rfl (take_ofW HT_.out HW_.out (by kernel_rfl)) (fun _ _ _ h => h) (Or.inl ⟨by rfl, ?_⟩) hHeld ?_ ?_
                      rotate_left
                      · rintro w' ⟨s0, s1, s2, s3, s4, s5⟩
                        go_simp
                        with_reducible rfl
                      rotate_left
                      · simp only [Act.put, List.setIfInBounds_toArray, List.set_cons_zero, List.set_cons_succ, i64_w, i32_w]
                        rfl
                      refine take_ (i := 3) (N := some 65) (v := ?_) (a' := ?_) #[true, true, true, true, false, false, false, false, false] rfl rfl (take_ofW HT_.out HW_.out (by kernel_rfl)) (fun _ _ _ h => h) (Or.inl ⟨by rfl, ?_⟩) hHeld ?_ ?_
                      rotate_left
                      · rintro w' ⟨s0, s1, s2, s3, s4, s5⟩
                        go_simp
                        with_reducible rfl
                      rotate_left
                      · simp only [Act.put, List.setIfInBounds_toArray, List.set_cons_zero, List.set_cons_succ, i64_w, i32_w]
                        rfl
                      refine one_ (i := 4) (N := some 66) #[true, true, true, true, true, false, false, false, false] rfl rfl (one_of HT_.out (by kernel_rfl)) (by decide) (fun K hK => ?_)
                      refine goes_ Try.func23 (by kernel_rfl) rfl #[.string ((rd_T41 t210 x58_1).f1)] (by rfl) rfl rfl (by ((simp only [List.map_toArray, List.map_cons, List.map_nil])); (rfl)) ?_
                      with_reducible refine (digest_Sum.calls k1 ((rd_T41 t210 x58_1).f1) t217 _ A35.out).mono ?_
                      rintro e w' ⟨rfl, ⟨nd, rfl⟩⟩
                      refine ⟨_, rfl, ?_⟩
                      refine hK.out _ _ ⟨(blk_cell BK214.out 0).trans rfl, (blk_cell BK214.out 1).trans rfl, (blk_cell BK214.out 2).trans rfl, (blk_cell BK214.out 3).trans rfl, (blk_cell BK216.out 0).trans rfl, (blk_cell BK216.out 1).trans rfl⟩ (fun hHeld => ?_)
                      clear hK K
                      refine norm_ (a' := ?_) ?_ ?_
                      rotate_left
                      · show Act.put _ (some 66) _ = _
                        simp only [Act.put, List.setIfInBounds_toArray, List.set_cons_zero, List.set_cons_succ, i64_w, i32_w]
                        rfl
                      refine one_ (i := 5) (N := some 67) #[true, true, true, true, true, true, false, false, false] rfl rfl (one_of HT_.out (by kernel_rfl)) (by decide) (fun K hK => ?_)
                      refine value_ (w1 := ?_) (v := ?_) (by rfl) rfl ?_ ?_
                      rotate_left 2
                      · go_simp
                        constructor
                        · rfl
                        · rfl
                      refine hK.out _ _ ⟨(blk_cell (blk_alloc BK214.out _) 0).trans rfl, (blk_cell (blk_alloc BK214.out _) 1).trans rfl, (blk_cell (blk_alloc BK214.out _) 2).trans rfl, (blk_cell (blk_alloc BK214.out _) 3).trans rfl, (blk_cell (blk_alloc BK216.out _) 0).trans rfl, (blk_cell (blk_alloc BK216.out _) 1).trans rfl⟩ (fun hHeld => ?_)
                      clear hK K
                      refine norm_ (a' := ?_) ?_ ?_
                      rotate_left
                      · show Act.put _ (some 67) _ = _
                        simp only [Act.put, List.setIfInBounds_toArray, List.set_cons_zero, List.set_cons_succ, i64_w, i32_w]
                        rfl
                      refine one_ (i := 6) (N := some 68) #[true, true, true, true, true, true, true, false, false] rfl rfl (one_of HT_.out (by kernel_rfl)) (by decide) (fun K hK => ?_)
                      refine Kd.R_append_step (Kd.int .i64) (w0 := w) w.heap.size (by rfl) (.tmp 63) (.tmp 67) 22 3 (.int .i64 0) 8 rfl Try.underlying22 info3 rfl (by decide) (by omega) u215003 x215003_1 t217 [.int .i64 t217] (fun _ => True) (fun _ => False) rfl rfl ?aP (fun _ hk => hk.elim) ?aF ?aO ?aB ?aS ?aL ?_
                      (case aP => exact rfl)
                      (case aB => exact (by repeat ((with_reducible first | exact HB.out | apply pw_below_drewN))))
                      (case aF => exact (fun _ _ => trivial))
                      (case aO => exact (by (with_reducible repeat ((apply Kd.R_drewN))); exact HO_215003.out))
                      (case aS => exact (below_size (by repeat ((with_reducible first | exact HB.out | apply pw_below_drewN)))))
                      (case aL => have := LMc36.out; omega)
                      intro v219 w45 ho hb hg hat
                      rw [← Ny218.out] at ho
                      have n0_ := Aside0.mk (Kd.R_over' (by (with_reducible repeat ((apply Kd.R_drewN))); exact HO_13.out) (Kd.R_typed (by (with_reducible repeat ((apply Kd.R_drewN))); exact HO_215003.out)) (by decide) hg)
                      have n1_ := Aside0.mk (Kd.R_over' (by (with_reducible repeat ((apply Kd.R_drewN))); exact HO_56.out) (Kd.R_typed (by (with_reducible repeat ((apply Kd.R_drewN))); exact HO_215003.out)) (by decide) hg)
                      have n2_ := Aside0.mk (blk_grown (g := gb201) (o := .cells #[.int .i64 a0_0, .int .i64 a0_1] 30 (0, 0)) (by (with_reducible repeat ((refine blk_drewN ?_ _))); exact BK201.out) hg (Kd.R_ne HO_215003.out BK201.out (by decide)))
                      have n3_ := Aside0.mk (blk_grown (g := gb202) (o := .cells #[.int .i64 0, .int .i64 0, .int .i64 0, .slice none 0 0] 34 (0, 0)) (by (with_reducible repeat ((refine blk_drewN ?_ _))); exact BK202.out) hg (Kd.R_ne HO_215003.out BK202.out (by decide)))
                      have n4_ := Aside0.mk (blk_grown (g := gb207) (o := .cells #[.int .i64 t204, .string t205] 55 (0, 0)) (by (with_reducible repeat ((refine blk_drewN ?_ _))); exact BK207.out) hg (Kd.R_ne HO_215003.out BK207.out (by decide)))
                      have n5_ := Aside0.mk (blk_grown (g := gb214) (o := .cells #[.int .i64 a0_0, .int .i64 a0_1, .int .i64 (t208.size : Int), u215003] 34 (0, 0)) (by (with_reducible repeat ((refine blk_drewN ?_ _))); exact BK214.out) hg (Kd.R_ne HO_215003.out BK214.out (by decide)))
                      have n6_ := Aside0.mk (blk_grown (g := gb216) (o := .cells #[.int .i64 ((rd_T41 t210 x58_1).f0), .string ((rd_T41 t210 x58_1).f1)] 41 (0, 0)) (by (with_reducible repeat ((refine blk_drewN ?_ _))); exact BK216.out) hg (Kd.R_ne HO_215003.out BK216.out (by decide)))
                      have n7_ := Aside0.mk (hb)
                      have n8_ := Aside0.mk (ho)
                      clear HO_13 HO_56 BK201 BK202 BK207 BK214 BK216 HB HO_215003
                      have HO_13 := n0_
                      have HO_56 := n1_
                      have BK201 := n2_
                      have BK202 := n3_
                      have BK207 := n4_
                      have BK214 := n5_
                      have BK216 := n6_
                      have HB := n7_
                      have HO220 := n8_
                      clear n0_ n1_ n2_ n3_ n4_ n5_ n6_ n7_ n8_ ho hb hg hat
                      obtain ⟨Ao46, co46, eo46⟩ := Kd.R_slice HO220.out
                      ((subst eo46))
                      refine hK.out _ _ ⟨(blk_cell BK214.out 0).trans rfl, (blk_cell BK214.out 1).trans rfl, (blk_cell BK214.out 2).trans rfl, (blk_cell BK214.out 3).trans rfl, (blk_cell BK216.out 0).trans rfl, (blk_cell BK216.out 1).trans rfl⟩ (fun hHeld => ?_)
                      clear hK K
                      refine norm_ (a' := ?_) ?_ ?_
                      rotate_left
                      · show Act.put _ (some 68) _ = _
                        simp only [Act.put, List.setIfInBounds_toArray, List.set_cons_zero, List.set_cons_succ, i64_w, i32_w]
                        rfl
                      refine pure_ (i := 7) (N := some 69) (v := ?_) (a' := ?_) #[true, true, true, true, true, true, true, true, false] rfl rfl (any_of HT_.out (by kernel_rfl)) (fun _ _ _ h => h) (Or.inl ⟨by rfl, ?_⟩) ?_ ?_
                      rotate_left
                      · intro w'
                        go_simp
                        with_reducible rfl
                      rotate_left
                      · simp only [Act.put, List.setIfInBounds_toArray, List.set_cons_zero, List.set_cons_succ, i64_w, i32_w]
                        rfl
                      refine last_ (i := 8) (N := none) #[true, true, true, true, true, true, true, true, true] rfl rfl (one_of HT_.out (by kernel_rfl)) (by decide) (fun K hK => ?_)
                      have hs47 : w45.cell? ⟨gb214, 3, none⟩ = some (u215003) := (blk_cell BK214.out 3).trans rfl
                      have hfs47 := blk_frozen BK214.out 3
                      have hns47_0 := NB201_214.out
                      have hns47_1 := NB202_214.out
                      have hns47_2 := NB207_214.out
                      have hns47_4 := NB216_214.out
                      have hms47_0 := NB214_201.out
                      have hms47_1 := NB214_202.out
                      have hms47_2 := NB214_207.out
                      have hms47_4 := NB214_216.out
                      refine skip_ (w1 := ?_) (by rfl) rfl ?_ ?_
                      rotate_left
                      · go_simp
                        rfl
                      refine hK.out _ _ ?_
                      clear hK K
                      refine done_ (done_of HT_.out (by kernel_rfl)) ?_
                      (go_wp2)
                      go_roundg k1
                      case measure => have := HK1.out; omega
                      case rel => exact ⟨(wrap64 (x58_1 + 1)), (y218), (.slice Ao46 y218.length co46), (by (rfl)), H', ⟨by have := HK1.out; omega⟩, ⟨by exact Kd.R_mono (Kd.R_far (p := ⟨gb214, 3, none⟩) (Kd.R_types HO_13.out BK214.out (by decide)) (fun _ hk => hk.2) (.slice Ao46 y218.length co46)) (fun _ hk => trivial)⟩, ⟨by exact Kd.R_mono (Kd.R_far (p := ⟨gb214, 3, none⟩) (Kd.R_types HO_56.out BK214.out (by decide)) (fun _ hk => hk.2) (.slice Ao46 y218.length co46)) (fun _ hk => trivial)⟩, ⟨by exact Kd.R_mono (Kd.R_far (p := ⟨gb214, 3, none⟩) (Kd.R_types HO220.out BK214.out (by decide)) (fun _ hk => hk.2) (.slice Ao46 y218.length co46)) (fun _ hk => trivial)⟩, ⟨by refine blk_far ?_ NB201_214.out _; exact BK201.out⟩, ⟨by refine blk_far ?_ NB202_214.out _; exact BK202.out⟩, ⟨by refine blk_far ?_ NB207_214.out _; exact BK207.out⟩, ⟨by refine blk_put (cs := #[.int .i64 a0_0, .int .i64 a0_1, .int .i64 (t208.size : Int), u215003]) ?_ 3 _ rfl; exact BK214.out⟩, ⟨by repeat ((with_reducible first | exact HB.out | refine below_set ?_ GE214.out))⟩⟩
                    · rw [if_neg c36] at H
                      exact absurd H (by simp)
                  · rw [if_neg c34] at H
                    exact absurd H (by simp)
                · rw [if_neg c33] at H
                  exact absurd H (by simp)
              · rw [if_neg c32] at H
                have c32b0 : decide (x58_1 < (t210.length : Int)) = false := decide_eq_false c32
                clear c32
                simp only [Option.some.injEq, Prod.mk.injEq] at H
                obtain ⟨rfl, rfl, rfl, rfl, rfl, rfl⟩ := H
                have hnb48 := NB214_201.out
                have hnc48 := NB201_214.out
                have hnb49 := NB214_202.out
                have hnc49 := NB202_214.out
                have hnb50 := NB214_207.out
                have hnc50 := NB207_214.out
                have hcz51_0 : wr.cell? ⟨gb214, 0, none⟩ = some (.int .i64 a0_0) := (blk_cell BK214.out 0).trans rfl
                have hcz51_1 : wr.cell? ⟨gb214, 1, none⟩ = some (.int .i64 a0_1) := (blk_cell BK214.out 1).trans rfl
                have hcz51_2 : wr.cell? ⟨gb214, 2, none⟩ = some (.int .i64 (t208.size : Int)) := (blk_cell BK214.out 2).trans rfl
                have hcz51_3 : wr.cell? ⟨gb214, 3, none⟩ = some (u215003) := (blk_cell BK214.out 3).trans rfl
                have hfz51_0 := blk_frozen BK214.out 0
                have hfz51_1 := blk_frozen BK214.out 1
                have hfz51_2 := blk_frozen BK214.out 2
                have hfz51_3 := blk_frozen BK214.out 3
                have hnb52 := NB202_201.out
                have hnc52 := NB201_202.out
                have hnb53 := NB202_207.out
                have hnc53 := NB207_202.out
                have hcz54_0 : wr.cell? ⟨gb202, 0, none⟩ = some (.int .i64 0) := (blk_cell BK202.out 0).trans rfl
                have hcz54_1 : wr.cell? ⟨gb202, 1, none⟩ = some (.int .i64 0) := (blk_cell BK202.out 1).trans rfl
                have hcz54_2 : wr.cell? ⟨gb202, 2, none⟩ = some (.int .i64 0) := (blk_cell BK202.out 2).trans rfl
                have hcz54_3 : wr.cell? ⟨gb202, 3, none⟩ = some (.slice none 0 0) := (blk_cell BK202.out 3).trans rfl
                have hfz54_0 := blk_frozen BK202.out 0
                have hfz54_1 := blk_frozen BK202.out 1
                have hfz54_2 := blk_frozen BK202.out 2
                have hfz54_3 := blk_frozen BK202.out 3
                obtain ⟨Ao55, co55, eo55⟩ := Kd.R_slice HO_215003.out
                subst eo55
                go_wp2
                refine bodyPost_ret (results_ctt rfl _ _ gb202 34 #[.int .i64 a0_0, .int .i64 a0_1, .int .i64 (t208.size : Int), .slice Ao55 x215003_1.length co55] (0, 0) _ rfl (by refine blk_put (cs := #[.int .i64 a0_0, .int .i64 a0_1, .int .i64 (t208.size : Int), .slice none 0 0]) ?_ 3 _ rfl; refine blk_put (cs := #[.int .i64 a0_0, .int .i64 a0_1, .int .i64 0, .slice none 0 0]) ?_ 2 _ rfl; refine blk_put (cs := #[.int .i64 a0_0, .int .i64 0, .int .i64 0, .slice none 0 0]) ?_ 1 _ rfl; refine blk_put (cs := #[.int .i64 0, .int .i64 0, .int .i64 0, .slice none 0 0]) ?_ 0 _ rfl; exact BK202.out) Try.underlying34 rfl (by kernel_rfl)) rfl ?_
                exact ⟨_, _, by (rfl), by exact Kd.R_mono (Kd.R_far (p := ⟨gb202, 3, none⟩) (Kd.R_far (p := ⟨gb202, 2, none⟩) (Kd.R_far (p := ⟨gb202, 1, none⟩) (Kd.R_far (p := ⟨gb202, 0, none⟩) (Kd.R_types HO_215003.out BK202.out (by decide)) (fun _ hk => hk.2) (.int .i64 a0_0)) (fun _ hk => hk.2) (.int .i64 a0_1)) (fun _ hk => hk.2) (.int .i64 (t208.size : Int))) (fun _ hk => hk.2) (.slice Ao55 x215003_1.length co55)) (fun _ hk => trivial), by exact Kd.R_mono (Kd.R_far (p := ⟨gb202, 3, none⟩) (Kd.R_far (p := ⟨gb202, 2, none⟩) (Kd.R_far (p := ⟨gb202, 1, none⟩) (Kd.R_far (p := ⟨gb202, 0, none⟩) (Kd.R_types HO_13.out BK202.out (by decide)) (fun _ hk => hk.2) (.int .i64 a0_0)) (fun _ hk => hk.2) (.int .i64 a0_1)) (fun _ hk => hk.2) (.int .i64 (t208.size : Int))) (fun _ hk => hk.2) (.slice Ao55 x215003_1.length co55)) (fun _ hk => trivial), by repeat ((with_reducible first | exact HB.out | refine below_set ?_ GE202.out))⟩
        · rw [if_neg c11] at H
          have c11b0 : (t213 == 0) = false := beq_eq_false_iff_ne.mpr c11
          have c11b1 : (t213 != 0) = true := bne_iff_ne.mpr c11
          exact absurd H (by simp)
      · rw [if_neg c9] at H
        have c9b0 : (t209 == 0) = false := beq_eq_false_iff_ne.mpr c9
        have c9b1 : (t209 != 0) = true := bne_iff_ne.mpr c9
        exact absurd H (by simp)
    · rw [if_neg c7] at H
      have c7b0 : (t206 == 0) = false := beq_eq_false_iff_ne.mpr c7
      have c7b1 : (t206 != 0) = true := bne_iff_ne.mpr c7
      exact absurd H (by simp)
  · rw [if_neg c5] at H
    have c5b0 : (t203 == 0) = false := beq_eq_false_iff_ne.mpr c5
    have c5b1 : (t203 != 0) = true := bne_iff_ne.mpr c5
    exact absurd H (by simp)

end Go.Proofs.Ythfddndmhjkeiaa.L
end
section
-- Printed for this claim by a small program of the session's own, drv.py, round the kit's print.py. Lean checks it.
namespace Go.Proofs.Ythfddndmhjkeiaa.L
open Go.RowKit Go.Proofs.YthfddndmhjkeiaaW.PrintWords Go.Proofs.YthfddndmhjkeiaaW.PrintLast Go.Proofs.YthfddndmhjkeiaaW.PrintMore
attribute [local go_sem] max2_int min2_int max_two min_two max_three min_three max_four min_four   -- for this text's walks alone
set_option linter.unusedVariables false
set_option linter.unusedSimpArgs false

/-! ### wire_Int: function 49 -/
mutual
def wire_Int.j0 : Nat → ByteArray → Int → Bool → Option (Int × Int × Int)
  | 0, _, _, _ => none
  | k + 1, x0, x1, x17 => if x17 = true then (none) else (wire_Int.l0 k x0 x1 0 0)
def wire_Int.l0 : Nat → ByteArray → Int → Int → Int → Option (Int × Int × Int)
  | 0, _, _, _, _ => none
  | k + 1, x0, x1, x7, x8 => if (wrap64 (x1 + x8)) = (x0.size : Int) then (none) else (if 0 ≤ (wrap64 (x1 + x8)) then (if (wrap64 (x1 + x8)) < (x0.size : Int) then (if x8 = 9 then (if (bt x0 (wrap64 (x1 + x8))) > 1 then (wire_Int.j2 k x0 x1 x7 x8 (bt x0 (wrap64 (x1 + x8))) true) else (if x8 > 0 then (wire_Int.j2 k x0 x1 x7 x8 (bt x0 (wrap64 (x1 + x8))) ((bt x0 (wrap64 (x1 + x8))) == 0)) else (wire_Int.j2 k x0 x1 x7 x8 (bt x0 (wrap64 (x1 + x8))) false))) else (if x8 > 0 then (wire_Int.j2 k x0 x1 x7 x8 (bt x0 (wrap64 (x1 + x8))) ((bt x0 (wrap64 (x1 + x8))) == 0)) else (wire_Int.j2 k x0 x1 x7 x8 (bt x0 (wrap64 (x1 + x8))) false))) else (none)) else (none))
def wire_Int.j2 : Nat → ByteArray → Int → Int → Int → Int → Bool → Option (Int × Int × Int)
  | 0, _, _, _, _, _, _ => none
  | k + 1, x0, x1, x7, x8, x9, x44 => if x44 = true then (none) else (if 0 ≤ (wrap64 (7 * x8)) then (if x9 < 128 then (some (Go.bits .xor .i64 (wrap64 ((Go.bits .or .u64 x7 (shl .u64 (IntKind.u64.wrap (Go.bits .and .u8 x9 127)) (wrap64 (7 * x8)))) / 2)) (wrap64 (-(wrap64 (Go.bits .and .u64 (Go.bits .or .u64 x7 (shl .u64 (IntKind.u64.wrap (Go.bits .and .u8 x9 127)) (wrap64 (7 * x8)))) 1)))), wrap64 ((wrap64 (x1 + x8)) + 1), 0)) else (wire_Int.l0 k x0 x1 (Go.bits .or .u64 x7 (shl .u64 (IntKind.u64.wrap (Go.bits .and .u8 x9 127)) (wrap64 (7 * x8)))) (wrap64 (x8 + 1)))) else (none))
end
def wire_Int.f (k : Nat) (a0 : ByteArray) (a1 : Int) : Option (Int × Int × Int) := if a1 < 0 then (wire_Int.j0 k a0 a1 true) else (wire_Int.j0 k a0 a1 (decide (a1 > (a0.size : Int))))
theorem wire_Int.mono_l : ∀ k, (∀ y0 y1 y2, LeO (wire_Int.j0 k y0 y1 y2) (wire_Int.j0 (k + 1) y0 y1 y2)) ∧ (∀ y0 y1 y2 y3, LeO (wire_Int.l0 k y0 y1 y2 y3) (wire_Int.l0 (k + 1) y0 y1 y2 y3)) ∧ (∀ y0 y1 y2 y3 y4 y5, LeO (wire_Int.j2 k y0 y1 y2 y3 y4 y5) (wire_Int.j2 (k + 1) y0 y1 y2 y3 y4 y5))
  | 0 => ⟨fun _ _ _ r h => by simp [wire_Int.j0] at h, fun _ _ _ _ r h => by simp [wire_Int.l0] at h, fun _ _ _ _ _ _ r h => by simp [wire_Int.j2] at h⟩
  | k + 1 => by
    obtain ⟨ih0, ih1, ih2⟩ := wire_Int.mono_l k
    refine ⟨?_, ?_, ?_⟩
    · intro y0 y1 y2
      unfold wire_Int.j0
      repeat' first | (with_reducible exact ih1 _ _ _ _) | (with_reducible exact LeO.refl _) | (with_reducible refine LeO.ite ?_ ?_)
    · intro y0 y1 y2 y3
      unfold wire_Int.l0
      repeat' first | (with_reducible exact ih2 _ _ _ _ _ _) | (with_reducible exact LeO.refl _) | (with_reducible refine LeO.ite ?_ ?_)
    · intro y0 y1 y2 y3 y4 y5
      unfold wire_Int.j2
      repeat' first | (with_reducible exact ih1 _ _ _ _) | (with_reducible exact LeO.refl _) | (with_reducible refine LeO.ite ?_ ?_)
theorem wire_Int.mono : ∀ a0 a1 k, LeO (wire_Int.f k a0 a1) (wire_Int.f (k + 1) a0 a1) := by
  intro a0 a1 k
  obtain ⟨ih0, ih1, ih2⟩ := wire_Int.mono_l k
  unfold wire_Int.f
  repeat' first | (with_reducible exact ih0 _ _ _) | (with_reducible refine LeO.ite ?_ ?_)
set_option maxHeartbeats 8000000 in
set_option maxRecDepth 100000 in
theorem wire_Int.calls (k : Nat) (a0 : ByteArray) (a1 : Int) (r1 : Int) (r2 : Int) (r3 : Int) (w : World) (h : wire_Int.f k a0 a1 = some (r1, r2, r3)) :
    Calls Try.prog 49 #[.string a0, .int .i64 a1] w fun e w' => e = .returned (.tuple #[.int .i64 r1, .int .i64 r2, .int .i64 r3]) ∧ Drawn0 w w' := by
  have H : (if a1 < 0 then (wire_Int.j0 k a0 a1 true) else (wire_Int.j0 k a0 a1 (decide (a1 > (a0.size : Int))))) = some (r1, r2, r3) := h
  clear h
  have HC3 := Aside0.mk H
  clear H
  go_enter Try.func49, Try.ntmps49
  go_upto_region 1 with (fail)
  go_cut [17] (fun v17 wc => ∃ (kq : Nat) (x17_2 : Bool), v17 = .bool x17_2 ∧ Aside0 (wire_Int.j0 kq a0 a1 x17_2 = some (r1, r2, r3)) ∧ Aside0 (kq ≤ k) ∧ Drawn0 w wc)
  case first =>
    have H := HC3.out
    clear HC3
    by_cases c4 : a1 < 0
    · rw [if_pos c4] at H
      have c4b0 : decide (a1 < 0) = true := decide_eq_true c4
      clear c4
      ((skip))
      have H' := Aside0.mk H
      clear H
      go_wp2
      go_meet
      case rel => exact ⟨_, (true), (by (rfl)), H', ⟨by (omega)⟩, by repeat ((exact Drawn0.refl _))⟩
    · rw [if_neg c4] at H
      have c4b0 : decide (a1 < 0) = false := decide_eq_false c4
      clear c4
      ((skip))
      have H' := Aside0.mk H
      clear H
      go_wp2
      go_meet
      case rel => exact ⟨_, (decide (a1 > (a0.size : Int))), (by (rfl)), H', ⟨by (omega)⟩, by repeat ((exact Drawn0.refl _))⟩
  case rest =>
    clear HC3
    obtain ⟨kq, x17_2, rfl, HA, HJ2, ⟨mc2, rfl⟩⟩ := hcut
    cases kq with
    | zero => exact absurd HA.out (by simp [wire_Int.j0])
    | succ kj2 =>
      have H := HA.out
      clear HA
      simp only [wire_Int.j0] at H
      by_cases c5 : x17_2 = true
      · subst c5
        have H1 : (none) = some (r1, r2, r3) := by rw [if_pos rfl] at H; exact H
        clear H
        have H := H1
        clear H1
        exact absurd H (by simp)
      · replace c5 := Bool.eq_false_iff.mpr c5
        subst c5
        have H1 : (wire_Int.l0 kj2 a0 a1 0 0) = some (r1, r2, r3) := by rw [if_neg (show ¬ (false = true) by decide)] at H; exact H
        clear H
        have H := H1
        clear H1
        have H' := Aside0.mk H
        clear H
        go_wp2
        go_loopg [7, 8] kj2 (fun kq v7 v8 w' => ∃ (x7_2 : Int) (x8_2 : Int), v7 = .int .u64 x7_2 ∧ v8 = .int .i64 x8_2 ∧ Aside0 (wire_Int.l0 kq a0 a1 x7_2 x8_2 = some (r1, r2, r3)) ∧ Aside0 (kq ≤ kj2) ∧ Drawn0 w w')
        case atStart => exact ⟨(0), (0), (by (rfl)), (by (rfl)), H', ⟨Nat.le_refl _⟩, by repeat (first | exact Drawn0.refl _ | apply Drawn0.step)⟩
        case round =>
          clear H'
          obtain ⟨x7_2, x8_2, rfl, rfl, HA, HK2, ⟨m2, rfl⟩⟩ := hrel
          cases gk with
          | zero => exact absurd HA.out (by simp [wire_Int.l0])
          | succ k2 =>
            have H := HA.out
            clear HA
            simp only [wire_Int.l0] at H
            by_cases c6 : (wrap64 (a1 + x8_2)) = (a0.size : Int)
            · rw [if_pos c6] at H
              exact absurd H (by simp)
            · rw [if_neg c6] at H
              have c6b0 : ((wrap64 (a1 + x8_2)) == (a0.size : Int)) = false := beq_eq_false_iff_ne.mpr c6
              have c6b1 : ((wrap64 (a1 + x8_2)) != (a0.size : Int)) = true := bne_iff_ne.mpr c6
              obtain ⟨ji7, hji7⟩ : ∃ j_ : Int, (wrap64 (a1 + x8_2)) = j_ := ⟨_, rfl⟩
              replace H : (if 0 ≤ (ji7) then (if (ji7) < (a0.size : Int) then (if x8_2 = 9 then (if (bt a0 (ji7)) > 1 then (wire_Int.j2 k2 a0 a1 x7_2 x8_2 (bt a0 (ji7)) true) else (if x8_2 > 0 then (wire_Int.j2 k2 a0 a1 x7_2 x8_2 (bt a0 (ji7)) ((bt a0 (ji7)) == 0)) else (wire_Int.j2 k2 a0 a1 x7_2 x8_2 (bt a0 (ji7)) false))) else (if x8_2 > 0 then (wire_Int.j2 k2 a0 a1 x7_2 x8_2 (bt a0 (ji7)) ((bt a0 (ji7)) == 0)) else (wire_Int.j2 k2 a0 a1 x7_2 x8_2 (bt a0 (ji7)) false))) else (none)) else (none)) = some (r1, r2, r3) := by (rw [hji7] at H; exact H)
              ((rw [hji7] at c6b0))
              ((rw [hji7] at c6b1))
              have hji7w : (IntKind.i64.wrap (a1 + x8_2)) = ji7 := (i64_w _).trans hji7
              by_cases c8 : 0 ≤ (ji7)
              · rw [if_pos c8] at H
                have c8b0 : decide (0 ≤ (ji7)) = true := decide_eq_true c8
                clear c8
                by_cases c9 : (ji7) < (a0.size : Int)
                · rw [if_pos c9] at H
                  have c9b0 : decide ((ji7) < (a0.size : Int)) = true := decide_eq_true c9
                  clear c9
                  have HC11 := Aside0.mk H
                  clear H
                  have p10 : 0 ≤ ((ji7) : Int) := of_decide_eq_true (by (with_reducible assumption))
                  have q10 : (ji7) < (a0.size : Int) := of_decide_eq_true (by (with_reducible assumption))
                  have hx10 := bt_at a0 (ji7)
                  replace p10 := eq_true p10
                  replace q10 := eq_true q10
                  go_upto_region 9 with (fail)
                  go_cut [44] (fun v44 wc => ∃ (kq : Nat) (x44_10 : Bool), v44 = .bool x44_10 ∧ Aside0 (wire_Int.j2 kq a0 a1 x7_2 x8_2 (bt a0 (ji7)) x44_10 = some (r1, r2, r3)) ∧ Aside0 (kq ≤ k2) ∧ Drawn0 w wc)
                  case first =>
                    have H := HC11.out
                    clear HC11
                    by_cases c12 : x8_2 = 9
                    · rw [if_pos c12] at H
                      have c12b0 : (x8_2 == 9) = true := beq_iff_eq.mpr c12
                      have c12b1 : (x8_2 != 9) = false := bne_eq_false_iff_eq.mpr c12
                      clear c12
                      ((skip))
                      by_cases c13 : (bt a0 (ji7)) > 1
                      · rw [if_pos c13] at H
                        have c13b0 : decide (1 < (bt a0 (ji7))) = true := decide_eq_true c13
                        clear c13
                        have H' := Aside0.mk H
                        clear H
                        go_wp2
                        go_meet
                        case rel => exact ⟨_, (true), (by (rfl)), H', ⟨by have := HJ2.out; have := HK2.out; (omega)⟩, by repeat (first | exact Drawn0.refl _ | apply Drawn0.step)⟩
                      · rw [if_neg c13] at H
                        have c13b0 : decide (1 < (bt a0 (ji7))) = false := decide_eq_false c13
                        clear c13
                        by_cases c14 : x8_2 > 0
                        · rw [if_pos c14] at H
                          have c14b0 : decide (0 < x8_2) = true := decide_eq_true c14
                          clear c14
                          have H' := Aside0.mk H
                          clear H
                          go_wp2
                          go_meet
                          case rel => exact ⟨_, (((bt a0 (ji7)) == 0)), (by (rfl)), H', ⟨by have := HJ2.out; have := HK2.out; (omega)⟩, by repeat (first | exact Drawn0.refl _ | apply Drawn0.step)⟩
                        · rw [if_neg c14] at H
                          have c14b0 : decide (0 < x8_2) = false := decide_eq_false c14
                          clear c14
                          have H' := Aside0.mk H
                          clear H
                          go_wp2
                          go_meet
                          case rel => exact ⟨_, (false), (by (rfl)), H', ⟨by have := HJ2.out; have := HK2.out; (omega)⟩, by repeat (first | exact Drawn0.refl _ | apply Drawn0.step)⟩
                    · rw [if_neg c12] at H
                      have c12b0 : (x8_2 == 9) = false := beq_eq_false_iff_ne.mpr c12
                      have c12b1 : (x8_2 != 9) = true := bne_iff_ne.mpr c12
                      ((skip))
                      by_cases c15 : x8_2 > 0
                      · rw [if_pos c15] at H
                        have c15b0 : decide (0 < x8_2) = true := decide_eq_true c15
                        clear c15
                        have H' := Aside0.mk H
                        clear H
                        go_wp2
                        go_meet
                        case rel => exact ⟨_, (((bt a0 (ji7)) == 0)), (by (rfl)), H', ⟨by have := HJ2.out; have := HK2.out; (omega)⟩, by repeat (first | exact Drawn0.refl _ | apply Drawn0.step)⟩
                      · rw [if_neg c15] at H
                        have c15b0 : decide (0 < x8_2) = false := decide_eq_false c15
                        clear c15
                        have H' := Aside0.mk H
                        clear H
                        go_wp2
                        go_meet
                        case rel => exact ⟨_, (false), (by (rfl)), H', ⟨by have := HJ2.out; have := HK2.out; (omega)⟩, by repeat (first | exact Drawn0.refl _ | apply Drawn0.step)⟩
                  case rest =>
                    clear HC11 c6 c6b0 c6b1 c8b0 c9b0 p10 q10 hx10
                    obtain ⟨kq, x44_10, rfl, HA, HJ10, ⟨mc10, rfl⟩⟩ := hcut
                    cases kq with
                    | zero => exact absurd HA.out (by simp [wire_Int.j2])
                    | succ kj10 =>
                      have H := HA.out
                      clear HA
                      simp only [wire_Int.j2] at H
                      by_cases c16 : x44_10 = true
                      · subst c16
                        have H1 : (none) = some (r1, r2, r3) := by rw [if_pos rfl] at H; exact H
                        clear H
                        have H := H1
                        clear H1
                        exact absurd H (by simp)
                      · replace c16 := Bool.eq_false_iff.mpr c16
                        subst c16
                        have H1 : (if 0 ≤ (wrap64 (7 * x8_2)) then (if (bt a0 (ji7)) < 128 then (some (Go.bits .xor .i64 (wrap64 ((Go.bits .or .u64 x7_2 (shl .u64 (IntKind.u64.wrap (Go.bits .and .u8 (bt a0 (ji7)) 127)) (wrap64 (7 * x8_2)))) / 2)) (wrap64 (-(wrap64 (Go.bits .and .u64 (Go.bits .or .u64 x7_2 (shl .u64 (IntKind.u64.wrap (Go.bits .and .u8 (bt a0 (ji7)) 127)) (wrap64 (7 * x8_2)))) 1)))), wrap64 ((wrap64 (a1 + x8_2)) + 1), 0)) else (wire_Int.l0 kj10 a0 a1 (Go.bits .or .u64 x7_2 (shl .u64 (IntKind.u64.wrap (Go.bits .and .u8 (bt a0 (ji7)) 127)) (wrap64 (7 * x8_2)))) (wrap64 (x8_2 + 1)))) else (none)) = some (r1, r2, r3) := by rw [if_neg (show ¬ (false = true) by decide)] at H; exact H
                        clear H
                        have H := H1
                        clear H1
                        obtain ⟨ji17, hji17⟩ : ∃ j_ : Int, (wrap64 (7 * x8_2)) = j_ := ⟨_, rfl⟩
                        replace H : (if 0 ≤ (ji17) then (if (bt a0 (ji7)) < 128 then (some (Go.bits .xor .i64 (wrap64 ((Go.bits .or .u64 x7_2 (shl .u64 (IntKind.u64.wrap (Go.bits .and .u8 (bt a0 (ji7)) 127)) (ji17))) / 2)) (wrap64 (-(wrap64 (Go.bits .and .u64 (Go.bits .or .u64 x7_2 (shl .u64 (IntKind.u64.wrap (Go.bits .and .u8 (bt a0 (ji7)) 127)) (ji17))) 1)))), wrap64 ((wrap64 (a1 + x8_2)) + 1), 0)) else (wire_Int.l0 kj10 a0 a1 (Go.bits .or .u64 x7_2 (shl .u64 (IntKind.u64.wrap (Go.bits .and .u8 (bt a0 (ji7)) 127)) (ji17))) (wrap64 (x8_2 + 1)))) else (none)) = some (r1, r2, r3) := by (rw [hji17] at H; exact H)
                        have hji17w : (IntKind.i64.wrap (7 * x8_2)) = ji17 := (i64_w _).trans hji17
                        by_cases c18 : 0 ≤ (ji17)
                        · rw [if_pos c18] at H
                          have c18b0 := eq_true c18
                          have c18b1 : decide (0 ≤ (ji17)) = true := decide_eq_true c18
                          clear c18
                          obtain ⟨ji19, hji19⟩ : ∃ j_ : Int, (shl .u64 (IntKind.u64.wrap (Go.bits .and .u8 (bt a0 (ji7)) 127)) (ji17)) = j_ := ⟨_, rfl⟩
                          replace H : (if (bt a0 (ji7)) < 128 then (some (Go.bits .xor .i64 (wrap64 ((Go.bits .or .u64 x7_2 (ji19)) / 2)) (wrap64 (-(wrap64 (Go.bits .and .u64 (Go.bits .or .u64 x7_2 (ji19)) 1)))), wrap64 ((wrap64 (a1 + x8_2)) + 1), 0)) else (wire_Int.l0 kj10 a0 a1 (Go.bits .or .u64 x7_2 (ji19)) (wrap64 (x8_2 + 1)))) = some (r1, r2, r3) := by (rw [hji19] at H; exact H)
                          have hji19_ : (IntKind.u64.wrap ((IntKind.u64.wrap (Go.bits .and .u8 (bt a0 (ji7)) 127)) * 2 ^ min (ji17).toNat 64)) = ji19 := hji19
                          have hji19z : (ji17) ≤ 64 → (IntKind.u64.wrap ((IntKind.u64.wrap (Go.bits .and .u8 (bt a0 (ji7)) 127)) * 2 ^ (ji17).toNat)) = ji19 := shl_small hji19
                          by_cases c20 : (bt a0 (ji7)) < 128
                          · rw [if_pos c20] at H
                            have c20b0 : decide ((bt a0 (ji7)) < 128) = true := decide_eq_true c20
                            clear c20
                            simp only [Option.some.injEq, Prod.mk.injEq] at H
                            obtain ⟨rfl, rfl, rfl⟩ := H
                            go_wp2
                            go_ret3
                            exact ⟨by (simp only [← hji7, ← hji17, ← hji19] <;> ((rfl))), by repeat (first | exact Drawn0.refl _ | apply Drawn0.step)⟩
                          · rw [if_neg c20] at H
                            have c20b0 : decide ((bt a0 (ji7)) < 128) = false := decide_eq_false c20
                            clear c20
                            have H' := Aside0.mk H
                            clear H
                            go_wp2
                            go_roundg kj10
                            case measure => have := HJ2.out; have := HK2.out; have := HJ10.out; omega
                            case rel => exact ⟨(Go.bits .or .u64 x7_2 (ji19)), (wrap64 (x8_2 + 1)), (by (rfl)), (by (rfl)), H', ⟨by have := HJ2.out; have := HK2.out; have := HJ10.out; omega⟩, by repeat (first | exact Drawn0.refl _ | apply Drawn0.step)⟩
                        · rw [if_neg c18] at H
                          exact absurd H (by simp)
                · rw [if_neg c9] at H
                  exact absurd H (by simp)
              · rw [if_neg c8] at H
                exact absurd H (by simp)

end Go.Proofs.Ythfddndmhjkeiaa.L
end
section
-- Printed for this claim by a small program of the session's own, drv.py, round the kit's print.py. Lean checks it.
namespace Go.Proofs.Ythfddndmhjkeiaa.L
open Go.RowKit Go.Proofs.YthfddndmhjkeiaaW.PrintWords Go.Proofs.YthfddndmhjkeiaaW.PrintLast Go.Proofs.YthfddndmhjkeiaaW.PrintMore
attribute [local go_sem] max2_int min2_int max_two min_two max_three min_three max_four min_four   -- for this text's walks alone
set_option linter.unusedVariables false
set_option linter.unusedSimpArgs false

/-! ### wire_count: function 67 -/
def wire_count.f (k : Nat) (a0 : ByteArray) (a1 : Int) (a2 : Int) : Option (Int × Int × Int) := (wire_Int.f k a0 a1).bind fun bt246 => (if bt246.2.2 = 0 then (if bt246.1 < 0 then (none) else (if bt246.1 > a2 then (none) else (some (bt246.1, bt246.2.1, 0)))) else (none))
theorem wire_count.mono : ∀ a0 a1 a2 k, LeO (wire_count.f k a0 a1 a2) (wire_count.f (k + 1) a0 a1 a2) := by
  intro a0 a1 a2 k
  unfold wire_count.f
  repeat' first | (with_reducible exact wire_Int.mono _ _ _) | (with_reducible exact LeO.refl _) | (with_reducible refine LeO.bind ?_ (fun _ => ?_))
set_option maxHeartbeats 8000000 in
set_option maxRecDepth 100000 in
theorem wire_count.calls (k : Nat) (a0 : ByteArray) (a1 : Int) (a2 : Int) (r1 : Int) (r2 : Int) (r3 : Int) (w : World) (h : wire_count.f k a0 a1 a2 = some (r1, r2, r3)) :
    Calls Try.prog 67 #[.string a0, .int .i64 a1, .int .i64 a2] w fun e w' => e = .returned (.tuple #[.int .i64 r1, .int .i64 r2, .int .i64 r3]) ∧ Drawn0 w w' := by
  have H : ((wire_Int.f k a0 a1).bind fun bt246 => (if bt246.2.2 = 0 then (if bt246.1 < 0 then (none) else (if bt246.1 > a2 then (none) else (some (bt246.1, bt246.2.1, 0)))) else (none))) = some (r1, r2, r3) := h
  clear h
  replace H := Option.bind_eq_some_iff.mp H
  obtain ⟨⟨t246, t247, t248⟩, A40, H⟩ := H
  replace H : (if t248 = 0 then (if t246 < 0 then (none) else (if t246 > a2 then (none) else (some (t246, t247, 0)))) else (none)) = some (r1, r2, r3) := H
  have A4 := Aside0.mk A40
  clear A40
  by_cases c5 : t248 = 0
  · rw [if_pos c5] at H
    have c5b0 : (t248 == 0) = true := beq_iff_eq.mpr c5
    have c5b1 : (t248 != 0) = false := bne_eq_false_iff_eq.mpr c5
    clear c5
    by_cases c6 : t246 < 0
    · rw [if_pos c6] at H
      exact absurd H (by simp)
    · rw [if_neg c6] at H
      have c6b0 : decide (t246 < 0) = false := decide_eq_false c6
      clear c6
      by_cases c7 : t246 > a2
      · rw [if_pos c7] at H
        exact absurd H (by simp)
      · rw [if_neg c7] at H
        have c7b0 : decide (a2 < t246) = false := decide_eq_false c7
        clear c7
        simp only [Option.some.injEq, Prod.mk.injEq] at H
        obtain ⟨rfl, rfl, rfl⟩ := H
        go_enter Try.func67, Try.ntmps67
        go_wp2_with (((with_reducible refine gate_callee (f := 49) rfl ?_); refine goesL_ (some 14) rfl rfl Try.func49 (by kernel_rfl) rfl #[.string a0, .int .i64 a1] rfl (by ((simp only [List.map_toArray, List.map_cons, List.map_nil])); (rfl)) ?_; (with_reducible refine (wire_Int.calls k a0 a1 t246 t247 t248 _ A4.out).mono ?_); rintro e w' ⟨rfl, ⟨nd, rfl⟩⟩; refine ⟨_, rfl, ?_⟩))
        go_ret3
        exact ⟨by (rfl), by repeat (first | exact Drawn0.refl _ | apply Drawn0.step)⟩
  · rw [if_neg c5] at H
    exact absurd H (by simp)

end Go.Proofs.Ythfddndmhjkeiaa.L
end
section
-- Printed for this claim by a small program of the session's own, drv.py, round the kit's print.py. Lean checks it.
namespace Go.Proofs.Ythfddndmhjkeiaa.L
open Go.RowKit Go.Proofs.YthfddndmhjkeiaaW.PrintWords Go.Proofs.YthfddndmhjkeiaaW.PrintLast Go.Proofs.YthfddndmhjkeiaaW.PrintMore
attribute [local go_sem] max2_int min2_int max_two min_two max_three min_three max_four min_four   -- for this text's walks alone
set_option linter.unusedVariables false
set_option linter.unusedSimpArgs false

/-! ### wire_Text: function 50 -/
def wire_Text.f (k : Nat) (a0 : ByteArray) (a1 : Int) (a2 : Int) : Option (ByteArray × Int × Int) := (wire_count.f k a0 a1 a2).bind fun bt249 => (if bt249.2.2 = 0 then (if bt249.1 > (wrap64 ((a0.size : Int) - bt249.2.1)) then (none) else (if 0 ≤ bt249.2.1 then (if bt249.2.1 ≤ (wrap64 (bt249.2.1 + bt249.1)) then (if (wrap64 (bt249.2.1 + bt249.1)) ≤ (a0.size : Int) then (some (a0.extract (bt249.2.1 : Int).toNat ((wrap64 (bt249.2.1 + bt249.1)) : Int).toNat, wrap64 (bt249.2.1 + bt249.1), 0)) else (none)) else (none)) else (none))) else (none))
theorem wire_Text.mono : ∀ a0 a1 a2 k, LeO (wire_Text.f k a0 a1 a2) (wire_Text.f (k + 1) a0 a1 a2) := by
  intro a0 a1 a2 k
  unfold wire_Text.f
  repeat' first | (with_reducible exact wire_count.mono _ _ _ _) | (with_reducible exact LeO.refl _) | (with_reducible refine LeO.bind ?_ (fun _ => ?_))
set_option maxHeartbeats 8000000 in
set_option maxRecDepth 100000 in
theorem wire_Text.calls (k : Nat) (a0 : ByteArray) (a1 : Int) (a2 : Int) (r1 : ByteArray) (r2 : Int) (r3 : Int) (w : World) (h : wire_Text.f k a0 a1 a2 = some (r1, r2, r3)) :
    Calls Try.prog 50 #[.string a0, .int .i64 a1, .int .i64 a2] w fun e w' => e = .returned (.tuple #[.string r1, .int .i64 r2, .int .i64 r3]) ∧ Drawn0 w w' := by
  have H : ((wire_count.f k a0 a1 a2).bind fun bt249 => (if bt249.2.2 = 0 then (if bt249.1 > (wrap64 ((a0.size : Int) - bt249.2.1)) then (none) else (if 0 ≤ bt249.2.1 then (if bt249.2.1 ≤ (wrap64 (bt249.2.1 + bt249.1)) then (if (wrap64 (bt249.2.1 + bt249.1)) ≤ (a0.size : Int) then (some (a0.extract (bt249.2.1 : Int).toNat ((wrap64 (bt249.2.1 + bt249.1)) : Int).toNat, wrap64 (bt249.2.1 + bt249.1), 0)) else (none)) else (none)) else (none))) else (none))) = some (r1, r2, r3) := h
  clear h
  replace H := Option.bind_eq_some_iff.mp H
  obtain ⟨⟨t249, t250, t251⟩, A40, H⟩ := H
  replace H : (if t251 = 0 then (if t249 > (wrap64 ((a0.size : Int) - t250)) then (none) else (if 0 ≤ t250 then (if t250 ≤ (wrap64 (t250 + t249)) then (if (wrap64 (t250 + t249)) ≤ (a0.size : Int) then (some (a0.extract (t250 : Int).toNat ((wrap64 (t250 + t249)) : Int).toNat, wrap64 (t250 + t249), 0)) else (none)) else (none)) else (none))) else (none)) = some (r1, r2, r3) := H
  have A4 := Aside0.mk A40
  clear A40
  by_cases c5 : t251 = 0
  · rw [if_pos c5] at H
    have c5b0 : (t251 == 0) = true := beq_iff_eq.mpr c5
    have c5b1 : (t251 != 0) = false := bne_eq_false_iff_eq.mpr c5
    clear c5
    by_cases c6 : t249 > (wrap64 ((a0.size : Int) - t250))
    · rw [if_pos c6] at H
      exact absurd H (by simp)
    · rw [if_neg c6] at H
      have c6b0 : decide ((wrap64 ((a0.size : Int) - t250)) < t249) = false := decide_eq_false c6
      clear c6
      by_cases c7 : 0 ≤ t250
      · rw [if_pos c7] at H
        have c7b0 := eq_true c7
        have c7b1 : decide (0 ≤ t250) = true := decide_eq_true c7
        clear c7
        by_cases c8 : t250 ≤ (wrap64 (t250 + t249))
        · rw [if_pos c8] at H
          have c8b0 := eq_true c8
          have c8b1 : decide (t250 ≤ (wrap64 (t250 + t249))) = true := decide_eq_true c8
          by_cases c9 : (wrap64 (t250 + t249)) ≤ (a0.size : Int)
          · rw [if_pos c9] at H
            have c9b0 := eq_true c9
            have c9b1 : decide ((wrap64 (t250 + t249)) ≤ (a0.size : Int)) = true := decide_eq_true c9
            simp only [Option.some.injEq, Prod.mk.injEq] at H
            obtain ⟨rfl, rfl, rfl⟩ := H
            go_enter Try.func50, Try.ntmps50
            go_wp2_with (((with_reducible refine gate_callee (f := 67) rfl ?_); refine goesL_ (some 15) rfl rfl Try.func67 (by kernel_rfl) rfl #[.string a0, .int .i64 a1, .int .i64 a2] rfl (by ((simp only [List.map_toArray, List.map_cons, List.map_nil])); (rfl)) ?_; (with_reducible refine (wire_count.calls k a0 a1 a2 t249 t250 t251 _ A4.out).mono ?_); rintro e w' ⟨rfl, ⟨nd, rfl⟩⟩; refine ⟨_, rfl, ?_⟩))
            go_ret3
            exact ⟨by (rfl), by repeat (first | exact Drawn0.refl _ | apply Drawn0.step)⟩
          · rw [if_neg c9] at H
            exact absurd H (by simp)
        · rw [if_neg c8] at H
          exact absurd H (by simp)
      · rw [if_neg c7] at H
        exact absurd H (by simp)
  · rw [if_neg c5] at H
    exact absurd H (by simp)

end Go.Proofs.Ythfddndmhjkeiaa.L
end
section
-- Printed for this claim by a small program of the session's own, drv.py, round the kit's print.py. Lean checks it.
namespace Go.Proofs.Ythfddndmhjkeiaa.L
open Go.RowKit Go.Proofs.YthfddndmhjkeiaaW.PrintWords Go.Proofs.YthfddndmhjkeiaaW.PrintLast Go.Proofs.YthfddndmhjkeiaaW.PrintMore
attribute [local go_sem] max2_int min2_int max_two min_two max_three min_three max_four min_four   -- for this text's walks alone
set_option linter.unusedVariables false
set_option linter.unusedSimpArgs false

/-! ### seal_Decode: function 27 -/
def seal_Decode.f (k : Nat) (a0 : ByteArray) (a1 : Int) : Option (Int × ByteArray × Int × Int) := (wire_Int.f k a0 a1).bind fun bt253 => (if bt253.2.2 = 0 then ((wire_Text.f k a0 bt253.2.1 16384).bind fun bt256 => (if bt256.2.2 = 0 then ((seal_valid.f bt253.1 bt256.1).bind fun t260 => (if t260 = true then (some (bt253.1, bt256.1, bt256.2.1, 0)) else (none))) else (none))) else (none))
theorem seal_Decode.mono : ∀ a0 a1 k, LeO (seal_Decode.f k a0 a1) (seal_Decode.f (k + 1) a0 a1) := by
  intro a0 a1 k
  unfold seal_Decode.f
  repeat' first | (with_reducible exact wire_Int.mono _ _ _) | (with_reducible exact wire_Text.mono _ _ _ _) | (with_reducible exact LeO.refl _) | (with_reducible refine LeO.ite ?_ ?_) | (with_reducible refine LeO.bind ?_ (fun _ => ?_))
set_option maxHeartbeats 8000000 in
set_option maxRecDepth 100000 in
theorem seal_Decode.calls (k : Nat) (a0 : ByteArray) (a1 : Int) (r1 : Int) (r2 : ByteArray) (r3 : Int) (r4 : Int) (w : World) (h : seal_Decode.f k a0 a1 = some (r1, r2, r3, r4)) :
    Calls Try.prog 27 #[.string a0, .int .i64 a1] w fun e w' => e = .returned (.tuple #[.agg #[.int .i64 r1, .string r2], .int .i64 r3, .int .i64 r4]) ∧ Below w.heap.size w w' := by
  have hu55 := Try.underlying55
  have HB := Aside0.mk (Below.refl w.heap.size w)
  have H : ((wire_Int.f k a0 a1).bind fun bt253 => (if bt253.2.2 = 0 then ((wire_Text.f k a0 bt253.2.1 16384).bind fun bt256 => (if bt256.2.2 = 0 then ((seal_valid.f bt253.1 bt256.1).bind fun t260 => (if t260 = true then (some (bt253.1, bt256.1, bt256.2.1, 0)) else (none))) else (none))) else (none))) = some (r1, r2, r3, r4) := h
  clear h
  replace H := Option.bind_eq_some_iff.mp H
  obtain ⟨⟨t253, t254, t255⟩, A30, H⟩ := H
  replace H : (if t255 = 0 then ((wire_Text.f k a0 t254 16384).bind fun bt256 => (if bt256.2.2 = 0 then ((seal_valid.f t253 bt256.1).bind fun t260 => (if t260 = true then (some (t253, bt256.1, bt256.2.1, 0)) else (none))) else (none))) else (none)) = some (r1, r2, r3, r4) := H
  have A3 := Aside0.mk A30
  clear A30
  by_cases c4 : t255 = 0
  · rw [if_pos c4] at H
    have c4b0 : (t255 == 0) = true := beq_iff_eq.mpr c4
    have c4b1 : (t255 != 0) = false := bne_eq_false_iff_eq.mpr c4
    clear c4
    replace H := Option.bind_eq_some_iff.mp H
    obtain ⟨⟨t256, t257, t258⟩, A50, H⟩ := H
    replace H : (if t258 = 0 then ((seal_valid.f t253 t256).bind fun t260 => (if t260 = true then (some (t253, t256, t257, 0)) else (none))) else (none)) = some (r1, r2, r3, r4) := H
    have A5 := Aside0.mk A50
    clear A50
    by_cases c6 : t258 = 0
    · rw [if_pos c6] at H
      have c6b0 : (t258 == 0) = true := beq_iff_eq.mpr c6
      have c6b1 : (t258 != 0) = false := bne_eq_false_iff_eq.mpr c6
      clear c6
      replace H := Option.bind_eq_some_iff.mp H
      obtain ⟨t260, A70, H⟩ := H
      replace H : (if t260 = true then (some (t253, t256, t257, 0)) else (none)) = some (r1, r2, r3, r4) := H
      have A7 := Aside0.mk A70
      clear A70
      by_cases c8 : t260 = true
      · subst c8
        have H1 : (some (t253, t256, t257, 0)) = some (r1, r2, r3, r4) := by rw [if_pos rfl] at H; exact H
        clear H
        have H := H1
        clear H1
        simp only [Option.some.injEq, Prod.mk.injEq] at H
        obtain ⟨rfl, rfl, rfl, rfl⟩ := H
        go_enter Try.func27, Try.ntmps27
        go_wp2_with (first | ((with_reducible refine gate_dst (N := 4) rfl ?_); refine box_event ?hg (N := 4) ?hd (cs := #[.int .i64 0, .string (⟨#[]⟩ : ByteArray)]) (t := 55) ?hr ?_; (case hd => rfl); (case hg => rfl); (case hr => (go_simp; done)); intro gb252 hg w9 hbox hb; have n0_ := Aside0.mk (below_step HB.out hb); have n1_ := Aside0.mk (hbox); have n2_ := Aside0.mk ((by rw [hg]; exact (below_size HB.out) : w.heap.size ≤ gb252)); have n3_ := Aside0.mk ((by rw [hg]; exact (below_size HB.out) : w.heap.size ≤ gb252)); clear HB; have HB := n0_; have BK252 := n1_; have GW252 := n2_; have GE252 := n3_; clear n0_ n1_ n2_ n3_; clear hb hbox hg) | ((with_reducible refine gate_callee (f := 49) rfl ?_); refine goesL_ (some 14) rfl rfl Try.func49 (by kernel_rfl) rfl #[.string a0, .int .i64 a1] rfl (by ((simp only [List.map_toArray, List.map_cons, List.map_nil])); (rfl)) ?_; (with_reducible refine (wire_Int.calls k a0 a1 t253 t254 t255 _ A3.out).mono ?_); rintro e w' ⟨rfl, ⟨nd, rfl⟩⟩; refine ⟨_, rfl, ?_⟩; ((rw [drewN_self w9]; generalize hq_ : World.drewN w9 _ = w9; have n0_ : Aside0 (w9.heap[gb252]? = some (.cells #[.int .i64 0, .string (⟨#[]⟩ : ByteArray)] 55 (0, 0))) := ⟨by rw [← hq_]; exact (by (with_reducible repeat ((refine blk_drewN ?_ _))); exact BK252.out)⟩; have n1_ : Aside0 (Below w.heap.size w w9) := ⟨by rw [← hq_]; exact (by repeat ((with_reducible first | exact HB.out | apply pw_below_drewN)))⟩; clear BK252 HB hq_; have BK252 := n0_; have HB := n1_; clear n0_ n1_))) | ((with_reducible refine gate_callee (f := 50) rfl ?_); refine goesL_ (some 25) rfl rfl Try.func50 (by kernel_rfl) rfl #[.string a0, .int .i64 t254, .int .i64 16384] rfl (by ((simp only [List.map_toArray, List.map_cons, List.map_nil])); (rfl)) ?_; (with_reducible refine (wire_Text.calls k a0 t254 16384 t256 t257 t258 _ A5.out).mono ?_); rintro e w' ⟨rfl, ⟨nd, rfl⟩⟩; refine ⟨_, rfl, ?_⟩; ((rw [drewN_self w9]; generalize hq_ : World.drewN w9 _ = w9; have n0_ : Aside0 (w9.heap[gb252]? = some (.cells #[.int .i64 0, .string (⟨#[]⟩ : ByteArray)] 55 (0, 0))) := ⟨by rw [← hq_]; exact (by (with_reducible repeat ((refine blk_drewN ?_ _))); exact BK252.out)⟩; have n1_ : Aside0 (Below w.heap.size w w9) := ⟨by rw [← hq_]; exact (by repeat ((with_reducible first | exact HB.out | apply pw_below_drewN)))⟩; clear BK252 HB hq_; have BK252 := n0_; have HB := n1_; clear n0_ n1_))) | ((with_reducible refine gate_dst (N := 10) rfl ?_); refine box_event ?hg (N := 10) ?hd (cs := #[.int .i64 0, .string (⟨#[]⟩ : ByteArray)]) (t := 55) ?hr ?_; (case hd => rfl); (case hg => rfl); (case hr => (go_simp; done)); intro gb259 hg w10 hbox hb; have n0_ := Aside0.mk (blk_below (g := gb252) (o := .cells #[.int .i64 0, .string (⟨#[]⟩ : ByteArray)] 55 (0, 0)) (by exact BK252.out) hb); have n1_ := Aside0.mk (below_step HB.out hb); have n2_ := Aside0.mk (hbox); have n3_ := Aside0.mk ((by rw [hg]; exact (below_size HB.out) : w.heap.size ≤ gb259)); have n4_ := Aside0.mk ((by rw [hg]; exact (below_size HB.out) : w.heap.size ≤ gb259)); have n5_ := Aside0.mk ((by rw [hg]; exact Nat.ne_of_lt (blk_lt (g := gb252) (o := .cells #[.int .i64 0, .string (⟨#[]⟩ : ByteArray)] 55 (0, 0)) (by exact BK252.out)) : gb252 ≠ gb259)); have n6_ := Aside0.mk ((by rw [hg]; exact Nat.ne_of_gt (blk_lt (g := gb252) (o := .cells #[.int .i64 0, .string (⟨#[]⟩ : ByteArray)] 55 (0, 0)) (by exact BK252.out)) : gb259 ≠ gb252)); clear BK252 HB; have BK252 := n0_; have HB := n1_; have BK259 := n2_; have GW259 := n3_; have GE259 := n4_; have NB252_259 := n5_; have NB259_252 := n6_; clear n0_ n1_ n2_ n3_ n4_ n5_ n6_; clear hb hbox hg; have hnb11 := NB259_252.out; have hnc11 := NB252_259.out; have hcz12_0 : w10.cell? ⟨gb259, 0, none⟩ = some (.int .i64 0) := (blk_cell BK259.out 0).trans rfl; have hcz12_1 : w10.cell? ⟨gb259, 1, none⟩ = some (.string (⟨#[]⟩ : ByteArray)) := (blk_cell BK259.out 1).trans rfl; have hfz12_0 := blk_frozen BK259.out 0; have hfz12_1 := blk_frozen BK259.out 1) | ((with_reducible refine gate_callee (f := 35) rfl ?_); refine goesL_ (some 37) rfl rfl Try.func35 (by kernel_rfl) rfl #[.agg #[.int .i64 t253, .string t256]] rfl (by ((simp only [List.map_toArray, List.map_cons, List.map_nil])); (rfl)) ?_; (with_reducible refine (seal_valid.calls t253 t256 true _ A7.out).mono ?_); rintro e w13 ⟨rfl, hb⟩; refine ⟨_, rfl, ?_⟩; have n0_ := Aside0.mk (blk_below (g := gb252) (o := .cells #[.int .i64 0, .string (⟨#[]⟩ : ByteArray)] 55 (0, 0)) (by refine blk_far ?_ NB252_259.out _; refine blk_far ?_ NB252_259.out _; exact BK252.out) hb); have n1_ := Aside0.mk (blk_below (g := gb259) (o := .cells #[.int .i64 t253, .string t256] 55 (0, 0)) (by refine blk_put (cs := #[.int .i64 t253, .string (⟨#[]⟩ : ByteArray)]) ?_ 1 _ rfl; refine blk_put (cs := #[.int .i64 0, .string (⟨#[]⟩ : ByteArray)]) ?_ 0 _ rfl; exact BK259.out) hb); have n2_ := Aside0.mk (below_step (by repeat ((with_reducible first | exact HB.out | refine below_set ?_ GE259.out))) hb); clear BK252 BK259 HB; have BK252 := n0_; have BK259 := n1_; have HB := n2_; clear n0_ n1_ n2_; clear hb; have hcz14_0 : w13.cell? ⟨gb259, 0, none⟩ = some (.int .i64 t253) := (blk_cell BK259.out 0).trans rfl; have hcz14_1 : w13.cell? ⟨gb259, 1, none⟩ = some (.string t256) := (blk_cell BK259.out 1).trans rfl; have hfz14_0 := blk_frozen BK259.out 0; have hfz14_1 := blk_frozen BK259.out 1; have hcz15_0 : w13.cell? ⟨gb252, 0, none⟩ = some (.int .i64 0) := (blk_cell BK252.out 0).trans rfl; have hcz15_1 : w13.cell? ⟨gb252, 1, none⟩ = some (.string (⟨#[]⟩ : ByteArray)) := (blk_cell BK252.out 1).trans rfl; have hfz15_0 := blk_frozen BK252.out 0; have hfz15_1 := blk_frozen BK252.out 1))
        refine bodyPost_ret (results_ctt rfl _ _ gb252 55 #[.int .i64 t253, .string t256] (0, 0) _ rfl (by refine blk_put (cs := #[.int .i64 t253, .string (⟨#[]⟩ : ByteArray)]) ?_ 1 _ rfl; refine blk_put (cs := #[.int .i64 0, .string (⟨#[]⟩ : ByteArray)]) ?_ 0 _ rfl; exact BK252.out) Try.underlying55 rfl (by kernel_rfl)) rfl ?_
        exact ⟨by (rfl), by repeat ((with_reducible first | exact HB.out | refine below_set ?_ GE252.out))⟩
      · replace c8 := Bool.eq_false_iff.mpr c8
        subst c8
        have H1 : (none) = some (r1, r2, r3, r4) := by rw [if_neg (show ¬ (false = true) by decide)] at H; exact H
        clear H
        have H := H1
        clear H1
        exact absurd H (by simp)
    · rw [if_neg c6] at H
      have c6b0 : (t258 == 0) = false := beq_eq_false_iff_ne.mpr c6
      have c6b1 : (t258 != 0) = true := bne_iff_ne.mpr c6
      exact absurd H (by simp)
  · rw [if_neg c4] at H
    have c4b0 : (t255 == 0) = false := beq_eq_false_iff_ne.mpr c4
    have c4b1 : (t255 != 0) = true := bne_iff_ne.mpr c4
    exact absurd H (by simp)

end Go.Proofs.Ythfddndmhjkeiaa.L
end
section
-- Printed for this claim by a small program of the session's own, drv.py, round the kit's print.py. Lean checks it.
namespace Go.Proofs.Ythfddndmhjkeiaa.L
open Go.RowKit Go.Proofs.YthfddndmhjkeiaaW.PrintWords Go.Proofs.YthfddndmhjkeiaaW.PrintLast Go.Proofs.YthfddndmhjkeiaaW.PrintMore
attribute [local go_sem] max2_int min2_int max_two min_two max_three min_three max_four min_four   -- for this text's walks alone
set_option linter.unusedVariables false
set_option linter.unusedSimpArgs false

/-! ### seal_Open: function 28 -/
def seal_Open.f (a0_0 : Int) (a0_1 : ByteArray) (a1 : Int) : Option (ByteArray × Int) := (seal_valid.f a0_0 a0_1).bind fun t262 => (if t262 = true then ((seal_key_valid.f a1).bind fun t263 => (if t263 = true then ((seal_key_lock.f a1).bind fun t264 => (if a0_0 = t264 then (some (a0_1, 0)) else (some ((⟨#[]⟩ : ByteArray), 9)))) else (none))) else (none))
set_option maxHeartbeats 8000000 in
set_option maxRecDepth 100000 in
theorem seal_Open.calls (a0_0 : Int) (a0_1 : ByteArray) (a1 : Int) (r1 : ByteArray) (r2 : Int) (w : World) (h : seal_Open.f a0_0 a0_1 a1 = some (r1, r2)) :
    Calls Try.prog 28 #[.agg #[.int .i64 a0_0, .string a0_1], .int .i64 a1] w fun e w' => e = .returned (.tuple #[.string r1, .int .i64 r2]) ∧ Below w.heap.size w w' := by
  have hu55 := Try.underlying55
  have HB := Aside0.mk (Below.refl w.heap.size w)
  have H : ((seal_valid.f a0_0 a0_1).bind fun t262 => (if t262 = true then ((seal_key_valid.f a1).bind fun t263 => (if t263 = true then ((seal_key_lock.f a1).bind fun t264 => (if a0_0 = t264 then (some (a0_1, 0)) else (some ((⟨#[]⟩ : ByteArray), 9)))) else (none))) else (none))) = some (r1, r2) := h
  clear h
  replace H := Option.bind_eq_some_iff.mp H
  obtain ⟨t262, A30, H⟩ := H
  replace H : (if t262 = true then ((seal_key_valid.f a1).bind fun t263 => (if t263 = true then ((seal_key_lock.f a1).bind fun t264 => (if a0_0 = t264 then (some (a0_1, 0)) else (some ((⟨#[]⟩ : ByteArray), 9)))) else (none))) else (none)) = some (r1, r2) := H
  have A3 := Aside0.mk A30
  clear A30
  by_cases c4 : t262 = true
  · subst c4
    have H1 : ((seal_key_valid.f a1).bind fun t263 => (if t263 = true then ((seal_key_lock.f a1).bind fun t264 => (if a0_0 = t264 then (some (a0_1, 0)) else (some ((⟨#[]⟩ : ByteArray), 9)))) else (none))) = some (r1, r2) := by rw [if_pos rfl] at H; exact H
    clear H
    have H := H1
    clear H1
    replace H := Option.bind_eq_some_iff.mp H
    obtain ⟨t263, A50, H⟩ := H
    replace H : (if t263 = true then ((seal_key_lock.f a1).bind fun t264 => (if a0_0 = t264 then (some (a0_1, 0)) else (some ((⟨#[]⟩ : ByteArray), 9)))) else (none)) = some (r1, r2) := H
    have A5 := Aside0.mk A50
    clear A50
    by_cases c6 : t263 = true
    · subst c6
      have H1 : ((seal_key_lock.f a1).bind fun t264 => (if a0_0 = t264 then (some (a0_1, 0)) else (some ((⟨#[]⟩ : ByteArray), 9)))) = some (r1, r2) := by rw [if_pos rfl] at H; exact H
      clear H
      have H := H1
      clear H1
      replace H := Option.bind_eq_some_iff.mp H
      obtain ⟨t264, A70, H⟩ := H
      replace H : (if a0_0 = t264 then (some (a0_1, 0)) else (some ((⟨#[]⟩ : ByteArray), 9))) = some (r1, r2) := H
      have A7 := Aside0.mk A70
      clear A70
      by_cases c8 : a0_0 = t264
      · rw [if_pos c8] at H
        have c8b0 : (a0_0 == t264) = true := beq_iff_eq.mpr c8
        have c8b1 : (a0_0 != t264) = false := bne_eq_false_iff_eq.mpr c8
        clear c8
        simp only [Option.some.injEq, Prod.mk.injEq] at H
        obtain ⟨rfl, rfl⟩ := H
        go_enter Try.func28, Try.ntmps28
        go_wp2_with (first | ((with_reducible refine gate_dst (N := 2) rfl ?_); refine box_event ?hg (N := 2) ?hd (cs := #[.int .i64 a0_0, .string a0_1]) (t := 55) ?hr ?_; (case hd => rfl); (case hg => rfl); (case hr => (go_simp; done)); intro gb261 hg w9 hbox hb; have n0_ := Aside0.mk (below_step HB.out hb); have n1_ := Aside0.mk (hbox); have n2_ := Aside0.mk ((by rw [hg]; exact (below_size HB.out) : w.heap.size ≤ gb261)); have n3_ := Aside0.mk ((by rw [hg]; exact (below_size HB.out) : w.heap.size ≤ gb261)); clear HB; have HB := n0_; have BK261 := n1_; have GW261 := n2_; have GE261 := n3_; clear n0_ n1_ n2_ n3_; clear hb hbox hg; have hcz10_0 : w9.cell? ⟨gb261, 0, none⟩ = some (.int .i64 a0_0) := (blk_cell BK261.out 0).trans rfl; have hcz10_1 : w9.cell? ⟨gb261, 1, none⟩ = some (.string a0_1) := (blk_cell BK261.out 1).trans rfl; have hfz10_0 := blk_frozen BK261.out 0; have hfz10_1 := blk_frozen BK261.out 1) | (go_at_call 35; (with_reducible refine (seal_valid.calls a0_0 a0_1 true _ A3.out).mono ?_); rintro e w11 ⟨rfl, hb⟩; have n0_ := Aside0.mk (blk_below (g := gb261) (o := .cells #[.int .i64 a0_0, .string a0_1] 55 (0, 0)) (by exact BK261.out) hb); have n1_ := Aside0.mk (below_step HB.out hb); clear BK261 HB; have BK261 := n0_; have HB := n1_; clear n0_ n1_; clear hb) | (go_at_call 33; (with_reducible refine (seal_key_valid.calls a1 true _ A5.out).mono ?_); rintro e w' ⟨rfl, ⟨nd, rfl⟩⟩; have hcz12_0 : w11.cell? ⟨gb261, 0, none⟩ = some (.int .i64 a0_0) := (blk_cell BK261.out 0).trans rfl; have hcz12_1 : w11.cell? ⟨gb261, 1, none⟩ = some (.string a0_1) := (blk_cell BK261.out 1).trans rfl; have hfz12_0 := blk_frozen BK261.out 0; have hfz12_1 := blk_frozen BK261.out 1))
        repeat (go_quiet ((go_at_call 34; (with_reducible refine (seal_key_lock.calls a1 t264 _ A7.out).mono ?_); rintro e w' ⟨rfl, ⟨nd, rfl⟩⟩; ((exact ⟨rfl, _, Eq.trans (World.drewN_drewN _ _ _) (congrArg (World.drewN _) (Nat.add_assoc _ _ _))⟩)))); (go_wp2_with (fail)))
        go_ret2
        exact ⟨by (rfl), by repeat ((with_reducible first | exact HB.out | apply pw_below_drewN))⟩
      · rw [if_neg c8] at H
        have c8b0 : (a0_0 == t264) = false := beq_eq_false_iff_ne.mpr c8
        have c8b1 : (a0_0 != t264) = true := bne_iff_ne.mpr c8
        simp only [Option.some.injEq, Prod.mk.injEq] at H
        obtain ⟨rfl, rfl⟩ := H
        go_enter Try.func28, Try.ntmps28
        go_wp2_with (first | ((with_reducible refine gate_dst (N := 2) rfl ?_); refine box_event ?hg (N := 2) ?hd (cs := #[.int .i64 a0_0, .string a0_1]) (t := 55) ?hr ?_; (case hd => rfl); (case hg => rfl); (case hr => (go_simp; done)); intro gb261 hg w13 hbox hb; have n0_ := Aside0.mk (below_step HB.out hb); have n1_ := Aside0.mk (hbox); have n2_ := Aside0.mk ((by rw [hg]; exact (below_size HB.out) : w.heap.size ≤ gb261)); have n3_ := Aside0.mk ((by rw [hg]; exact (below_size HB.out) : w.heap.size ≤ gb261)); clear HB; have HB := n0_; have BK261 := n1_; have GW261 := n2_; have GE261 := n3_; clear n0_ n1_ n2_ n3_; clear hb hbox hg; have hcz14_0 : w13.cell? ⟨gb261, 0, none⟩ = some (.int .i64 a0_0) := (blk_cell BK261.out 0).trans rfl; have hcz14_1 : w13.cell? ⟨gb261, 1, none⟩ = some (.string a0_1) := (blk_cell BK261.out 1).trans rfl; have hfz14_0 := blk_frozen BK261.out 0; have hfz14_1 := blk_frozen BK261.out 1) | (go_at_call 35; (with_reducible refine (seal_valid.calls a0_0 a0_1 true _ A3.out).mono ?_); rintro e w15 ⟨rfl, hb⟩; have n0_ := Aside0.mk (blk_below (g := gb261) (o := .cells #[.int .i64 a0_0, .string a0_1] 55 (0, 0)) (by exact BK261.out) hb); have n1_ := Aside0.mk (below_step HB.out hb); clear BK261 HB; have BK261 := n0_; have HB := n1_; clear n0_ n1_; clear hb) | (go_at_call 33; (with_reducible refine (seal_key_valid.calls a1 true _ A5.out).mono ?_); rintro e w' ⟨rfl, ⟨nd, rfl⟩⟩; have hcz16_0 : w15.cell? ⟨gb261, 0, none⟩ = some (.int .i64 a0_0) := (blk_cell BK261.out 0).trans rfl; have hcz16_1 : w15.cell? ⟨gb261, 1, none⟩ = some (.string a0_1) := (blk_cell BK261.out 1).trans rfl; have hfz16_0 := blk_frozen BK261.out 0; have hfz16_1 := blk_frozen BK261.out 1))
        repeat (go_quiet ((go_at_call 34; (with_reducible refine (seal_key_lock.calls a1 t264 _ A7.out).mono ?_); rintro e w' ⟨rfl, ⟨nd, rfl⟩⟩; ((exact ⟨rfl, _, Eq.trans (World.drewN_drewN _ _ _) (congrArg (World.drewN _) (Nat.add_assoc _ _ _))⟩)))); (go_wp2_with (fail)))
        go_ret2
        exact ⟨by (rfl), by repeat ((with_reducible first | exact HB.out | apply pw_below_drewN))⟩
    · replace c6 := Bool.eq_false_iff.mpr c6
      subst c6
      have H1 : (none) = some (r1, r2) := by rw [if_neg (show ¬ (false = true) by decide)] at H; exact H
      clear H
      have H := H1
      clear H1
      exact absurd H (by simp)
  · replace c4 := Bool.eq_false_iff.mpr c4
    subst c4
    have H1 : (none) = some (r1, r2) := by rw [if_neg (show ¬ (false = true) by decide)] at H; exact H
    clear H
    have H := H1
    clear H1
    exact absurd H (by simp)

end Go.Proofs.Ythfddndmhjkeiaa.L
end
section
/- stripe.Check: what it returns. -/
namespace Go.Proofs.Ythfddndmhjkeiaa.L
open Go.RowKit Go.Proofs.YthfddndmhjkeiaaW.PrintWords Go.Proofs.YthfddndmhjkeiaaW.PrintLast Go.Proofs.YthfddndmhjkeiaaW.PrintMore
set_option linter.unusedVariables false
set_option linter.unusedSimpArgs false
/-- No digest. -/
def badD (d : Int) : Bool := decide (d < 0) || decide (2147483647 ≤ d)
def stripe_Check.f (a0_0 a0_1 a0_2 : Int) (l : List Int) : Option Int :=
  (erasure_Check.f a0_0 a0_1).bind fun c => if c = 0 then (if a0_2 < 2 then some 1 else ((erasure_Length.f a0_0 a0_1 a0_2).bind fun t => if t.2 = 0 then (if (l.length : Int) = a0_1 then (if l.any badD = true then some 2 else some 0) else some 2) else some t.2)) else some c
set_option maxHeartbeats 600000 in
theorem badD_pred (w : World) : PredAt Try.prog 32 #[] (Value.int .i64) badD w := by
  intro W d _
  unfold FnGives
  by_cases h1 : d < 0
  · have e1 : badD d = true := by unfold badD; rw [decide_eq_true h1]; rfl
    have b1 : decide (d < 0) = true := decide_eq_true h1
    rw [e1]
    go_enter Try.func32, Try.ntmps32
    go_wp2_with fail
    go_ret
    exact ⟨rfl, 0, rfl⟩
  · by_cases h2 : 2147483647 ≤ d
    · have e1 : badD d = true := by unfold badD; rw [decide_eq_true h2]; simp
      have b1 : decide (d < 0) = false := decide_eq_false h1
      have b2 : decide (d ≥ 2147483647) = true := decide_eq_true h2
      rw [e1]
      go_enter Try.func32, Try.ntmps32
      go_wp2_with fail
      go_ret
      exact ⟨rfl, 0, rfl⟩
    · have e1 : badD d = false := by unfold badD; rw [decide_eq_false h1, decide_eq_false h2]; rfl
      have b1 : decide (d < 0) = false := decide_eq_false h1
      have b2 : decide (d ≥ 2147483647) = false := decide_eq_false h2
      rw [e1]
      go_enter Try.func32, Try.ntmps32
      go_wp2_with fail
      go_ret
      exact ⟨rfl, 0, rfl⟩
theorem contains_bad (A : Option Addr) (c : Nat) (l : List Int) (w : World) (h : Kd.C (Kd.int .i64) w A l.length l) :
    Calls Try.prog 31 #[.slice A l.length c, .func (.func 32) #[] #[]] w fun e w' => e = .returned (.bool (l.any badD)) ∧ ∃ q, w' = w.drewN q := by
  by_cases hl : 0 < l.length
  · obtain ⟨ad, e, hc⟩ := (Kd.reads_of_C (enc := Value.int .i64) (d := (0 : Int)) (h1 := fun _ => rfl) h).2.2 hl
    subst e
    have h0 := hc 0 hl
    have hs := World.cell?_spot h0
    obtain ⟨b, off, sp⟩ := ad
    have hsp : sp = none := by
      unfold Addr.add at hs
      cases sp with
      | none => rfl
      | some x => simp_all
    subst hsp
    have := Try.slices_ContainsFunc (α := Int) (Value.int .i64) badD 32 #[] (enters_of Try.func32 (by kernel_rfl) rfl) b off l.length c l w (badD_pred w) (Nat.le_refl _) h.2.1 (fun j hj => by
      have := hc j hj
      rw [show (⟨b, off, none⟩ : Addr).add j = ⟨b, off + j, none⟩ from by unfold Addr.add; split <;> simp_all] at this
      rw [this, List.getD_eq_getElem?_getD, List.getElem?_eq_getElem hj, getElem!_pos l j hj]
      rfl)
    rwa [List.take_length] at this
  · have hl0 : l = [] := List.eq_nil_of_length_eq_zero (by omega)
    subst hl0
    refine (Try.slices_ContainsFunc_empty (α := Int) A c _ w).mono ?_
    rintro e w' ⟨rfl, rfl⟩
    exact ⟨rfl, 0, rfl⟩
set_option maxHeartbeats 600000 in
set_option maxRecDepth 100000 in
theorem stripe_Check.calls (a0_0 a0_1 a0_2 : Int) (A : Option Addr) (c : Nat) (l : List Int) (r : Int) (w : World) (hr : Kd.C (Kd.int .i64) w A l.length l) (hc : l.length ≤ c) (h : stripe_Check.f a0_0 a0_1 a0_2 l = some r) :
    Calls Try.prog 18 #[.agg #[.int .i64 a0_0, .int .i64 a0_1, .int .i64 a0_2, .slice A l.length c]] w fun e w' => e = .returned (.int .i64 r) ∧ Below w.heap.size w w' := by
  have hu30 := Try.underlying30
  have hu34 := Try.underlying34
  have HR := Aside0.mk hr
  have HC := Aside0.mk hc
  unfold stripe_Check.f at h
  replace h := Option.bind_eq_some_iff.mp h
  obtain ⟨c1, hc1, h⟩ := h
  have H1 := Aside0.mk hc1
  have H := Aside0.mk h
  clear hr hc hc1 h
  go_enter Try.func18, Try.ntmps18
  go_wp2_with fail
  refine (erasure_Check.calls _ _ _ _ H1.out).mono ?_
  rintro e w1 ⟨rfl, hb1⟩
  obtain ⟨KB, HB1⟩ : Aside0 (w1.heap[w.heap.size]? = some (.cells #[.int .i64 a0_0, .int .i64 a0_1, .int .i64 a0_2, .slice A l.length c] 34 (0, 0))) ∧ Aside0 (Below w.heap.size w w1) := by
    refine ⟨⟨blk_below (blk_new w _) hb1⟩, ⟨(below_alloc (Below.refl _ _) _).trans (hb1.mono ?_)⟩⟩
    simp
  clear hb1
  have q0 := (blk_cell KB.out 0).trans (show _ = some (Value.int .i64 a0_0) from rfl)
  have q1 := (blk_cell KB.out 1).trans (show _ = some (Value.int .i64 a0_1) from rfl)
  have q2 := (blk_cell KB.out 2).trans (show _ = some (Value.int .i64 a0_2) from rfl)
  have q3 := (blk_cell KB.out 3).trans (show _ = some (Value.slice A l.length c) from rfl)
  by_cases h1 : c1 = 0
  · subst h1
    have h := H.out
    rw [if_pos rfl] at h
    by_cases h2 : a0_2 < 2
    · rw [if_pos h2] at h
      injection h with h
      subst h
      have b2 : decide (a0_2 < 2) = true := decide_eq_true h2
      go_wp2_with fail
      go_ret
      exact ⟨rfl, HB1.out⟩
    · rw [if_neg h2] at h
      have b2 : decide (a0_2 < 2) = false := decide_eq_false h2
      replace h := Option.bind_eq_some_iff.mp h
      obtain ⟨⟨t1, t2⟩, hL, h⟩ := h
      have HL := Aside0.mk hL
      have H := Aside0.mk h
      clear hL h h2
      go_wp2_with fail
      clear q0 q1 q2 q3
      refine (erasure_Length.calls _ _ _ _ _ _ HL.out).mono ?_
      rintro e w2 ⟨rfl, hb2⟩
      have KB2 := Aside0.mk (blk_below KB.out hb2)
      have HB2 := Aside0.mk (HB1.out.trans (hb2.mono HB1.out.size))
      clear hb2 KB
      have q0 := (blk_cell KB2.out 0).trans (show _ = some (Value.int .i64 a0_0) from rfl)
      have q1 := (blk_cell KB2.out 1).trans (show _ = some (Value.int .i64 a0_1) from rfl)
      have q2 := (blk_cell KB2.out 2).trans (show _ = some (Value.int .i64 a0_2) from rfl)
      have q3 := (blk_cell KB2.out 3).trans (show _ = some (Value.slice A l.length c) from rfl)
      by_cases h2 : t2 = 0
      · subst h2
        have h := H.out
        simp only [if_true] at h
        by_cases h3 : (l.length : Int) = a0_1
        · rw [if_pos h3] at h
          have b3 : ((l.length : Int) != a0_1) = false := by rw [h3]; simp
          have H3 := Aside0.mk h
          clear h h3
          go_wp2_with fail
          refine (contains_bad A c l _ (Kd.C_below HR.out HB2.out)).mono ?_
          rintro e w3 ⟨rfl, q, rfl⟩
          have HB3 := Aside0.mk (pw_below_drewN HB2.out q)
          by_cases h4 : l.any badD = true
          · have h := H3.out
            rw [if_pos h4] at h
            injection h with h
            subst h
            rw [h4]
            go_wp2_with fail
            go_ret
            exact ⟨rfl, HB3.out⟩
          · have h := H3.out
            rw [if_neg h4] at h
            injection h with h
            subst h
            rw [Bool.eq_false_iff.2 h4]
            go_wp2_with fail
            go_ret
            exact ⟨rfl, HB3.out⟩
        · rw [if_neg h3] at h
          have b3 : ((l.length : Int) != a0_1) = true := bne_iff_ne.2 h3
          injection h with h
          subst h
          clear h3
          go_wp2_with fail
          go_ret
          exact ⟨rfl, HB2.out⟩
      · have h := H.out
        simp only [if_neg h2] at h
        injection h with h
        subst h
        have b3 : (t2 != 0) = true := bne_iff_ne.2 h2
        go_wp2_with fail
        go_ret
        exact ⟨rfl, HB2.out⟩
  · have h := H.out
    rw [if_neg h1] at h
    injection h with h
    subst h
    have b3 : (c1 != 0) = true := bne_iff_ne.2 h1
    go_wp2_with fail
    go_ret
    exact ⟨rfl, HB1.out⟩
#print axioms stripe_Check.calls
end Go.Proofs.Ythfddndmhjkeiaa.L
end
section
/- erasure.look: the first error of shards. -/
namespace Go.Proofs.Ythfddndmhjkeiaa.L
open Go.RowKit Go.Proofs.YthfddndmhjkeiaaW.PrintWords Go.Proofs.YthfddndmhjkeiaaW.PrintLast Go.Proofs.YthfddndmhjkeiaaW.PrintMore
set_option linter.unusedVariables false
set_option linter.unusedSimpArgs false

/-- The first error of shards, one after the other; seen: the indices that were there. -/
def lookAt (all len : Int) : List S41 → (Nat → Bool) → Int
  | [], _ => 0
  | s :: l, seen => if s.f0 < 0 then 1 else if s.f0 ≥ all then 1 else if (s.f1.size : Int) ≠ len then 2 else if seen s.f0.toNat = true then 7 else lookAt all len l (fun i => if i = s.f0.toNat then true else seen i)
def erasure_look.f (a0_0 a0_1 a1 : Int) (l2 : List S41) : Option (Int × Int) :=
  (erasure_Length.f a0_0 a0_1 a1).bind fun t => if t.2 = 0 then (if lookAt a0_1 t.1 l2 (fun _ => false) = 0 then (if (l2.length : Int) < a0_0 then some (0, 14) else some (t.1, 0)) else some (0, lookAt a0_1 t.1 l2 (fun _ => false))) else some (0, t.2)

/-- The array's cells. -/
def arrB (seen : Nat → Bool) : Array Value := (List.ofFn (n := 16) fun i => Value.bool (seen i.1)).toArray
theorem arrB_size (seen : Nat → Bool) : (arrB seen).size = 16 := by simp [arrB]
theorem arrB_at (seen : Nat → Bool) (i : Nat) (h : i < 16) : (arrB seen)[i]? = some (.bool (seen i)) := by
  unfold arrB
  rw [List.getElem?_toArray, List.getElem?_ofFn, dif_pos h]
theorem arrB_set (seen : Nat → Bool) (i : Nat) : (arrB seen).setIfInBounds i (.bool true) = arrB (fun q => if q = i then true else seen q) := by
  apply Array.ext_getElem?
  intro j
  rw [Array.getElem?_setIfInBounds]
  by_cases hj : j < 16
  · rw [arrB_at _ _ hj, arrB_at _ _ hj, arrB_size]
    by_cases e : i = j
    · subst e
      simp [hj]
    · rw [if_neg e, if_neg (fun h => e h.symm)]
  · rw [Array.getElem?_eq_none (by rw [arrB_size]; omega), Array.getElem?_eq_none (by rw [arrB_size]; omega)]
    split
    · rw [if_neg (by rw [arrB_size]; omega)]
    · rfl
theorem arrB_none : #[Value.bool false, Value.bool false, Value.bool false, Value.bool false, Value.bool false, Value.bool false, Value.bool false, Value.bool false, Value.bool false, Value.bool false, Value.bool false, Value.bool false, Value.bool false, Value.bool false, Value.bool false, Value.bool false] = arrB (fun _ => false) := by rfl
theorem length_all {a0 a1 s r : Int} (h : erasure_Length.f a0 a1 s = some (r, 0)) : 1 ≤ a0 ∧ a0 ≤ a1 ∧ a1 ≤ 16 ∧ 0 ≤ s := by
  unfold erasure_Length.f erasure_Check.f at h
  split at h
  · simp at h
  · split at h
    · simp at h
    · split at h
      · simp at h
      · simp only [Option.bind_some, if_true] at h
        split at h
        · simp at h
        · exact ⟨by omega, by omega, by omega, by omega⟩

theorem look_end {v a b r1 r2 : Int} {n : Nat} (H : (if v = 0 then (if (n : Int) < a then some (0, 14) else some (b, 0)) else some (0, v)) = some (r1, r2)) (u : Int) (hv : v = u) (hu : u ≠ 0) : r1 = 0 ∧ r2 = u := by
  subst hv
  rw [if_neg hu] at H
  simp only [Option.some.injEq, Prod.mk.injEq] at H
  exact ⟨H.1.symm, H.2.symm⟩
theorem look_step {all len : Int} {l : List S41} {x : Int} (h0 : 0 ≤ x) (h : x < l.length) (seen : Nat → Bool) : lookAt all len (l.drop x.toNat) seen = if (rd_T41 l x).f0 < 0 then 1 else if (rd_T41 l x).f0 ≥ all then 1 else if ((rd_T41 l x).f1.size : Int) ≠ len then 2 else if seen (rd_T41 l x).f0.toNat = true then 7 else lookAt all len (l.drop (x + 1).toNat) (fun i => if i = (rd_T41 l x).f0.toNat then true else seen i) := by
  have hl : x.toNat < l.length := by omega
  have e : rd_T41 l x = l[x.toNat] := by
    unfold rd_T41
    rw [List.getD_eq_getElem?_getD, List.getElem?_eq_getElem hl]
    rfl
  rw [List.drop_eq_getElem_cons hl, e, show (x + 1).toNat = x.toNat + 1 by omega]
  rfl
set_option maxHeartbeats 1000000 in
set_option maxRecDepth 100000 in
theorem erasure_look.calls (a0_0 a0_1 a1 : Int) (A2 : Option Addr) (c2 : Nat) (l2 : List S41) (r1 r2 : Int) (w : World) (hr2 : Kd.C k41 w A2 l2.length l2) (hc2 : l2.length ≤ c2) (h : erasure_look.f a0_0 a0_1 a1 l2 = some (r1, r2)) :
    Calls Try.prog 41 #[.agg #[.int .i64 a0_0, .int .i64 a0_1], .int .i64 a1, .slice A2 l2.length c2] w fun e w' => e = .returned (.tuple #[.int .i64 r1, .int .i64 r2]) ∧ Below w.heap.size w w' := by
  have HR2 := Aside0.mk hr2
  have HC2 := Aside0.mk hc2
  have HB := Aside0.mk (Below.refl w.heap.size w)
  have hlen := hr2.2.1
  clear hr2 hc2
  unfold erasure_look.f at h
  replace h := Option.bind_eq_some_iff.mp h
  obtain ⟨⟨t1, t2⟩, hL, h⟩ := h
  have HL := Aside0.mk hL
  have H := Aside0.mk h
  clear hL h
  have hu30 := Try.underlying30
  have hu41 := Try.underlying41
  go_enter Try.func41, Try.ntmps41
  go_wp2_with fail
  refine (erasure_Length.calls _ _ _ t1 t2 _ HL.out).mono ?_
  rintro e w1 ⟨rfl, hb1⟩
  by_cases ht : t2 = 0
  · subst ht
    rw [if_pos rfl] at H
    obtain ⟨g1, g2, g3, g4⟩ := length_all HL.out
    go_wp2_with fail
    rw [arrB_none]
    have HB1 := Aside0.mk hb1
    have HBW := Aside0.mk (Below.refl w1.heap.size w1)
    clear hb1
    go_loopw [24] (fun v wr => ∃ (x : Int) (seen : Nat → Bool), v = .int .i64 x ∧ 0 ≤ x ∧ x ≤ l2.length ∧ Aside0 (wr.heap[w1.heap.size]? = some (.cells (arrB seen) 116 (0, 0))) ∧ Aside0 (Below w1.heap.size w1 wr) ∧ Aside0 (lookAt a0_1 t1 (l2.drop x.toNat) seen = lookAt a0_1 t1 l2 (fun _ => false))) (fun v _ => l2.length - (intOf v).toNat)
    case atStart => exact ⟨0, fun _ => false, rfl, by omega, by omega, ⟨heap_alloc_new _ _⟩, ⟨below_alloc HBW.out _⟩, ⟨rfl⟩⟩
    case round =>
      obtain ⟨x, seen, rfl, hx0, hx1, HA, HBR, HS⟩ := hrel
      have HBW1 : Below w.heap.size w w1 := (below_alloc (Below.refl w.heap.size w) _).trans (HB1.out.mono (by simp))
      by_cases hlt : x < (l2.length : Int)
      · obtain ⟨ad, e, hc0, hc1⟩ := at_T41 HR2.out x hx0 hlt
        cases e
        have st := look_step (all := a0_1) (len := t1) hx0 hlt seen
        replace hc0 := pw_cell_below (HBW1.trans (HBR.out.mono HBW1.size)) hc0
        replace hc1 := pw_cell_below (HBW1.trans (HBR.out.mono HBW1.size)) hc1
        have hk1 : ∀ o, (wr.alloc o).cell? ⟨w.heap.size, 1, none⟩ = some (.int .i64 a0_1) := by
          intro o
          have e0 : (w.alloc (.cells #[.int .i64 a0_0, .int .i64 a0_1] 30)).cell? ⟨w.heap.size, 1, none⟩ = some (.int .i64 a0_1) := (blk_cell (heap_alloc_new w _) 1).trans rfl
          have e1 := pw_cell_below HB1.out e0
          exact pw_cell_below (below_alloc (Below.refl _ _) o) (pw_cell_below HBR.out e1)
        generalize (rd_T41 l2 x).f0 = i at hc0 st
        generalize (rd_T41 l2 x).f1 = d at hc1 st
        rw [st] at HS
        clear st
        have Hend := look_end H.out
        have HBB := HBW1.trans (HBR.out.mono HBW1.size)
        by_cases k0 : i < 0
        · rw [if_pos k0] at HS
          obtain ⟨rfl, rfl⟩ := Hend 1 HS.out.symm (by decide)
          clear Hend HS H HL
          have k0b : decide (i < 0) = true := decide_eq_true k0
          go_wp2
          go_ret2
          exact ⟨rfl, by repeat (first | exact HBB | apply below_alloc | apply pw_below_drewN | apply below_drew1)⟩
        · rw [if_neg k0] at HS
          have k0b : decide (i < 0) = false := decide_eq_false k0
          by_cases k1 : i ≥ a0_1
          · rw [if_pos k1] at HS
            obtain ⟨rfl, rfl⟩ := Hend 1 HS.out.symm (by decide)
            clear Hend HS H HL
            have k1b : decide (a0_1 ≤ i) = true := decide_eq_true k1
            go_wp2
            go_ret2
            exact ⟨rfl, by repeat (first | exact HBB | apply below_alloc | apply pw_below_drewN | apply below_drew1)⟩
          · rw [if_neg k1] at HS
            have k1b : decide (a0_1 ≤ i) = false := decide_eq_false k1
            by_cases k2 : (d.size : Int) ≠ t1
            · rw [if_pos k2] at HS
              obtain ⟨rfl, rfl⟩ := Hend 2 HS.out.symm (by decide)
              clear Hend HS H HL
              have k2b : ((d.size : Int) != t1) = true := bne_iff_ne.mpr k2
              clear k2
              go_wp2
              go_ret2
              exact ⟨rfl, by repeat (first | exact HBB | apply below_alloc | apply pw_below_drewN | apply below_drew1)⟩
            · rw [if_neg k2] at HS
              have k2b : ((d.size : Int) != t1) = false := by simpa using k2
              clear k2
              have hi : i.toNat < 16 := by omega
              have hcA : ∀ o, (wr.alloc o).cell? ⟨w1.heap.size, i.toNat, none⟩ = some (.bool (seen i.toNat)) := fun o => pw_cell_below (below_alloc (Below.refl _ _) o) ((blk_cell HA.out i.toNat).trans (arrB_at seen _ hi))
              cases k3 : seen i.toNat with
              | true =>
                rw [if_pos k3] at HS
                rw [k3] at hcA
                obtain ⟨rfl, rfl⟩ := Hend 7 HS.out.symm (by decide)
                clear Hend HS H HL k3
                go_wp2
                go_ret2
                exact ⟨rfl, by repeat (first | exact HBB | apply below_alloc | apply pw_below_drewN | apply below_drew1)⟩
              | false =>
                rw [if_neg (by rw [k3]; decide)] at HS
                rw [k3] at hcA
                have hfA : ∀ o, (wr.alloc o).frozen? ⟨w1.heap.size, i.toNat, none⟩ = false := fun o => blk_frozen (blk_alloc HA.out o) _
                clear Hend k3
                go_wp2
                refine ⟨⟨x + 1, fun q => if q = i.toNat then true else seen q, rfl, by omega, by omega, ⟨?_⟩, ⟨?_⟩, HS⟩, by simp [intOf]; omega⟩
                · exact blk_put (blk_alloc HA.out _) _ _ (arrB_set seen _)
                · exact below_set (below_alloc HBR.out _) (Nat.le_refl _)
      · have hx : l2.drop x.toNat = [] := List.drop_eq_nil_of_le (by omega)
        rw [hx] at HS
        have hz : lookAt a0_1 t1 l2 (fun _ => false) = 0 := HS.out.symm
        have H2 := H.out
        rw [if_pos hz] at H2
        clear H HS hx hz HL
        have hk0 : wr.cell? ⟨w.heap.size, 0, none⟩ = some (.int .i64 a0_0) := by
          have e0 : (w.alloc (.cells #[.int .i64 a0_0, .int .i64 a0_1] 30)).cell? ⟨w.heap.size, 0, none⟩ = some (.int .i64 a0_0) := (blk_cell (heap_alloc_new w _) 0).trans rfl
          exact pw_cell_below HBR.out (pw_cell_below HB1.out e0)
        have HBB := HBW1.trans (HBR.out.mono HBW1.size)
        by_cases k5 : (l2.length : Int) < a0_0
        · rw [if_pos k5] at H2
          obtain ⟨rfl, rfl⟩ : r1 = 0 ∧ r2 = 14 := by
            simp only [Option.some.injEq, Prod.mk.injEq] at H2
            exact ⟨H2.1.symm, H2.2.symm⟩
          clear H2
          have k5b : decide ((l2.length : Int) < a0_0) = true := decide_eq_true k5
          go_wp2
          go_ret2
          exact ⟨rfl, by repeat (first | exact HBB | apply below_alloc | apply pw_below_drewN | apply below_drew1)⟩
        · rw [if_neg k5] at H2
          obtain ⟨rfl, rfl⟩ : r1 = t1 ∧ r2 = 0 := by
            simp only [Option.some.injEq, Prod.mk.injEq] at H2
            exact ⟨H2.1.symm, H2.2.symm⟩
          clear H2
          have k5b : decide ((l2.length : Int) < a0_0) = false := decide_eq_false k5
          go_wp2
          go_ret2
          exact ⟨rfl, by repeat (first | exact HBB | apply below_alloc | apply pw_below_drewN | apply below_drew1)⟩
  · have H2 := H.out
    rw [if_neg ht] at H2
    obtain ⟨rfl, rfl⟩ : r1 = 0 ∧ r2 = t2 := by
      simp only [Option.some.injEq, Prod.mk.injEq] at H2
      exact ⟨H2.1.symm, H2.2.symm⟩
    clear H2 H HL
    have htb : (r2 != 0) = true := bne_iff_ne.mpr ht
    have HBB : Below w.heap.size w w1 := (below_alloc (Below.refl w.heap.size w) _).trans (hb1.mono (by simp))
    clear ht
    go_wp2
    go_ret2
    exact ⟨rfl, by repeat (first | exact HBB | apply below_alloc | apply pw_below_drewN | apply below_drew1)⟩
end Go.Proofs.Ythfddndmhjkeiaa.L
end
section
/- slices.SortFunc at shards by their indices, which are elements and differ. -/
namespace Go.Proofs.Ythfddndmhjkeiaa.L
open Go.Shelf Go.RowKit Go.Lib Go.Sort
open Go.Proofs.YthfddndmhjkeiaaW.PrintWords Go.Proofs.YthfddndmhjkeiaaW.PrintLast Go.Proofs.YthfddndmhjkeiaaW.PrintMore
set_option linter.unusedVariables false
set_option linter.unusedSimpArgs false

def sortS (l : List S41) : List S41 := l.mergeSort fun a b => decide (a.f0 ≤ b.f0)
def Idx (l : List S41) : Prop := (∀ s, s ∈ l → 0 ≤ s.f0 ∧ s.f0 ≤ 15) ∧ l.Pairwise fun a b => a.f0 ≠ b.f0
def encS (l : List S41) (x : { s : S41 // s ∈ l }) : List Value := [.int .i64 x.1.f0, .string x.1.f1]
def cfS (l : List S41) (x y : { s : S41 // s ∈ l }) : Int := x.1.f0 - y.1.f0
theorem ltS (l : List S41) (x y : { s : S41 // s ∈ l }) : ltOf (cfS l) x y = decide (x.1.f0 < y.1.f0) := by
  unfold ltOf cfS
  rw [Bool.eq_iff_iff, decide_eq_true_iff, decide_eq_true_iff]
  omega
theorem swoS (l : List S41) : SWO (ltOf (cfS l)) where
  irrefl x := by rw [ltS]; simp
  trans x y z h1 h2 := by rw [ltS] at *; simp at *; omega
  ntrans x y z h1 h2 := by rw [ltS] at *; simp at *; omega

set_option maxHeartbeats 1000000 in
theorem closure37 (x0 y0 : Int) (x1 y1 : ByteArray) (hx : 0 ≤ x0 ∧ x0 ≤ 15) (hy : 0 ≤ y0 ∧ y0 ≤ 15) (W : World) : Calls Try.prog 44 #[.agg #[.int .i64 x0, .string x1], .agg #[.int .i64 y0, .string y1]] W fun e w' => e = .returned (.int .i64 (x0 - y0)) ∧ ∃ q os', w' = grow (W.drewN q) os' := by
  obtain ⟨a1, a2⟩ := hx
  obtain ⟨b1, b2⟩ := hy
  have hu41 := Try.underlying41
  go_enter Try.func44, Try.ntmps44
  go_wp2_with fail
  go_ret
  exact ⟨rfl, 0, _, by rw [alloc_eq_grow, alloc_eq_grow, grow_grow]; rfl⟩
theorem sortS_perm (l : List S41) : (sortS l).Perm l := List.mergeSort_perm _ _
theorem sortS_length (l : List S41) : (sortS l).length = l.length := (sortS_perm l).length_eq
theorem sortS_map (l : List S41) : ((l.attach.toArray.toList.mergeSort fun x y => !(ltOf (cfS l)) y x).map (·.1)) = sortS l := by
  rw [List.map_mergeSort (s := fun a b : S41 => decide (a.f0 ≤ b.f0)) (fun a _ b _ => ?_)]
  · simp [sortS]
  · rw [ltS, Bool.eq_iff_iff, Bool.not_eq_true', decide_eq_false_iff_not, decide_eq_true_iff]
    omega

set_option maxHeartbeats 1000000 in
theorem sort_calls (l : List S41) (hne : l ≠ []) (hI : Idx l) (hlen : l.length ≤ 1000) (base g cap : Nat) (ok : Nat → Prop) (w : World) (hR : Kd.R k41 41 w base ok (.slice (some ⟨g, 0, none⟩) l.length cap) l) :
    Calls Try.prog 43 #[.slice (some ⟨g, 0, none⟩) l.length cap, .func (.func 44) #[] #[]] w fun e w' => e = .returned (.tuple #[]) ∧ Kd.C k41 w' (some ⟨g, 0, none⟩) l.length (sortS l) ∧ Below base w w' ∧ w.heap.size ≤ w'.heap.size ∧ ∀ i, i < w.heap.size → i ≠ g → w'.heap[i]? = w.heap[i]? := by
  have hpos : 0 < l.length := List.length_pos_iff.mpr hne
  haveI : Inhabited { s : S41 // s ∈ l } := ⟨⟨l.head hne, List.head_mem hne⟩⟩
  obtain ⟨g', cap', hv, hgb, hgl, cells, hcells⟩ := Kd.R_form hR hpos
  have hgg : g' = g := by
    injection hv with h1 _ _
    injection h1 with h1
    injection h1 with h1 _ _
    exact h1.symm
  subst hgg
  have hC := (Kd.R_reads' hR).2.2
  have hsz : l.attach.toArray.size = l.length := by simp
  have hat : ∀ i, i < l.length → (l.attach.toArray)[i]!.1 = rd_T41 l (i : Int) := by
    intro i hi
    rw [getElem!_pos _ _ (by simpa using hi)]
    unfold rd_T41
    rw [List.getD_eq_getElem?_getD]
    simp [List.getElem?_eq_getElem hi]
  have hH : HoldsK (encS l) 2 w g' 0 l.attach.toArray := by
    intro j hj
    rw [size_flatK, hsz] at hj
    rw [get_flatK _ _ _ _ (by rw [hsz]; exact hj)]
    have hi : j / 2 < l.length := by omega
    obtain ⟨ad, e, c0, c1⟩ := at_T41 hC ((j / 2 : Nat) : Int) (by omega) (by omega)
    cases e
    rw [Int.toNat_natCast, add_plain] at c0 c1
    rw [← hat _ hi] at c0 c1
    refine ⟨?_, blk_frozen hcells _⟩
    rcases Nat.mod_two_eq_zero_or_one j with h2 | h2
    · rw [h2, show 0 + j = j / 2 * 2 by omega]
      exact c0
    · rw [h2, show 0 + j = j / 2 * 2 + 1 by omega]
      exact c1
  have eg : ∀ args w, (callFunc 44 args).run Try.prog w = .ok (.enter 44 args) w := enters_of Try.func44 (by kernel_rfl) rfl
  have hcmp : CmpLays Try.prog 44 #[] (encS l) 2 (cfS l) g' 0 l.attach.toArray.size w := fun _ _ _ _ x y => closure37 x.1.f0 y.1.f0 x.1.f1 y.1.f1 (hI.1 _ x.2) (hI.1 _ y.2) _
  have hT : ∀ x y, (ltOf (cfS l)) x y = false → (ltOf (cfS l)) y x = false → x = y := by
    intro x y h1 h2
    rw [ltS, decide_eq_false_iff_not] at h1 h2
    have he : x.1.f0 = y.1.f0 := by omega
    apply Subtype.ext
    obtain ⟨i, hi, ei⟩ := List.getElem_of_mem x.2
    obtain ⟨j, hj, ej⟩ := List.getElem_of_mem y.2
    rw [← ei, ← ej] at he ⊢
    have hp := List.pairwise_iff_getElem.1 hI.2
    rcases Nat.lt_trichotomy i j with h | h | h
    · exact absurd he (hp i j hi hj h)
    · subst h
      rfl
    · exact absurd he.symm (hp j i hj hi h)
  have hcon := AnyQ.slices_SortFunc_total Try.sortShard 2 Try.isAgg41 Try.sizeOf41 (encS l) (fun _ => rfl) (fun x v hv => by simp [encS] at hv; rcases hv with rfl | rfl <;> rfl) (cfS l) (swoS l) 44 #[] g' 0 cap l.attach.toArray w eg hcmp hH hgl (by rw [hsz]; omega) hT
  change Calls Try.prog 43 _ _ _ at hcon
  rw [hsz] at hcon
  refine hcon.mono ?_
  rintro e w' ⟨rfl, n, os, rfl⟩
  have hms : (l.attach.toArray.toList.mergeSort fun x y => !(ltOf (cfS l)) y x).toArray.size = l.attach.toArray.size := by simp
  have hH2 := holdsK_sortWorldK (encS l) 2 w g' 0 n _ _ os hgl hH hms
  have hsize : w.heap.size ≤ (sortWorldK (encS l) 2 w g' 0 n (l.attach.toArray.toList.mergeSort fun x y => !(ltOf (cfS l)) y x).toArray os).heap.size := by
    unfold sortWorldK grow putRowK
    simp [Sort.ahead]
  have hother : ∀ i, i < w.heap.size → i ≠ g' → (sortWorldK (encS l) 2 w g' 0 n (l.attach.toArray.toList.mergeSort fun x y => !(ltOf (cfS l)) y x).toArray os).heap[i]? = w.heap[i]? := by
    intro i hi hne2
    unfold sortWorldK
    rw [heap_grow_old _ _ (by unfold putRowK; simp [Sort.ahead]; exact hi)]
    unfold putRowK putRow mapBlock
    show (w.heap.modify g' _)[i]? = _
    rw [Array.getElem?_modify, if_neg (fun e => hne2 e.symm)]
  refine ⟨rfl, ⟨sortS_length l, by omega, fun _ => ⟨_, rfl, fun j p hj => ⟨[.int .i64 p.f0, .string p.f1], rfl, k41_mk _ p, fun i u hu => ?_⟩⟩⟩, ?_, ?_, ?_⟩
  · have hjl : j < l.length := by have := (List.getElem?_eq_some_iff.1 hj).1; rw [sortS_length] at this; exact this
    have hp : ((l.attach.toArray.toList.mergeSort fun x y => !(ltOf (cfS l)) y x).toArray)[j]!.1 = p := by
      have h3 : ((l.attach.toArray.toList.mergeSort fun x y => !(ltOf (cfS l)) y x).map (·.1))[j]? = some p := by rw [sortS_map]; exact hj
      rw [getElem!_pos _ _ (by simpa using hjl)]
      rw [List.getElem?_map] at h3
      rw [List.getElem?_eq_getElem (by simpa using hjl)] at h3
      injection h3 with h3
    rw [add_plain]
    have hi2 : i < 2 := by
      rcases Nat.lt_or_ge i 2 with h | h
      · exact h
      · rw [List.getElem?_eq_none (by simpa using h)] at hu
        cases hu
    have hc := (hH2.cell (i := j) (c := i) (by rw [hms, hsz]; exact hjl) hi2).1
    rw [Nat.zero_add] at hc
    refine Eq.trans hc (congrArg some ?_)
    unfold encS
    rw [hp]
    rcases (show i = 0 ∨ i = 1 by omega) with rfl | rfl
    · injection hu with hu
    · injection hu with hu
  · refine ⟨rfl, rfl, rfl, ?_, fun i hi => hother i (by omega) (by omega)⟩
    omega
  · exact hsize
  · exact hother
end Go.Proofs.Ythfddndmhjkeiaa.L
end
section
-- Printed for this claim by a small program of the session's own, drv.py, round the kit's print.py. Lean checks it.
namespace Go.Proofs.Ythfddndmhjkeiaa.L
open Go.RowKit Go.Proofs.YthfddndmhjkeiaaW.PrintWords Go.Proofs.YthfddndmhjkeiaaW.PrintLast Go.Proofs.YthfddndmhjkeiaaW.PrintMore
attribute [local go_sem] max2_int min2_int max_two min_two max_three min_three max_four min_four   -- for this text's walks alone
set_option linter.unusedVariables false
set_option linter.unusedSimpArgs false

/-! ### matrix_mul: function 87 -/
def matrix_mul.f (k : Nat) (a0 : Int) (a1 : Int) : Option (Int) := (field_Mul.f k a0 a1).bind fun bt244 => (some bt244.1)
theorem matrix_mul.mono : ∀ a0 a1 k, LeO (matrix_mul.f k a0 a1) (matrix_mul.f (k + 1) a0 a1) := by
  intro a0 a1 k
  unfold matrix_mul.f
  repeat' first | (with_reducible exact field_Mul.mono _ _ _) | (with_reducible exact LeO.refl _) | (with_reducible refine LeO.bind ?_ (fun _ => ?_))
set_option maxHeartbeats 8000000 in
set_option maxRecDepth 100000 in
theorem matrix_mul.calls (k : Nat) (a0 : Int) (a1 : Int) (r : Int) (w : World) (h : matrix_mul.f k a0 a1 = some r) :
    Calls Try.prog 87 #[.int .i64 a0, .int .i64 a1] w fun e w' => e = .returned (.int .i64 r) ∧ Drawn0 w w' := by
  have H : ((field_Mul.f k a0 a1).bind fun bt244 => (some bt244.1)) = some r := h
  clear h
  replace H := Option.bind_eq_some_iff.mp H
  obtain ⟨⟨t244, t245⟩, A30, H⟩ := H
  replace H : (some t244) = some r := H
  have A3 := Aside0.mk A30
  clear A30
  obtain rfl := Option.some.inj H
  go_enter Try.func87, Try.ntmps87
  go_wp2_with (((with_reducible refine gate_callee (f := 92) rfl ?_); refine goesL_ (some 10) rfl rfl Try.func92 (by kernel_rfl) rfl #[.int .i64 a0, .int .i64 a1] rfl (by ((simp only [List.map_toArray, List.map_cons, List.map_nil])); (rfl)) ?_; (with_reducible refine (field_Mul.calls k a0 a1 t244 t245 _ A3.out).mono ?_); rintro e w' ⟨rfl, ⟨nd, rfl⟩⟩; refine ⟨_, rfl, ?_⟩))
  go_ret
  exact ⟨by (rfl), by repeat (first | exact Drawn0.refl _ | apply Drawn0.step)⟩

end Go.Proofs.Ythfddndmhjkeiaa.L
end
