/- Texts of this claim, put together by a small program of the session's own: F17, F33, F34, F20, F52, F35, MBytes, MPutA, MPutB, MPutC, MPutD, MPut, F36, F21, F12, F49, F67. -/
import Derived.Test.YthfddndmhjkeiaaJ0
import Derived.Test.YthfddndmhjkeiaaJ2
import Derived.Lib.ConvBytes
import Derived.Lib.FrozenHead2
import Derived.RangeFuncBox
import Derived.RangeFuncWrites
import Derived.RangeFuncCalls
import Derived.RangeFuncLeaves
import Derived.Shelf.Abstract
import Derived.OwnWalkIn
import Derived.TacticsInMore
import Derived.LoopNIn
import Derived.LoopIn
import Derived.Maps.AppendAt
import Derived.Laws.Closers25b
import Derived.WideLaws
import Derived.Test.YthfddndmhjkeiaaJ1
section
-- Printed for this claim by a small program of the session's own, drv.py, round the kit's print.py. Lean checks it.
namespace Go.Proofs.Ythfddndmhjkeiaa.L
open Go.RowKit Go.Proofs.YthfddndmhjkeiaaW.PrintWords Go.Proofs.YthfddndmhjkeiaaW.PrintLast Go.Proofs.YthfddndmhjkeiaaW.PrintMore
attribute [local go_sem] max2_int min2_int max_two min_two max_three min_three max_four min_four   -- for this text's walks alone
set_option linter.unusedVariables false
set_option linter.unusedSimpArgs false

/-! ### stripe_Repair: function 17 -/
def stripe_Repair.j0 : Nat → List (S41) → Int → Bool → Int → Int → Int → List Int → Option (Int × ByteArray × Int)
  | 0, _, _, _, _, _, _, _ => none
  | k + 1, x1, x2, x25, x337000, x337001, x337002, x337003 => if x25 = true then (none) else ((stripe_kept.f x337000 x337001 x337002 x337003 x1).bind fun t339 => ((erasure_Repair.f k x337000 x337001 x337002 t339 x2).bind fun bt342 => (if bt342.2.2 = 0 then ((stripe_right.f k x337000 x337001 x337002 x337003 bt342.1 bt342.2.1).bind fun t346 => (if t346 = true then (some (bt342.1, bt342.2.1, 0)) else (none))) else (none))))
def stripe_Repair.f (k : Nat) (a0_0 : Int) (a0_1 : Int) (a0_2 : Int) (l0_3 : List Int) (l1 : List (S41)) (a2 : Int) : Option (Int × ByteArray × Int) := (stripe_Check.f a0_0 a0_1 a0_2 l0_3).bind fun t338 => (if t338 = 0 then (if a2 < 0 then (stripe_Repair.j0 k l1 a2 true a0_0 a0_1 a0_2 l0_3) else (stripe_Repair.j0 k l1 a2 (decide (a2 ≥ a0_1)) a0_0 a0_1 a0_2 l0_3)) else (none))
theorem stripe_Repair.mono_l : ∀ k, (∀ y0 y1 y2 y3 y4 y5 y6, LeO (stripe_Repair.j0 k y0 y1 y2 y3 y4 y5 y6) (stripe_Repair.j0 (k + 1) y0 y1 y2 y3 y4 y5 y6))
  | 0 => fun _ _ _ _ _ _ _ r h => by simp [stripe_Repair.j0] at h
  | k + 1 => by
    have ih0 := stripe_Repair.mono_l k
    · intro y0 y1 y2 y3 y4 y5 y6
      unfold stripe_Repair.j0
      repeat' first | (with_reducible exact erasure_Repair.mono _ _ _ _ _ _) | (with_reducible exact stripe_right.mono _ _ _ _ _ _ _) | (with_reducible exact LeO.refl _) | (with_reducible refine LeO.ite ?_ ?_) | (with_reducible refine LeO.bind ?_ (fun _ => ?_))
theorem stripe_Repair.mono : ∀ a0 a1 a2 a3 a4 a5 k, LeO (stripe_Repair.f k a0 a1 a2 a3 a4 a5) (stripe_Repair.f (k + 1) a0 a1 a2 a3 a4 a5) := by
  intro a0 a1 a2 a3 a4 a5 k
  have ih0 := stripe_Repair.mono_l k
  unfold stripe_Repair.f
  repeat' first | (with_reducible exact ih0 _ _ _ _ _ _ _) | (with_reducible exact LeO.refl _) | (with_reducible refine LeO.ite ?_ ?_) | (with_reducible refine LeO.bind ?_ (fun _ => ?_))
def stripe_Repair.T6 : Bool × List (List Nat × List Nat) := (true, [([], []), ([0], [0]), ([], []), ([2], [2]), ([], []), ([], []), ([4, 5], [4, 5]), ([], []), ([1, 3, 6, 7, 6], [1, 3, 6, 7]), ([8], [8]), ([9], [9]), ([9], [9]), ([], []), ([12, 10, 8, 0, 1, 2, 3, 4, 5, 6, 7, 8, 9, 10, 12], [10, 12]), ([11, 13, 0, 1, 2, 3, 4, 5, 6, 7, 8, 9, 10, 11, 12, 13], [11])])
def stripe_Repair.B6 : List Nat := [0, 1, 0, 4, 0, 0, 48, 0, 255, 511, 1023, 1023, 0, 6143, 16383]
theorem stripe_Repair.tab6 : rtab .any (opsOf Try.f17 6) = stripe_Repair.T6 := by kernel_rfl
theorem stripe_Repair.bits6 : waitsOk stripe_Repair.T6.2 stripe_Repair.B6 = true := by kernel_rfl
set_option maxHeartbeats 8000000 in
set_option maxRecDepth 100000 in
theorem stripe_Repair.calls (k : Nat) (a0_0 : Int) (a0_1 : Int) (a0_2 : Int) (A0_3 : Option Addr) (c0_3 : Nat) (l0_3 : List Int) (A1 : Option Addr) (c1 : Nat) (l1 : List (S41)) (a2 : Int) (r1 : Int) (r2 : ByteArray) (r3 : Int) (w : World) (hr0_3 : Kd.C (Kd.int .i64) w A0_3 l0_3.length l0_3) (hc0_3 : l0_3.length ≤ c0_3) (hr1 : Kd.C k41 w A1 l1.length l1) (hc1 : l1.length ≤ c1) (h : stripe_Repair.f k a0_0 a0_1 a0_2 l0_3 l1 a2 = some (r1, r2, r3)) :
    Calls Try.prog 17 #[.agg #[.int .i64 a0_0, .int .i64 a0_1, .int .i64 a0_2, .slice A0_3 l0_3.length c0_3], .slice A1 l1.length c1, .int .i64 a2] w fun e w' => e = .returned (.tuple #[.agg #[.int .i64 r1, .string r2], .int .i64 r3]) ∧ Below w.heap.size w w' := by
  have hu34 := Try.underlying34
  have hu41 := Try.underlying41
  have hu30 := Try.underlying30
  have HR0_3 := Aside0.mk hr0_3
  have HC0_3 := Aside0.mk hc0_3
  clear hr0_3 hc0_3
  have HR1 := Aside0.mk hr1
  have HC1 := Aside0.mk hc1
  clear hr1 hc1
  have HB := Aside0.mk (Below.refl w.heap.size w)
  have H : ((stripe_Check.f a0_0 a0_1 a0_2 l0_3).bind fun t338 => (if t338 = 0 then (if a2 < 0 then (stripe_Repair.j0 k l1 a2 true a0_0 a0_1 a0_2 l0_3) else (stripe_Repair.j0 k l1 a2 (decide (a2 ≥ a0_1)) a0_0 a0_1 a0_2 l0_3)) else (none))) = some (r1, r2, r3) := h
  clear h
  replace H := Option.bind_eq_some_iff.mp H
  obtain ⟨t338, A40, H⟩ := H
  replace H : (if t338 = 0 then (if a2 < 0 then (stripe_Repair.j0 k l1 a2 true a0_0 a0_1 a0_2 l0_3) else (stripe_Repair.j0 k l1 a2 (decide (a2 ≥ a0_1)) a0_0 a0_1 a0_2 l0_3)) else (none)) = some (r1, r2, r3) := H
  have A4 := Aside0.mk A40
  clear A40
  by_cases c5 : t338 = 0
  · rw [if_pos c5] at H
    have c5b0 : (t338 == 0) = true := beq_iff_eq.mpr c5
    have c5b1 : (t338 != 0) = false := bne_eq_false_iff_eq.mpr c5
    clear c5
    have HC6 := Aside0.mk H
    clear H
    go_enter Try.func17, Try.ntmps17
    go_upto_region 4 with (first | ((with_reducible refine gate_dst (N := 3) rfl ?_); refine box_event ?hg (N := 3) ?hd (cs := #[.int .i64 a0_0, .int .i64 a0_1, .int .i64 a0_2, .slice A0_3 l0_3.length c0_3]) (t := 34) ?hr ?_; (case hd => rfl); (case hg => rfl); (case hr => (go_simp; done)); intro gb336 hg w7 hbox hb; have n0_ := Aside0.mk (below_step HB.out hb); have n1_ := Aside0.mk (hbox); have n2_ := Aside0.mk ((by rw [hg]; exact (below_size HB.out) : w.heap.size ≤ gb336)); have n3_ := Aside0.mk ((by rw [hg]; exact (below_size HB.out) : w.heap.size ≤ gb336)); clear HB; have HB := n0_; have BK336 := n1_; have GW336 := n2_; have GE336 := n3_; clear n0_ n1_ n2_ n3_; clear hb hbox hg) | ((with_reducible refine gate_dst (N := 6) rfl ?_); refine box_event ?hg (N := 6) ?hd (cs := #[.int .i64 0, .string (⟨#[]⟩ : ByteArray)]) (t := 41) ?hr ?_; (case hd => rfl); (case hg => rfl); (case hr => (go_simp; done)); intro gb337 hg w8 hbox hb; have n0_ := Aside0.mk (blk_below (g := gb336) (o := .cells #[.int .i64 a0_0, .int .i64 a0_1, .int .i64 a0_2, .slice A0_3 l0_3.length c0_3] 34 (0, 0)) (by exact BK336.out) hb); have n1_ := Aside0.mk (below_step HB.out hb); have n2_ := Aside0.mk (hbox); have n3_ := Aside0.mk ((by rw [hg]; exact (below_size HB.out) : w.heap.size ≤ gb337)); have n4_ := Aside0.mk ((by rw [hg]; exact (below_size HB.out) : w.heap.size ≤ gb337)); have n5_ := Aside0.mk ((by rw [hg]; exact Nat.ne_of_lt (blk_lt (g := gb336) (o := .cells #[.int .i64 a0_0, .int .i64 a0_1, .int .i64 a0_2, .slice A0_3 l0_3.length c0_3] 34 (0, 0)) (by exact BK336.out)) : gb336 ≠ gb337)); have n6_ := Aside0.mk ((by rw [hg]; exact Nat.ne_of_gt (blk_lt (g := gb336) (o := .cells #[.int .i64 a0_0, .int .i64 a0_1, .int .i64 a0_2, .slice A0_3 l0_3.length c0_3] 34 (0, 0)) (by exact BK336.out)) : gb337 ≠ gb336)); clear BK336 HB; have BK336 := n0_; have HB := n1_; have BK337 := n2_; have GW337 := n3_; have GE337 := n4_; have NB336_337 := n5_; have NB337_336 := n6_; clear n0_ n1_ n2_ n3_ n4_ n5_ n6_; clear hb hbox hg; have hnb9 := NB336_337.out; have hnc9 := NB337_336.out; have hcz10_0 : w8.cell? ⟨gb336, 0, none⟩ = some (.int .i64 a0_0) := (blk_cell BK336.out 0).trans rfl; have hcz10_1 : w8.cell? ⟨gb336, 1, none⟩ = some (.int .i64 a0_1) := (blk_cell BK336.out 1).trans rfl; have hcz10_2 : w8.cell? ⟨gb336, 2, none⟩ = some (.int .i64 a0_2) := (blk_cell BK336.out 2).trans rfl; have hcz10_3 : w8.cell? ⟨gb336, 3, none⟩ = some (.slice A0_3 l0_3.length c0_3) := (blk_cell BK336.out 3).trans rfl; have hfz10_0 := blk_frozen BK336.out 0; have hfz10_1 := blk_frozen BK336.out 1; have hfz10_2 := blk_frozen BK336.out 2; have hfz10_3 := blk_frozen BK336.out 3) | ((with_reducible refine gate_callee (f := 18) rfl ?_); refine goesL_ (some 12) rfl rfl Try.func18 (by kernel_rfl) rfl #[.agg #[.int .i64 a0_0, .int .i64 a0_1, .int .i64 a0_2, .slice A0_3 l0_3.length c0_3]] rfl (by ((simp only [List.map_toArray, List.map_cons, List.map_nil])); (rfl)) ?_; (with_reducible refine (stripe_Check.calls a0_0 a0_1 a0_2 _ _ l0_3 t338 _ ?side1 ?side2 A4.out).mono ?_); (case side1 => repeat ((exact (Kd.C_below HR0_3.out HB.out)))); (case side2 => exact HC0_3.out); rintro e w11 ⟨rfl, hb⟩; refine ⟨_, rfl, ?_⟩; have n0_ := Aside0.mk (blk_below (g := gb336) (o := .cells #[.int .i64 a0_0, .int .i64 a0_1, .int .i64 a0_2, .slice A0_3 l0_3.length c0_3] 34 (0, 0)) (by exact BK336.out) hb); have n1_ := Aside0.mk (blk_below (g := gb337) (o := .cells #[.int .i64 0, .string (⟨#[]⟩ : ByteArray)] 41 (0, 0)) (by exact BK337.out) hb); have n2_ := Aside0.mk (below_step HB.out hb); clear BK336 BK337 HB; have BK336 := n0_; have BK337 := n1_; have HB := n2_; clear n0_ n1_ n2_; clear hb))
    go_cut [25] (fun v25 wc => ∃ (kq : Nat) (x25_5 : Bool), v25 = .bool x25_5 ∧ Aside0 (stripe_Repair.j0 kq l1 a2 x25_5 a0_0 a0_1 a0_2 l0_3 = some (r1, r2, r3)) ∧ Aside0 (kq ≤ k) ∧ Aside0 (wc.heap[gb336]? = some (.cells #[.int .i64 a0_0, .int .i64 a0_1, .int .i64 a0_2, (.slice A0_3 l0_3.length c0_3)] 34 (0, 0))) ∧ Aside0 (wc.heap[gb337]? = some (.cells #[.int .i64 0, .string (⟨#[]⟩ : ByteArray)] 41 (0, 0))) ∧ Aside0 (Below w.heap.size w wc))
    case first =>
      have H := HC6.out
      clear HC6
      by_cases c12 : a2 < 0
      · rw [if_pos c12] at H
        have c12b0 : decide (a2 < 0) = true := decide_eq_true c12
        clear c12
        ((skip))
        have H' := Aside0.mk H
        clear H
        go_wp2
        go_meet
        case rel => exact ⟨_, (true), (by (rfl)), H', ⟨by (omega)⟩, ⟨by exact BK336.out⟩, ⟨by exact BK337.out⟩, ⟨HB.out⟩⟩
      · rw [if_neg c12] at H
        have c12b0 : decide (a2 < 0) = false := decide_eq_false c12
        clear c12
        ((skip))
        have H' := Aside0.mk H
        clear H
        have hnb13 := NB336_337.out
        have hnc13 := NB337_336.out
        have hcz14_0 : w11.cell? ⟨gb336, 0, none⟩ = some (.int .i64 a0_0) := (blk_cell BK336.out 0).trans rfl
        have hcz14_1 : w11.cell? ⟨gb336, 1, none⟩ = some (.int .i64 a0_1) := (blk_cell BK336.out 1).trans rfl
        have hcz14_2 : w11.cell? ⟨gb336, 2, none⟩ = some (.int .i64 a0_2) := (blk_cell BK336.out 2).trans rfl
        have hcz14_3 : w11.cell? ⟨gb336, 3, none⟩ = some (.slice A0_3 l0_3.length c0_3) := (blk_cell BK336.out 3).trans rfl
        have hfz14_0 := blk_frozen BK336.out 0
        have hfz14_1 := blk_frozen BK336.out 1
        have hfz14_2 := blk_frozen BK336.out 2
        have hfz14_3 := blk_frozen BK336.out 3
        go_wp2
        go_meet
        case rel => exact ⟨_, (decide (a2 ≥ a0_1)), (by (rfl)), H', ⟨by (omega)⟩, ⟨by exact BK336.out⟩, ⟨by exact BK337.out⟩, ⟨HB.out⟩⟩
    case rest =>
      clear HC6 c5b0 c5b1 hcz10_0 hcz10_1 hcz10_2 hcz10_3 hfz10_0 hfz10_1 hfz10_2 hfz10_3
      obtain ⟨kq, x25_5, rfl, HA, HJ5, BK336, BK337, HB⟩ := hcut
      cases kq with
      | zero => exact absurd HA.out (by simp [stripe_Repair.j0])
      | succ kj5 =>
        have H := HA.out
        clear HA
        simp only [stripe_Repair.j0] at H
        by_cases c15 : x25_5 = true
        · subst c15
          have H1 : (none) = some (r1, r2, r3) := by rw [if_pos rfl] at H; exact H
          clear H
          have H := H1
          clear H1
          exact absurd H (by simp)
        · replace c15 := Bool.eq_false_iff.mpr c15
          subst c15
          have H1 : ((stripe_kept.f a0_0 a0_1 a0_2 l0_3 l1).bind fun t339 => ((erasure_Repair.f kj5 a0_0 a0_1 a0_2 t339 a2).bind fun bt342 => (if bt342.2.2 = 0 then ((stripe_right.f kj5 a0_0 a0_1 a0_2 l0_3 bt342.1 bt342.2.1).bind fun t346 => (if t346 = true then (some (bt342.1, bt342.2.1, 0)) else (none))) else (none)))) = some (r1, r2, r3) := by rw [if_neg (show ¬ (false = true) by decide)] at H; exact H
          clear H
          have H := H1
          clear H1
          replace H := Option.bind_eq_some_iff.mp H
          obtain ⟨t339, A160, H⟩ := H
          replace H : ((erasure_Repair.f kj5 a0_0 a0_1 a0_2 t339 a2).bind fun bt342 => (if bt342.2.2 = 0 then ((stripe_right.f kj5 a0_0 a0_1 a0_2 l0_3 bt342.1 bt342.2.1).bind fun t346 => (if t346 = true then (some (bt342.1, bt342.2.1, 0)) else (none))) else (none))) = some (r1, r2, r3) := H
          have A16 := Aside0.mk A160
          clear A160
          replace H := Option.bind_eq_some_iff.mp H
          obtain ⟨⟨t342, t343, t344⟩, A170, H⟩ := H
          replace H : (if t344 = 0 then ((stripe_right.f kj5 a0_0 a0_1 a0_2 l0_3 t342 t343).bind fun t346 => (if t346 = true then (some (t342, t343, 0)) else (none))) else (none)) = some (r1, r2, r3) := H
          have A17 := Aside0.mk A170
          clear A170
          by_cases c18 : t344 = 0
          · rw [if_pos c18] at H
            have c18b0 : (t344 == 0) = true := beq_iff_eq.mpr c18
            have c18b1 : (t344 != 0) = false := bne_eq_false_iff_eq.mpr c18
            clear c18
            replace H := Option.bind_eq_some_iff.mp H
            obtain ⟨t346, A190, H⟩ := H
            replace H : (if t346 = true then (some (t342, t343, 0)) else (none)) = some (r1, r2, r3) := H
            have A19 := Aside0.mk A190
            clear A190
            by_cases c20 : t346 = true
            · subst c20
              have H1 : (some (t342, t343, 0)) = some (r1, r2, r3) := by rw [if_pos rfl] at H; exact H
              clear H
              have H := H1
              clear H1
              simp only [Option.some.injEq, Prod.mk.injEq] at H
              obtain ⟨rfl, rfl, rfl⟩ := H
              (go_wp2)
              have n0_ := Aside0.mk (blk_drew BK336.out)
              have n1_ := Aside0.mk (blk_drew BK337.out)
              have n2_ := Aside0.mk (below_drew1 HB.out)
              clear BK336 BK337 HB
              have BK336 := n0_
              have BK337 := n1_
              have HB := n2_
              clear n0_ n1_ n2_
              refine start_ (n := 15) (S := fun w' => w'.cell? ⟨gb336, 0, none⟩ = some (.int .i64 a0_0) ∧ w'.cell? ⟨gb336, 1, none⟩ = some (.int .i64 a0_1) ∧ w'.cell? ⟨gb336, 2, none⟩ = some (.int .i64 a0_2) ∧ w'.cell? ⟨gb336, 3, none⟩ = some (.slice A0_3 l0_3.length c0_3)) (ds := []) #[false, false, false, false, false, false, false, false, false, false, false, false, false, false, false] (by kernel_rfl) rfl rfl ⟨(blk_cell BK336.out 0).trans rfl, (blk_cell BK336.out 1).trans rfl, (blk_cell BK336.out 2).trans rfl, (blk_cell BK336.out 3).trans rfl⟩ (fun hHeld => ?_); refine with_tabW stripe_Repair.tab6 stripe_Repair.bits6 (fun HT_ HW_ => ?_)
              generalize wc.drew = w21 at BK336 BK337 HB hHeld ⊢
              refine pure_ (i := 0) (N := some 28) (v := ?_) (a' := ?_) #[true, false, false, false, false, false, false, false, false, false, false, false, false, false, false] rfl rfl (any_of HT_.out (by kernel_rfl)) (fun _ _ _ h => h) (Or.inl ⟨by rfl, ?_⟩) ?_ ?_
              rotate_left
              · intro w'
                go_simp
                with_reducible rfl
              rotate_left
              · simp only [Act.put, List.setIfInBounds_toArray, List.set_cons_zero, List.set_cons_succ, i64_w, i32_w]
                rfl
              refine pure_ (i := 2) (N := some 30) (v := ?_) (a' := ?_) #[true, false, true, false, false, false, false, false, false, false, false, false, false, false, false] rfl rfl (any_of HT_.out (by kernel_rfl)) (fun _ _ _ h => h) (Or.inl ⟨by rfl, ?_⟩) ?_ ?_
              rotate_left
              · intro w'
                go_simp
                with_reducible rfl
              rotate_left
              · simp only [Act.put, List.setIfInBounds_toArray, List.set_cons_zero, List.set_cons_succ, i64_w, i32_w]
                rfl
              refine pure_ (i := 5) (N := some 33) (v := ?_) (a' := ?_) #[true, false, true, false, false, true, false, false, false, false, false, false, false, false, false] rfl rfl (any_of HT_.out (by kernel_rfl)) (fun _ _ _ h => h) (Or.inl ⟨by rfl, ?_⟩) ?_ ?_
              rotate_left
              · intro w'
                go_simp
                with_reducible rfl
              rotate_left
              · simp only [Act.put, List.setIfInBounds_toArray, List.set_cons_zero, List.set_cons_succ, i64_w, i32_w]
                rfl
              refine pure_ (i := 7) (N := some 35) (v := ?_) (a' := ?_) #[true, false, true, false, false, true, false, true, false, false, false, false, false, false, false] rfl rfl (any_of HT_.out (by kernel_rfl)) (fun _ _ _ h => h) (Or.inl ⟨by rfl, ?_⟩) ?_ ?_
              rotate_left
              · intro w'
                go_simp
                with_reducible rfl
              rotate_left
              · simp only [Act.put, List.setIfInBounds_toArray, List.set_cons_zero, List.set_cons_succ, i64_w, i32_w]
                rfl
              refine take_ (i := 1) (N := some 29) (v := ?_) (a' := ?_) #[true, true, true, false, false, true, false, true, false, false, false, false, false, false, false] rfl rfl (take_ofW HT_.out HW_.out (by kernel_rfl)) (fun _ _ _ h => h) (Or.inl ⟨by rfl, ?_⟩) hHeld ?_ ?_
              rotate_left
              · rintro w' ⟨s0, s1, s2, s3⟩
                go_simp
                with_reducible rfl
              rotate_left
              · simp only [Act.put, List.setIfInBounds_toArray, List.set_cons_zero, List.set_cons_succ, i64_w, i32_w]
                rfl
              refine take_ (i := 3) (N := some 31) (v := ?_) (a' := ?_) #[true, true, true, true, false, true, false, true, false, false, false, false, false, false, false] rfl rfl (take_ofW HT_.out HW_.out (by kernel_rfl)) (fun _ _ _ h => h) (Or.inl ⟨by rfl, ?_⟩) hHeld ?_ ?_
              rotate_left
              · rintro w' ⟨s0, s1, s2, s3⟩
                go_simp
                with_reducible rfl
              rotate_left
              · simp only [Act.put, List.setIfInBounds_toArray, List.set_cons_zero, List.set_cons_succ, i64_w, i32_w]
                rfl
              refine take_ (i := 4) (N := some 32) (v := ?_) (a' := ?_) #[true, true, true, true, true, true, false, true, false, false, false, false, false, false, false] rfl rfl (take_ofW HT_.out HW_.out (by kernel_rfl)) (fun _ _ _ h => h) (Or.inl ⟨by rfl, ?_⟩) hHeld ?_ ?_
              rotate_left
              · rintro w' ⟨s0, s1, s2, s3⟩
                go_simp
                with_reducible rfl
              rotate_left
              · simp only [Act.put, List.setIfInBounds_toArray, List.set_cons_zero, List.set_cons_succ, i64_w, i32_w]
                rfl
              refine join_ (σ := Value × Nat) 2 #[true, true, true, true, true, true, true, true, true, true, true, true, true, false, false] (fun s_ => [(34, s_.1), (36, .tuple #[.agg #[.int .i64 t342, .string t343], .int .i64 t344]), (9, .pointer (some ⟨s_.2, 0, none⟩)), (27, .tuple #[.agg #[.int .i64 t342, .string t343], .int .i64 t344]), (37, .agg #[.int .i64 t342, .string t343]), (38, .int .i64 t344)]) (fun s_ w' => (w'.cell? ⟨gb336, 0, none⟩ = some (.int .i64 a0_0) ∧ w'.cell? ⟨gb336, 1, none⟩ = some (.int .i64 a0_1) ∧ w'.cell? ⟨gb336, 2, none⟩ = some (.int .i64 a0_2) ∧ w'.cell? ⟨gb336, 3, none⟩ = some (.slice A0_3 l0_3.length c0_3)) ∧ (Kd.R k41 41 w' w.heap.size (fun k_ => k_ ≠ gb337 ∧ k_ ≠ s_.2) s_.1 t339) ∧ (w'.heap[gb336]? = some (.cells #[.int .i64 a0_0, .int .i64 a0_1, .int .i64 a0_2, .slice A0_3 l0_3.length c0_3] 34 (0, 0))) ∧ (w'.heap[gb337]? = some (.cells #[.int .i64 0, .string (⟨#[]⟩ : ByteArray)] 41 (0, 0))) ∧ (w'.heap[s_.2]? = some (.cells #[.int .i64 0, .string (⟨#[]⟩ : ByteArray)] 41 (0, 0))) ∧ (w.heap.size ≤ s_.2) ∧ (w.heap.size ≤ s_.2) ∧ (gb336 ≠ s_.2) ∧ (s_.2 ≠ gb336) ∧ (gb337 ≠ s_.2) ∧ (s_.2 ≠ gb337) ∧ (Below w.heap.size w w')) ?_ ?_
              rotate_left
              · intro hCont
                refine two_ (i := 6) (j := 12) (Ni := some 34) (Nj := some 9) #[true, true, true, true, true, true, true, true, false, false, false, false, false, false, false] #[true, true, true, true, true, true, false, true, false, false, false, false, true, false, false] rfl rfl rfl rfl (two_of HT_.out (by kernel_rfl)) (by decide) (by decide) (fun K hK => ?_) (fun K hK => ?_)
                · skip
                  refine goes_ Try.func26 (by kernel_rfl) rfl #[.agg #[.int .i64 a0_0, .int .i64 a0_1, .int .i64 a0_2, .slice A0_3 l0_3.length c0_3], .slice A1 l1.length c1] (by rfl) rfl rfl (by ((simp only [List.map_toArray, List.map_cons, List.map_nil])); (rfl)) ?_
                  with_reducible refine (stripe_kept.calls a0_0 a0_1 a0_2 _ _ l0_3 _ _ l1 t339 _ ?side1 ?side2 ?side3 ?side4 A16.out).mono ?_
                  (case side1 => repeat ((exact (Kd.C_below HR0_3.out HB.out))))
                  (case side2 => exact HC0_3.out)
                  (case side3 => repeat ((exact (Kd.C_below HR1.out HB.out))))
                  (case side4 => exact HC1.out)
                  rintro e w22 ⟨v340, rfl, ho0, hb⟩
                  refine ⟨_, rfl, ?_⟩
                  have n0_ := Aside0.mk (Kd.R_lower (Kd.R_newB ho0 (g := gb337) (o := .cells #[.int .i64 0, .string (⟨#[]⟩ : ByteArray)] 41 (0, 0)) (by exact BK337.out)) (below_size HB.out))
                  have n1_ := Aside0.mk (blk_below (g := gb336) (o := .cells #[.int .i64 a0_0, .int .i64 a0_1, .int .i64 a0_2, .slice A0_3 l0_3.length c0_3] 34 (0, 0)) (by exact BK336.out) hb)
                  have n2_ := Aside0.mk (blk_below (g := gb337) (o := .cells #[.int .i64 0, .string (⟨#[]⟩ : ByteArray)] 41 (0, 0)) (by exact BK337.out) hb)
                  have n3_ := Aside0.mk (below_step HB.out hb)
                  clear BK336 BK337 HB
                  have HO341 := n0_
                  have BK336 := n1_
                  have BK337 := n2_
                  have HB := n3_
                  clear n0_ n1_ n2_ n3_
                  ((clear hb))
                  ((clear ho0))
                  obtain ⟨Ao23, co23, eo23⟩ := Kd.R_slice HO341.out
                  ((subst eo23))
                  refine hK.out _ _ ⟨(blk_cell BK336.out 0).trans rfl, (blk_cell BK336.out 1).trans rfl, (blk_cell BK336.out 2).trans rfl, (blk_cell BK336.out 3).trans rfl⟩ (fun hHeld => ?_)
                  clear hK K
                  refine norm_ (a' := ?_) ?_ ?_
                  rotate_left
                  · show Act.put _ (some 34) _ = _
                    simp only [Act.put, List.setIfInBounds_toArray, List.set_cons_zero, List.set_cons_succ, i64_w, i32_w]
                    rfl
                  refine two_ (i := 8) (j := 12) (Ni := some 36) (Nj := some 9) #[true, true, true, true, true, true, true, true, true, false, false, false, false, false, false] #[true, true, true, true, true, true, true, true, false, false, false, false, true, false, false] rfl rfl rfl rfl (two_of HT_.out (by kernel_rfl)) (by decide) (by decide) (fun K hK => ?_) (fun K hK => ?_)
                  · skip
                    refine goes_ Try.func29 (by kernel_rfl) rfl #[.agg #[.int .i64 a0_0, .int .i64 a0_1], .int .i64 a0_2, .slice Ao23 t339.length co23, .int .i64 a2] (by rfl) rfl rfl (by ((simp only [List.map_toArray, List.map_cons, List.map_nil])); (rfl)) ?_
                    with_reducible refine (erasure_Repair.calls kj5 a0_0 a0_1 a0_2 _ _ t339 a2 t342 t343 t344 _ ?side1 ?side2 A17.out).mono ?_
                    (case side1 => repeat ((exact (Kd.R_reads' HO341.out).2.2)))
                    (case side2 => exact (Kd.R_reads' HO341.out).2.1)
                    rintro e w24 ⟨rfl, hb⟩
                    refine ⟨_, rfl, ?_⟩
                    have n0_ := Aside0.mk (Kd.R_below (by exact HO341.out) hb)
                    have n1_ := Aside0.mk (blk_below (g := gb336) (o := .cells #[.int .i64 a0_0, .int .i64 a0_1, .int .i64 a0_2, .slice A0_3 l0_3.length c0_3] 34 (0, 0)) (by exact BK336.out) hb)
                    have n2_ := Aside0.mk (blk_below (g := gb337) (o := .cells #[.int .i64 0, .string (⟨#[]⟩ : ByteArray)] 41 (0, 0)) (by exact BK337.out) hb)
                    have n3_ := Aside0.mk (below_step HB.out hb)
                    clear HO341 BK336 BK337 HB
                    have HO341 := n0_
                    have BK336 := n1_
                    have BK337 := n2_
                    have HB := n3_
                    clear n0_ n1_ n2_ n3_
                    ((clear hb))
                    refine hK.out _ _ ⟨(blk_cell BK336.out 0).trans rfl, (blk_cell BK336.out 1).trans rfl, (blk_cell BK336.out 2).trans rfl, (blk_cell BK336.out 3).trans rfl⟩ (fun hHeld => ?_)
                    clear hK K
                    refine norm_ (a' := ?_) ?_ ?_
                    rotate_left
                    · show Act.put _ (some 36) _ = _
                      simp only [Act.put, List.setIfInBounds_toArray, List.set_cons_zero, List.set_cons_succ, i64_w, i32_w]
                      rfl
                    refine pure_ (i := 9) (N := some 27) (v := ?_) (a' := ?_) #[true, true, true, true, true, true, true, true, true, true, false, false, false, false, false] rfl rfl (any_of HT_.out (by kernel_rfl)) (fun _ _ _ h => h) (Or.inl ⟨by rfl, ?_⟩) ?_ ?_
                    rotate_left
                    · intro w'
                      go_simp
                      with_reducible rfl
                    rotate_left
                    · simp only [Act.put, List.setIfInBounds_toArray, List.set_cons_zero, List.set_cons_succ, i64_w, i32_w]
                      rfl
                    refine pure_ (i := 10) (N := some 37) (v := ?_) (a' := ?_) #[true, true, true, true, true, true, true, true, true, true, true, false, false, false, false] rfl rfl (any_of HT_.out (by kernel_rfl)) (fun _ _ _ h => h) (Or.inl ⟨by rfl, ?_⟩) ?_ ?_
                    rotate_left
                    · intro w'
                      go_simp
                      with_reducible rfl
                    rotate_left
                    · simp only [Act.put, List.setIfInBounds_toArray, List.set_cons_zero, List.set_cons_succ, i64_w, i32_w]
                      rfl
                    refine pure_ (i := 11) (N := some 38) (v := ?_) (a' := ?_) #[true, true, true, true, true, true, true, true, true, true, true, true, false, false, false] rfl rfl (any_of HT_.out (by kernel_rfl)) (fun _ _ _ h => h) (Or.inl ⟨by rfl, ?_⟩) ?_ ?_
                    rotate_left
                    · intro w'
                      go_simp
                      with_reducible rfl
                    rotate_left
                    · simp only [Act.put, List.setIfInBounds_toArray, List.set_cons_zero, List.set_cons_succ, i64_w, i32_w]
                      rfl
                    refine one_ (i := 12) (N := some 9) #[true, true, true, true, true, true, true, true, true, true, true, true, true, false, false] rfl rfl (one_of HT_.out (by kernel_rfl)) (by decide) (fun K hK => ?_)
                    refine box_step ?hg (N := 9) ?hd (cs := #[.int .i64 0, .string (⟨#[]⟩ : ByteArray)]) (t := 41) ?hr ?_; (case hd => rfl); (case hg => rfl); (case hr => (go_simp; done))
                    intro gb345 hg w25 hbox hb
                    have n0_ := Aside0.mk (Kd.R_below (Kd.R_elderB (by exact HO341.out) gb345 (Nat.le_of_eq hg.symm)) hb)
                    have n1_ := Aside0.mk (blk_below (g := gb336) (o := .cells #[.int .i64 a0_0, .int .i64 a0_1, .int .i64 a0_2, .slice A0_3 l0_3.length c0_3] 34 (0, 0)) (by exact BK336.out) hb)
                    have n2_ := Aside0.mk (blk_below (g := gb337) (o := .cells #[.int .i64 0, .string (⟨#[]⟩ : ByteArray)] 41 (0, 0)) (by exact BK337.out) hb)
                    have n3_ := Aside0.mk (below_step HB.out hb)
                    have n4_ := Aside0.mk (hbox)
                    have n5_ := Aside0.mk ((by rw [hg]; exact (below_size HB.out) : w.heap.size ≤ gb345))
                    have n6_ := Aside0.mk ((by rw [hg]; exact (below_size HB.out) : w.heap.size ≤ gb345))
                    have n7_ := Aside0.mk ((by rw [hg]; exact Nat.ne_of_lt (blk_lt (g := gb336) (o := .cells #[.int .i64 a0_0, .int .i64 a0_1, .int .i64 a0_2, .slice A0_3 l0_3.length c0_3] 34 (0, 0)) (by exact BK336.out)) : gb336 ≠ gb345))
                    have n8_ := Aside0.mk ((by rw [hg]; exact Nat.ne_of_gt (blk_lt (g := gb336) (o := .cells #[.int .i64 a0_0, .int .i64 a0_1, .int .i64 a0_2, .slice A0_3 l0_3.length c0_3] 34 (0, 0)) (by exact BK336.out)) : gb345 ≠ gb336))
                    have n9_ := Aside0.mk ((by rw [hg]; exact Nat.ne_of_lt (blk_lt (g := gb337) (o := .cells #[.int .i64 0, .string (⟨#[]⟩ : ByteArray)] 41 (0, 0)) (by exact BK337.out)) : gb337 ≠ gb345))
                    have n10_ := Aside0.mk ((by rw [hg]; exact Nat.ne_of_gt (blk_lt (g := gb337) (o := .cells #[.int .i64 0, .string (⟨#[]⟩ : ByteArray)] 41 (0, 0)) (by exact BK337.out)) : gb345 ≠ gb337))
                    clear HO341 BK336 BK337 HB
                    have HO341 := n0_
                    have BK336 := n1_
                    have BK337 := n2_
                    have HB := n3_
                    have BK345 := n4_
                    have GW345 := n5_
                    have GE345 := n6_
                    have NB336_345 := n7_
                    have NB345_336 := n8_
                    have NB337_345 := n9_
                    have NB345_337 := n10_
                    clear n0_ n1_ n2_ n3_ n4_ n5_ n6_ n7_ n8_ n9_ n10_ hb hbox hg
                    refine hK.out _ _ ⟨(blk_cell BK336.out 0).trans rfl, (blk_cell BK336.out 1).trans rfl, (blk_cell BK336.out 2).trans rfl, (blk_cell BK336.out 3).trans rfl⟩ (fun hHeld => ?_)
                    clear hK K
                    refine norm_ (a' := ?_) ?_ ?_
                    rotate_left
                    · show Act.put _ (some 9) _ = _
                      simp only [Act.put, List.setIfInBounds_toArray, List.set_cons_zero, List.set_cons_succ, i64_w, i32_w]
                      rfl
                    exact norm_ (by simp only [putAll, Act.put, List.setIfInBounds_toArray, List.set_cons_zero, List.set_cons_succ]) (hCont (.slice Ao23 t339.length co23, gb345) _ ⟨hHeld, (by exact Kd.R_mono HO341.out (fun _ hk => ⟨hk.1.2, hk.2⟩)), (by exact BK336.out), (by exact BK337.out), (by exact BK345.out), GW345.out, GE345.out, NB336_345.out, NB345_336.out, NB337_345.out, NB345_337.out, HB.out⟩)
                  · skip
                    refine box_step ?hg (N := 9) ?hd (cs := #[.int .i64 0, .string (⟨#[]⟩ : ByteArray)]) (t := 41) ?hr ?_; (case hd => rfl); (case hg => rfl); (case hr => (go_simp; done))
                    intro gb345 hg w23 hbox hb
                    have n0_ := Aside0.mk (Kd.R_below (Kd.R_elderB (by exact HO341.out) gb345 (Nat.le_of_eq hg.symm)) hb)
                    have n1_ := Aside0.mk (blk_below (g := gb336) (o := .cells #[.int .i64 a0_0, .int .i64 a0_1, .int .i64 a0_2, .slice A0_3 l0_3.length c0_3] 34 (0, 0)) (by exact BK336.out) hb)
                    have n2_ := Aside0.mk (blk_below (g := gb337) (o := .cells #[.int .i64 0, .string (⟨#[]⟩ : ByteArray)] 41 (0, 0)) (by exact BK337.out) hb)
                    have n3_ := Aside0.mk (below_step HB.out hb)
                    have n4_ := Aside0.mk (hbox)
                    have n5_ := Aside0.mk ((by rw [hg]; exact (below_size HB.out) : w.heap.size ≤ gb345))
                    have n6_ := Aside0.mk ((by rw [hg]; exact (below_size HB.out) : w.heap.size ≤ gb345))
                    have n7_ := Aside0.mk ((by rw [hg]; exact Nat.ne_of_lt (blk_lt (g := gb336) (o := .cells #[.int .i64 a0_0, .int .i64 a0_1, .int .i64 a0_2, .slice A0_3 l0_3.length c0_3] 34 (0, 0)) (by exact BK336.out)) : gb336 ≠ gb345))
                    have n8_ := Aside0.mk ((by rw [hg]; exact Nat.ne_of_gt (blk_lt (g := gb336) (o := .cells #[.int .i64 a0_0, .int .i64 a0_1, .int .i64 a0_2, .slice A0_3 l0_3.length c0_3] 34 (0, 0)) (by exact BK336.out)) : gb345 ≠ gb336))
                    have n9_ := Aside0.mk ((by rw [hg]; exact Nat.ne_of_lt (blk_lt (g := gb337) (o := .cells #[.int .i64 0, .string (⟨#[]⟩ : ByteArray)] 41 (0, 0)) (by exact BK337.out)) : gb337 ≠ gb345))
                    have n10_ := Aside0.mk ((by rw [hg]; exact Nat.ne_of_gt (blk_lt (g := gb337) (o := .cells #[.int .i64 0, .string (⟨#[]⟩ : ByteArray)] 41 (0, 0)) (by exact BK337.out)) : gb345 ≠ gb337))
                    clear HO341 BK336 BK337 HB
                    have HO341 := n0_
                    have BK336 := n1_
                    have BK337 := n2_
                    have HB := n3_
                    have BK345 := n4_
                    have GW345 := n5_
                    have GE345 := n6_
                    have NB336_345 := n7_
                    have NB345_336 := n8_
                    have NB337_345 := n9_
                    have NB345_337 := n10_
                    clear n0_ n1_ n2_ n3_ n4_ n5_ n6_ n7_ n8_ n9_ n10_ hb hbox hg
                    obtain ⟨Ao24, co24, eo24⟩ := Kd.R_slice HO341.out
                    ((injection eo24 with f1_ f2_ f3_; have f4_ := f1_.symm; have f5_ := f3_.symm; clear f1_ f2_ f3_; subst f4_; subst f5_))
                    refine hK.out _ _ ⟨(blk_cell BK336.out 0).trans rfl, (blk_cell BK336.out 1).trans rfl, (blk_cell BK336.out 2).trans rfl, (blk_cell BK336.out 3).trans rfl⟩ (fun hHeld => ?_)
                    clear hK K
                    refine norm_ (a' := ?_) ?_ ?_
                    rotate_left
                    · show Act.put _ (some 9) _ = _
                      simp only [Act.put, List.setIfInBounds_toArray, List.set_cons_zero, List.set_cons_succ, i64_w, i32_w]
                      rfl
                    refine one_ (i := 8) (N := some 36) #[true, true, true, true, true, true, true, true, true, false, false, false, true, false, false] rfl rfl (one_of HT_.out (by kernel_rfl)) (by decide) (fun K hK => ?_)
                    refine goes_ Try.func29 (by kernel_rfl) rfl #[.agg #[.int .i64 a0_0, .int .i64 a0_1], .int .i64 a0_2, .slice Ao24 t339.length co24, .int .i64 a2] (by rfl) rfl rfl (by ((simp only [List.map_toArray, List.map_cons, List.map_nil])); (rfl)) ?_
                    with_reducible refine (erasure_Repair.calls kj5 a0_0 a0_1 a0_2 _ _ t339 a2 t342 t343 t344 _ ?side1 ?side2 A17.out).mono ?_
                    (case side1 => repeat ((exact (Kd.R_reads' HO341.out).2.2)))
                    (case side2 => exact (Kd.R_reads' HO341.out).2.1)
                    rintro e w25 ⟨rfl, hb⟩
                    refine ⟨_, rfl, ?_⟩
                    have n0_ := Aside0.mk (Kd.R_below (by exact HO341.out) hb)
                    have n1_ := Aside0.mk (blk_below (g := gb336) (o := .cells #[.int .i64 a0_0, .int .i64 a0_1, .int .i64 a0_2, .slice A0_3 l0_3.length c0_3] 34 (0, 0)) (by exact BK336.out) hb)
                    have n2_ := Aside0.mk (blk_below (g := gb337) (o := .cells #[.int .i64 0, .string (⟨#[]⟩ : ByteArray)] 41 (0, 0)) (by exact BK337.out) hb)
                    have n3_ := Aside0.mk (blk_below (g := gb345) (o := .cells #[.int .i64 0, .string (⟨#[]⟩ : ByteArray)] 41 (0, 0)) (by exact BK345.out) hb)
                    have n4_ := Aside0.mk (below_step HB.out hb)
                    clear HO341 BK336 BK337 BK345 HB
                    have HO341 := n0_
                    have BK336 := n1_
                    have BK337 := n2_
                    have BK345 := n3_
                    have HB := n4_
                    clear n0_ n1_ n2_ n3_ n4_
                    ((clear hb))
                    refine hK.out _ _ ⟨(blk_cell BK336.out 0).trans rfl, (blk_cell BK336.out 1).trans rfl, (blk_cell BK336.out 2).trans rfl, (blk_cell BK336.out 3).trans rfl⟩ (fun hHeld => ?_)
                    clear hK K
                    refine norm_ (a' := ?_) ?_ ?_
                    rotate_left
                    · show Act.put _ (some 36) _ = _
                      simp only [Act.put, List.setIfInBounds_toArray, List.set_cons_zero, List.set_cons_succ, i64_w, i32_w]
                      rfl
                    refine pure_ (i := 9) (N := some 27) (v := ?_) (a' := ?_) #[true, true, true, true, true, true, true, true, true, true, false, false, true, false, false] rfl rfl (any_of HT_.out (by kernel_rfl)) (fun _ _ _ h => h) (Or.inl ⟨by rfl, ?_⟩) ?_ ?_
                    rotate_left
                    · intro w'
                      go_simp
                      with_reducible rfl
                    rotate_left
                    · simp only [Act.put, List.setIfInBounds_toArray, List.set_cons_zero, List.set_cons_succ, i64_w, i32_w]
                      rfl
                    refine pure_ (i := 10) (N := some 37) (v := ?_) (a' := ?_) #[true, true, true, true, true, true, true, true, true, true, true, false, true, false, false] rfl rfl (any_of HT_.out (by kernel_rfl)) (fun _ _ _ h => h) (Or.inl ⟨by rfl, ?_⟩) ?_ ?_
                    rotate_left
                    · intro w'
                      go_simp
                      with_reducible rfl
                    rotate_left
                    · simp only [Act.put, List.setIfInBounds_toArray, List.set_cons_zero, List.set_cons_succ, i64_w, i32_w]
                      rfl
                    refine pure_ (i := 11) (N := some 38) (v := ?_) (a' := ?_) #[true, true, true, true, true, true, true, true, true, true, true, true, true, false, false] rfl rfl (any_of HT_.out (by kernel_rfl)) (fun _ _ _ h => h) (Or.inl ⟨by rfl, ?_⟩) ?_ ?_
                    rotate_left
                    · intro w'
                      go_simp
                      with_reducible rfl
                    rotate_left
                    · simp only [Act.put, List.setIfInBounds_toArray, List.set_cons_zero, List.set_cons_succ, i64_w, i32_w]
                      rfl
                    exact norm_ (by simp only [putAll, Act.put, List.setIfInBounds_toArray, List.set_cons_zero, List.set_cons_succ]) (hCont (.slice Ao24 t339.length co24, gb345) _ ⟨hHeld, (by exact Kd.R_mono HO341.out (fun _ hk => ⟨hk.1.2, hk.2⟩)), (by exact BK336.out), (by exact BK337.out), (by exact BK345.out), GW345.out, GE345.out, NB336_345.out, NB345_336.out, NB337_345.out, NB345_337.out, HB.out⟩)
                · skip
                  refine box_step ?hg (N := 9) ?hd (cs := #[.int .i64 0, .string (⟨#[]⟩ : ByteArray)]) (t := 41) ?hr ?_; (case hd => rfl); (case hg => rfl); (case hr => (go_simp; done))
                  intro gb345 hg w22 hbox hb
                  have n0_ := Aside0.mk (blk_below (g := gb336) (o := .cells #[.int .i64 a0_0, .int .i64 a0_1, .int .i64 a0_2, .slice A0_3 l0_3.length c0_3] 34 (0, 0)) (by exact BK336.out) hb)
                  have n1_ := Aside0.mk (blk_below (g := gb337) (o := .cells #[.int .i64 0, .string (⟨#[]⟩ : ByteArray)] 41 (0, 0)) (by exact BK337.out) hb)
                  have n2_ := Aside0.mk (below_step HB.out hb)
                  have n3_ := Aside0.mk (hbox)
                  have n4_ := Aside0.mk ((by rw [hg]; exact (below_size HB.out) : w.heap.size ≤ gb345))
                  have n5_ := Aside0.mk ((by rw [hg]; exact (below_size HB.out) : w.heap.size ≤ gb345))
                  have n6_ := Aside0.mk ((by rw [hg]; exact Nat.ne_of_lt (blk_lt (g := gb336) (o := .cells #[.int .i64 a0_0, .int .i64 a0_1, .int .i64 a0_2, .slice A0_3 l0_3.length c0_3] 34 (0, 0)) (by exact BK336.out)) : gb336 ≠ gb345))
                  have n7_ := Aside0.mk ((by rw [hg]; exact Nat.ne_of_gt (blk_lt (g := gb336) (o := .cells #[.int .i64 a0_0, .int .i64 a0_1, .int .i64 a0_2, .slice A0_3 l0_3.length c0_3] 34 (0, 0)) (by exact BK336.out)) : gb345 ≠ gb336))
                  have n8_ := Aside0.mk ((by rw [hg]; exact Nat.ne_of_lt (blk_lt (g := gb337) (o := .cells #[.int .i64 0, .string (⟨#[]⟩ : ByteArray)] 41 (0, 0)) (by exact BK337.out)) : gb337 ≠ gb345))
                  have n9_ := Aside0.mk ((by rw [hg]; exact Nat.ne_of_gt (blk_lt (g := gb337) (o := .cells #[.int .i64 0, .string (⟨#[]⟩ : ByteArray)] 41 (0, 0)) (by exact BK337.out)) : gb345 ≠ gb337))
                  clear BK336 BK337 HB
                  have BK336 := n0_
                  have BK337 := n1_
                  have HB := n2_
                  have BK345 := n3_
                  have GW345 := n4_
                  have GE345 := n5_
                  have NB336_345 := n6_
                  have NB345_336 := n7_
                  have NB337_345 := n8_
                  have NB345_337 := n9_
                  clear n0_ n1_ n2_ n3_ n4_ n5_ n6_ n7_ n8_ n9_ hb hbox hg
                  refine hK.out _ _ ⟨(blk_cell BK336.out 0).trans rfl, (blk_cell BK336.out 1).trans rfl, (blk_cell BK336.out 2).trans rfl, (blk_cell BK336.out 3).trans rfl⟩ (fun hHeld => ?_)
                  clear hK K
                  refine norm_ (a' := ?_) ?_ ?_
                  rotate_left
                  · show Act.put _ (some 9) _ = _
                    simp only [Act.put, List.setIfInBounds_toArray, List.set_cons_zero, List.set_cons_succ, i64_w, i32_w]
                    rfl
                  refine one_ (i := 6) (N := some 34) #[true, true, true, true, true, true, true, true, false, false, false, false, true, false, false] rfl rfl (one_of HT_.out (by kernel_rfl)) (by decide) (fun K hK => ?_)
                  refine goes_ Try.func26 (by kernel_rfl) rfl #[.agg #[.int .i64 a0_0, .int .i64 a0_1, .int .i64 a0_2, .slice A0_3 l0_3.length c0_3], .slice A1 l1.length c1] (by rfl) rfl rfl (by ((simp only [List.map_toArray, List.map_cons, List.map_nil])); (rfl)) ?_
                  with_reducible refine (stripe_kept.calls a0_0 a0_1 a0_2 _ _ l0_3 _ _ l1 t339 _ ?side1 ?side2 ?side3 ?side4 A16.out).mono ?_
                  (case side1 => repeat ((exact (Kd.C_below HR0_3.out HB.out))))
                  (case side2 => exact HC0_3.out)
                  (case side3 => repeat ((exact (Kd.C_below HR1.out HB.out))))
                  (case side4 => exact HC1.out)
                  rintro e w23 ⟨v340, rfl, ho0, hb⟩
                  refine ⟨_, rfl, ?_⟩
                  have n0_ := Aside0.mk (Kd.R_lower (Kd.R_newB (Kd.R_newB ho0 (g := gb337) (o := .cells #[.int .i64 0, .string (⟨#[]⟩ : ByteArray)] 41 (0, 0)) (by exact BK337.out)) (g := gb345) (o := .cells #[.int .i64 0, .string (⟨#[]⟩ : ByteArray)] 41 (0, 0)) (by exact BK345.out)) (below_size HB.out))
                  have n1_ := Aside0.mk (blk_below (g := gb336) (o := .cells #[.int .i64 a0_0, .int .i64 a0_1, .int .i64 a0_2, .slice A0_3 l0_3.length c0_3] 34 (0, 0)) (by exact BK336.out) hb)
                  have n2_ := Aside0.mk (blk_below (g := gb337) (o := .cells #[.int .i64 0, .string (⟨#[]⟩ : ByteArray)] 41 (0, 0)) (by exact BK337.out) hb)
                  have n3_ := Aside0.mk (blk_below (g := gb345) (o := .cells #[.int .i64 0, .string (⟨#[]⟩ : ByteArray)] 41 (0, 0)) (by exact BK345.out) hb)
                  have n4_ := Aside0.mk (below_step HB.out hb)
                  clear BK336 BK337 BK345 HB
                  have HO341 := n0_
                  have BK336 := n1_
                  have BK337 := n2_
                  have BK345 := n3_
                  have HB := n4_
                  clear n0_ n1_ n2_ n3_ n4_
                  ((clear hb))
                  ((clear ho0))
                  obtain ⟨Ao24, co24, eo24⟩ := Kd.R_slice HO341.out
                  ((subst eo24))
                  refine hK.out _ _ ⟨(blk_cell BK336.out 0).trans rfl, (blk_cell BK336.out 1).trans rfl, (blk_cell BK336.out 2).trans rfl, (blk_cell BK336.out 3).trans rfl⟩ (fun hHeld => ?_)
                  clear hK K
                  refine norm_ (a' := ?_) ?_ ?_
                  rotate_left
                  · show Act.put _ (some 34) _ = _
                    simp only [Act.put, List.setIfInBounds_toArray, List.set_cons_zero, List.set_cons_succ, i64_w, i32_w]
                    rfl
                  refine one_ (i := 8) (N := some 36) #[true, true, true, true, true, true, true, true, true, false, false, false, true, false, false] rfl rfl (one_of HT_.out (by kernel_rfl)) (by decide) (fun K hK => ?_)
                  refine goes_ Try.func29 (by kernel_rfl) rfl #[.agg #[.int .i64 a0_0, .int .i64 a0_1], .int .i64 a0_2, .slice Ao24 t339.length co24, .int .i64 a2] (by rfl) rfl rfl (by ((simp only [List.map_toArray, List.map_cons, List.map_nil])); (rfl)) ?_
                  with_reducible refine (erasure_Repair.calls kj5 a0_0 a0_1 a0_2 _ _ t339 a2 t342 t343 t344 _ ?side1 ?side2 A17.out).mono ?_
                  (case side1 => repeat ((exact (Kd.R_reads' HO341.out).2.2)))
                  (case side2 => exact (Kd.R_reads' HO341.out).2.1)
                  rintro e w25 ⟨rfl, hb⟩
                  refine ⟨_, rfl, ?_⟩
                  have n0_ := Aside0.mk (Kd.R_below (by exact HO341.out) hb)
                  have n1_ := Aside0.mk (blk_below (g := gb336) (o := .cells #[.int .i64 a0_0, .int .i64 a0_1, .int .i64 a0_2, .slice A0_3 l0_3.length c0_3] 34 (0, 0)) (by exact BK336.out) hb)
                  have n2_ := Aside0.mk (blk_below (g := gb337) (o := .cells #[.int .i64 0, .string (⟨#[]⟩ : ByteArray)] 41 (0, 0)) (by exact BK337.out) hb)
                  have n3_ := Aside0.mk (blk_below (g := gb345) (o := .cells #[.int .i64 0, .string (⟨#[]⟩ : ByteArray)] 41 (0, 0)) (by exact BK345.out) hb)
                  have n4_ := Aside0.mk (below_step HB.out hb)
                  clear HO341 BK336 BK337 BK345 HB
                  have HO341 := n0_
                  have BK336 := n1_
                  have BK337 := n2_
                  have BK345 := n3_
                  have HB := n4_
                  clear n0_ n1_ n2_ n3_ n4_
                  ((clear hb))
                  refine hK.out _ _ ⟨(blk_cell BK336.out 0).trans rfl, (blk_cell BK336.out 1).trans rfl, (blk_cell BK336.out 2).trans rfl, (blk_cell BK336.out 3).trans rfl⟩ (fun hHeld => ?_)
                  clear hK K
                  refine norm_ (a' := ?_) ?_ ?_
                  rotate_left
                  · show Act.put _ (some 36) _ = _
                    simp only [Act.put, List.setIfInBounds_toArray, List.set_cons_zero, List.set_cons_succ, i64_w, i32_w]
                    rfl
                  refine pure_ (i := 9) (N := some 27) (v := ?_) (a' := ?_) #[true, true, true, true, true, true, true, true, true, true, false, false, true, false, false] rfl rfl (any_of HT_.out (by kernel_rfl)) (fun _ _ _ h => h) (Or.inl ⟨by rfl, ?_⟩) ?_ ?_
                  rotate_left
                  · intro w'
                    go_simp
                    with_reducible rfl
                  rotate_left
                  · simp only [Act.put, List.setIfInBounds_toArray, List.set_cons_zero, List.set_cons_succ, i64_w, i32_w]
                    rfl
                  refine pure_ (i := 10) (N := some 37) (v := ?_) (a' := ?_) #[true, true, true, true, true, true, true, true, true, true, true, false, true, false, false] rfl rfl (any_of HT_.out (by kernel_rfl)) (fun _ _ _ h => h) (Or.inl ⟨by rfl, ?_⟩) ?_ ?_
                  rotate_left
                  · intro w'
                    go_simp
                    with_reducible rfl
                  rotate_left
                  · simp only [Act.put, List.setIfInBounds_toArray, List.set_cons_zero, List.set_cons_succ, i64_w, i32_w]
                    rfl
                  refine pure_ (i := 11) (N := some 38) (v := ?_) (a' := ?_) #[true, true, true, true, true, true, true, true, true, true, true, true, true, false, false] rfl rfl (any_of HT_.out (by kernel_rfl)) (fun _ _ _ h => h) (Or.inl ⟨by rfl, ?_⟩) ?_ ?_
                  rotate_left
                  · intro w'
                    go_simp
                    with_reducible rfl
                  rotate_left
                  · simp only [Act.put, List.setIfInBounds_toArray, List.set_cons_zero, List.set_cons_succ, i64_w, i32_w]
                    rfl
                  exact norm_ (by simp only [putAll, Act.put, List.setIfInBounds_toArray, List.set_cons_zero, List.set_cons_succ]) (hCont (.slice Ao24 t339.length co24, gb345) _ ⟨hHeld, (by exact Kd.R_mono HO341.out (fun _ hk => ⟨hk.1.2, hk.2⟩)), (by exact BK336.out), (by exact BK337.out), (by exact BK345.out), GW345.out, GE345.out, NB336_345.out, NB345_336.out, NB337_345.out, NB345_337.out, HB.out⟩)
              rintro ⟨v340, gb345⟩ w26 ⟨hS_, h0_, h1_, h2_, h3_, h4_, h5_, h6_, h7_, h8_, h9_, h10_⟩
              have n0_ : Aside0 (Kd.R k41 41 w26 w.heap.size (fun k_ => k_ ≠ gb337 ∧ k_ ≠ gb345) v340 t339) := ⟨h0_⟩
              have n1_ : Aside0 (w26.heap[gb336]? = some (.cells #[.int .i64 a0_0, .int .i64 a0_1, .int .i64 a0_2, .slice A0_3 l0_3.length c0_3] 34 (0, 0))) := ⟨h1_⟩
              have n2_ : Aside0 (w26.heap[gb337]? = some (.cells #[.int .i64 0, .string (⟨#[]⟩ : ByteArray)] 41 (0, 0))) := ⟨h2_⟩
              have n3_ : Aside0 (w26.heap[gb345]? = some (.cells #[.int .i64 0, .string (⟨#[]⟩ : ByteArray)] 41 (0, 0))) := ⟨h3_⟩
              have n4_ : Aside0 (w.heap.size ≤ gb345) := ⟨h4_⟩
              have n5_ : Aside0 (w.heap.size ≤ gb345) := ⟨h5_⟩
              have n6_ : Aside0 (gb336 ≠ gb345) := ⟨h6_⟩
              have n7_ : Aside0 (gb345 ≠ gb336) := ⟨h7_⟩
              have n8_ : Aside0 (gb337 ≠ gb345) := ⟨h8_⟩
              have n9_ : Aside0 (gb345 ≠ gb337) := ⟨h9_⟩
              have n10_ : Aside0 (Below w.heap.size w w26) := ⟨h10_⟩
              clear BK336 BK337 HB h0_ h1_ h2_ h3_ h4_ h5_ h6_ h7_ h8_ h9_ h10_
              have HO341 := n0_
              have BK336 := n1_
              have BK337 := n2_
              have BK345 := n3_
              have GW345 := n4_
              have GE345 := n5_
              have NB336_345 := n6_
              have NB345_336 := n7_
              have NB337_345 := n8_
              have NB345_337 := n9_
              have HB := n10_
              clear n0_ n1_ n2_ n3_ n4_ n5_ n6_ n7_ n8_ n9_ n10_
              have hHeld : w26.cell? ⟨gb336, 0, none⟩ = some (.int .i64 a0_0) ∧ w26.cell? ⟨gb336, 1, none⟩ = some (.int .i64 a0_1) ∧ w26.cell? ⟨gb336, 2, none⟩ = some (.int .i64 a0_2) ∧ w26.cell? ⟨gb336, 3, none⟩ = some (.slice A0_3 l0_3.length c0_3) := hS_
              refine norm_ (a' := ?_) ?_ ?_
              rotate_left
              · simp only [putAll, Act.put, List.setIfInBounds_toArray, List.set_cons_zero, List.set_cons_succ]
                rfl
              refine one_ (i := 13) (N := none) #[true, true, true, true, true, true, true, true, true, true, true, true, true, true, false] rfl rfl (one_of HT_.out (by kernel_rfl)) (by decide) (fun K hK => ?_)
              have hs27 : w26.cell? ⟨gb345, 0, none⟩ = some (.int .i64 0) := (blk_cell BK345.out 0).trans rfl
              have hfs27 := blk_frozen BK345.out 0
              have hns27_0 := NB336_345.out
              have hns27_1 := NB337_345.out
              have hms27_0 := NB345_336.out
              have hms27_1 := NB345_337.out
              have hs28 : w26.cell? ⟨gb345, 1, none⟩ = some (.string (⟨#[]⟩ : ByteArray)) := (blk_cell BK345.out 1).trans rfl
              have hfs28 := blk_frozen BK345.out 1
              have hns28_0 := NB336_345.out
              have hns28_1 := NB337_345.out
              have hms28_0 := NB345_336.out
              have hms28_1 := NB345_337.out
              refine skip_ (w1 := ?_) (by rfl) rfl ?_ ?_
              rotate_left
              · go_simp
                rfl
              refine hK.out _ _ ⟨((cell_far (p := ⟨gb345, _, none⟩) NB336_345.out _).trans (((cell_far (p := ⟨gb345, _, none⟩) NB336_345.out _).trans (hHeld.1)))), ((cell_far (p := ⟨gb345, _, none⟩) NB336_345.out _).trans (((cell_far (p := ⟨gb345, _, none⟩) NB336_345.out _).trans (hHeld.2.1)))), ((cell_far (p := ⟨gb345, _, none⟩) NB336_345.out _).trans (((cell_far (p := ⟨gb345, _, none⟩) NB336_345.out _).trans (hHeld.2.2.1)))), ((cell_far (p := ⟨gb345, _, none⟩) NB336_345.out _).trans (((cell_far (p := ⟨gb345, _, none⟩) NB336_345.out _).trans (hHeld.2.2.2))))⟩ (fun hHeld => ?_)
              clear hK K
              refine pure_ (i := 14) (N := some 10) (v := ?_) (a' := ?_) #[true, true, true, true, true, true, true, true, true, true, true, true, true, true, true] rfl rfl (any_of HT_.out (by kernel_rfl)) (fun _ _ _ h => h) (Or.inl ⟨by rfl, ?_⟩) ?_ ?_
              rotate_left
              · intro w'
                go_simp
                with_reducible rfl
              rotate_left
              · simp only [Act.put, List.setIfInBounds_toArray, List.set_cons_zero, List.set_cons_succ, i64_w, i32_w]
                rfl
              refine done_ (done_of HT_.out (by kernel_rfl)) ?_
              have hnb29 := NB336_337.out
              have hnc29 := NB337_336.out
              have hnb30 := NB336_345.out
              have hnc30 := NB345_336.out
              have hcz31_0 : w26.cell? ⟨gb336, 0, none⟩ = some (.int .i64 a0_0) := (blk_cell BK336.out 0).trans rfl
              have hcz31_1 : w26.cell? ⟨gb336, 1, none⟩ = some (.int .i64 a0_1) := (blk_cell BK336.out 1).trans rfl
              have hcz31_2 : w26.cell? ⟨gb336, 2, none⟩ = some (.int .i64 a0_2) := (blk_cell BK336.out 2).trans rfl
              have hcz31_3 : w26.cell? ⟨gb336, 3, none⟩ = some (.slice A0_3 l0_3.length c0_3) := (blk_cell BK336.out 3).trans rfl
              have hfz31_0 := blk_frozen BK336.out 0
              have hfz31_1 := blk_frozen BK336.out 1
              have hfz31_2 := blk_frozen BK336.out 2
              have hfz31_3 := blk_frozen BK336.out 3
              have hnb32 := NB345_337.out
              have hnc32 := NB337_345.out
              have hcz33_0 : w26.cell? ⟨gb345, 0, none⟩ = some (.int .i64 0) := (blk_cell BK345.out 0).trans rfl
              have hcz33_1 : w26.cell? ⟨gb345, 1, none⟩ = some (.string (⟨#[]⟩ : ByteArray)) := (blk_cell BK345.out 1).trans rfl
              have hfz33_0 := blk_frozen BK345.out 0
              have hfz33_1 := blk_frozen BK345.out 1
              (go_wp2_with (((with_reducible refine gate_callee (f := 24) rfl ?_); refine goesL_ (some 45) rfl rfl Try.func24 (by kernel_rfl) rfl #[.agg #[.int .i64 a0_0, .int .i64 a0_1, .int .i64 a0_2, .slice A0_3 l0_3.length c0_3], .agg #[.int .i64 t342, .string t343]] rfl (by ((simp only [List.map_toArray, List.map_cons, List.map_nil])); (rfl)) ?_; (with_reducible refine (stripe_right.calls kj5 a0_0 a0_1 a0_2 _ _ l0_3 t342 t343 true _ ?side1 ?side2 A19.out).mono ?_); (case side1 => exact Kd.C_below HR0_3.out (by repeat ((with_reducible first | exact HB.out | refine below_set ?_ GE345.out)))); (case side2 => exact HC0_3.out); rintro e w34 ⟨rfl, hb⟩; refine ⟨_, rfl, ?_⟩; have n0_ := Aside0.mk (Kd.R_below (by exact (Kd.R_mono (Kd.R_far (p := ⟨gb345, 1, none⟩) (Kd.R_far (p := ⟨gb345, 0, none⟩) (Kd.R_mono HO341.out (fun k_ hk => (⟨hk, hk.2⟩ : _ ∧ k_ ≠ gb345))) (fun _ hk => hk.2) (.int .i64 t342)) (fun _ hk => hk.2) (.string t343)) (fun _ h_ => h_.1))) hb); have n1_ := Aside0.mk (blk_below (g := gb336) (o := .cells #[.int .i64 a0_0, .int .i64 a0_1, .int .i64 a0_2, .slice A0_3 l0_3.length c0_3] 34 (0, 0)) (by refine blk_far ?_ NB336_345.out _; refine blk_far ?_ NB336_345.out _; exact BK336.out) hb); have n2_ := Aside0.mk (blk_below (g := gb337) (o := .cells #[.int .i64 0, .string (⟨#[]⟩ : ByteArray)] 41 (0, 0)) (by refine blk_far ?_ NB337_345.out _; refine blk_far ?_ NB337_345.out _; exact BK337.out) hb); have n3_ := Aside0.mk (blk_below (g := gb345) (o := .cells #[.int .i64 t342, .string t343] 41 (0, 0)) (by refine blk_put (cs := #[.int .i64 t342, .string (⟨#[]⟩ : ByteArray)]) ?_ 1 _ rfl; refine blk_put (cs := #[.int .i64 0, .string (⟨#[]⟩ : ByteArray)]) ?_ 0 _ rfl; exact BK345.out) hb); have n4_ := Aside0.mk (below_step (by repeat ((with_reducible first | exact HB.out | refine below_set ?_ GE345.out))) hb); clear HO341 BK336 BK337 BK345 HB; have HO341 := n0_; have BK336 := n1_; have BK337 := n2_; have BK345 := n3_; have HB := n4_; clear n0_ n1_ n2_ n3_ n4_; clear hb; have hcz35_0 : w34.cell? ⟨gb345, 0, none⟩ = some (.int .i64 t342) := (blk_cell BK345.out 0).trans rfl; have hcz35_1 : w34.cell? ⟨gb345, 1, none⟩ = some (.string t343) := (blk_cell BK345.out 1).trans rfl; have hfz35_0 := blk_frozen BK345.out 0; have hfz35_1 := blk_frozen BK345.out 1; have hcz36_0 : w34.cell? ⟨gb337, 0, none⟩ = some (.int .i64 0) := (blk_cell BK337.out 0).trans rfl; have hcz36_1 : w34.cell? ⟨gb337, 1, none⟩ = some (.string (⟨#[]⟩ : ByteArray)) := (blk_cell BK337.out 1).trans rfl; have hfz36_0 := blk_frozen BK337.out 0; have hfz36_1 := blk_frozen BK337.out 1)))
              refine bodyPost_ret (results_ct rfl _ _ gb337 41 #[.int .i64 t342, .string t343] (0, 0) _ rfl (by refine blk_put (cs := #[.int .i64 t342, .string (⟨#[]⟩ : ByteArray)]) ?_ 1 _ rfl; refine blk_put (cs := #[.int .i64 0, .string (⟨#[]⟩ : ByteArray)]) ?_ 0 _ rfl; exact BK337.out) Try.underlying41 rfl (by kernel_rfl)) rfl ?_
              exact ⟨by (rfl), by repeat ((with_reducible first | exact HB.out | refine below_set ?_ GE337.out))⟩
            · replace c20 := Bool.eq_false_iff.mpr c20
              subst c20
              have H1 : (none) = some (r1, r2, r3) := by rw [if_neg (show ¬ (false = true) by decide)] at H; exact H
              clear H
              have H := H1
              clear H1
              exact absurd H (by simp)
          · rw [if_neg c18] at H
            have c18b0 : (t344 == 0) = false := beq_eq_false_iff_ne.mpr c18
            have c18b1 : (t344 != 0) = true := bne_iff_ne.mpr c18
            exact absurd H (by simp)
  · rw [if_neg c5] at H
    have c5b0 : (t338 == 0) = false := beq_eq_false_iff_ne.mpr c5
    have c5b1 : (t338 != 0) = true := bne_iff_ne.mpr c5
    exact absurd H (by simp)

end Go.Proofs.Ythfddndmhjkeiaa.L
end
section
-- Printed for this claim by a small program of the session's own, drv.py, round the kit's print.py. Lean checks it.
namespace Go.Proofs.Ythfddndmhjkeiaa.L
open Go.RowKit Go.Proofs.YthfddndmhjkeiaaW.PrintWords Go.Proofs.YthfddndmhjkeiaaW.PrintLast Go.Proofs.YthfddndmhjkeiaaW.PrintMore
attribute [local go_sem] max2_int min2_int max_two min_two max_three min_three max_four min_four   -- for this text's walks alone
set_option linter.unusedVariables false
set_option linter.unusedSimpArgs false

/-! ### seal_key_valid: function 33 -/
def seal_key_valid.f (a0 : Int) : Option (Bool) := if a0 ≥ 0 then (some (decide (a0 < 4294967294))) else (some false)
set_option maxHeartbeats 8000000 in
set_option maxRecDepth 100000 in
theorem seal_key_valid.calls (a0 : Int) (r : Bool) (w : World) (h : seal_key_valid.f a0 = some r) :
    Calls Try.prog 33 #[.int .i64 a0] w fun e w' => e = .returned (.bool r) ∧ Drawn0 w w' := by
  have H : (if a0 ≥ 0 then (some (decide (a0 < 4294967294))) else (some false)) = some r := h
  clear h
  by_cases c2 : a0 ≥ 0
  · rw [if_pos c2] at H
    have c2b0 : decide (0 ≤ a0) = true := decide_eq_true c2
    clear c2
    obtain rfl := Option.some.inj H
    go_enter Try.func33, Try.ntmps33
    go_wp2
    go_ret
    exact ⟨by (rfl), by repeat ((exact Drawn0.refl _))⟩
  · rw [if_neg c2] at H
    have c2b0 : decide (0 ≤ a0) = false := decide_eq_false c2
    clear c2
    obtain rfl := Option.some.inj H
    go_enter Try.func33, Try.ntmps33
    go_wp2
    go_ret
    exact ⟨by (rfl), by repeat ((exact Drawn0.refl _))⟩

end Go.Proofs.Ythfddndmhjkeiaa.L
end
section
-- Printed for this claim by a small program of the session's own, drv.py, round the kit's print.py. Lean checks it.
namespace Go.Proofs.Ythfddndmhjkeiaa.L
open Go.RowKit Go.Proofs.YthfddndmhjkeiaaW.PrintWords Go.Proofs.YthfddndmhjkeiaaW.PrintLast Go.Proofs.YthfddndmhjkeiaaW.PrintMore
attribute [local go_sem] max2_int min2_int max_two min_two max_three min_three max_four min_four   -- for this text's walks alone
set_option linter.unusedVariables false
set_option linter.unusedSimpArgs false

/-! ### seal_key_lock: function 34 -/
def seal_key_lock.f (a0 : Int) : Option (Int) := some (wrap64 ((wrap64 (3 * a0)) + 1))
set_option maxHeartbeats 8000000 in
set_option maxRecDepth 100000 in
theorem seal_key_lock.calls (a0 : Int) (r : Int) (w : World) (h : seal_key_lock.f a0 = some r) :
    Calls Try.prog 34 #[.int .i64 a0] w fun e w' => e = .returned (.int .i64 r) ∧ Drawn0 w w' := by
  have H : (some (wrap64 ((wrap64 (3 * a0)) + 1))) = some r := h
  clear h
  obtain rfl := Option.some.inj H
  go_enter Try.func34, Try.ntmps34
  go_wp2
  go_ret
  exact ⟨by (rfl), by repeat ((exact Drawn0.refl _))⟩

end Go.Proofs.Ythfddndmhjkeiaa.L
end
section
-- Printed for this claim by a small program of the session's own, drv.py, round the kit's print.py. Lean checks it.
namespace Go.Proofs.Ythfddndmhjkeiaa.L
open Go.RowKit Go.Proofs.YthfddndmhjkeiaaW.PrintWords Go.Proofs.YthfddndmhjkeiaaW.PrintLast Go.Proofs.YthfddndmhjkeiaaW.PrintMore
attribute [local go_sem] max2_int min2_int max_two min_two max_three min_three max_four min_four   -- for this text's walks alone
set_option linter.unusedVariables false
set_option linter.unusedSimpArgs false

/-! ### seal_Seal: function 20 -/
def seal_Seal.f (a0 : ByteArray) (a1 : Int) : Option (Int × ByteArray × Int) := (seal_key_valid.f a1).bind fun t114 => (if t114 = true then (if (a0.size : Int) > 16384 then (none) else ((seal_key_lock.f a1).bind fun t115 => (some (t115, a0, 0)))) else (none))
set_option maxHeartbeats 8000000 in
set_option maxRecDepth 100000 in
theorem seal_Seal.calls (a0 : ByteArray) (a1 : Int) (r1 : Int) (r2 : ByteArray) (r3 : Int) (w : World) (h : seal_Seal.f a0 a1 = some (r1, r2, r3)) :
    Calls Try.prog 20 #[.string a0, .int .i64 a1] w fun e w' => e = .returned (.tuple #[.agg #[.int .i64 r1, .string r2], .int .i64 r3]) ∧ Below w.heap.size w w' := by
  have hu55 := Try.underlying55
  have HB := Aside0.mk (Below.refl w.heap.size w)
  have H : ((seal_key_valid.f a1).bind fun t114 => (if t114 = true then (if (a0.size : Int) > 16384 then (none) else ((seal_key_lock.f a1).bind fun t115 => (some (t115, a0, 0)))) else (none))) = some (r1, r2, r3) := h
  clear h
  replace H := Option.bind_eq_some_iff.mp H
  obtain ⟨t114, A30, H⟩ := H
  replace H : (if t114 = true then (if (a0.size : Int) > 16384 then (none) else ((seal_key_lock.f a1).bind fun t115 => (some (t115, a0, 0)))) else (none)) = some (r1, r2, r3) := H
  have A3 := Aside0.mk A30
  clear A30
  by_cases c4 : t114 = true
  · subst c4
    have H1 : (if (a0.size : Int) > 16384 then (none) else ((seal_key_lock.f a1).bind fun t115 => (some (t115, a0, 0)))) = some (r1, r2, r3) := by rw [if_pos rfl] at H; exact H
    clear H
    have H := H1
    clear H1
    by_cases c5 : (a0.size : Int) > 16384
    · rw [if_pos c5] at H
      have c5b0 : decide (16384 < (a0.size : Int)) = true := decide_eq_true c5
      have c5b1 : decide (16384 < a0.size) = true := decide_eq_true (by omega)
      clear c5
      exact absurd H (by simp)
    · rw [if_neg c5] at H
      have c5b0 : decide (16384 < (a0.size : Int)) = false := decide_eq_false c5
      have c5b1 : decide (16384 < a0.size) = false := decide_eq_false (by omega)
      clear c5
      replace H := Option.bind_eq_some_iff.mp H
      obtain ⟨t115, A60, H⟩ := H
      replace H : (some (t115, a0, 0)) = some (r1, r2, r3) := H
      have A6 := Aside0.mk A60
      clear A60
      simp only [Option.some.injEq, Prod.mk.injEq] at H
      obtain ⟨rfl, rfl, rfl⟩ := H
      go_enter Try.func20, Try.ntmps20
      go_wp2_with (first | ((with_reducible refine gate_dst (N := 4) rfl ?_); refine box_event ?hg (N := 4) ?hd (cs := #[.int .i64 0, .string (⟨#[]⟩ : ByteArray)]) (t := 55) ?hr ?_; (case hd => rfl); (case hg => rfl); (case hr => (go_simp; done)); intro gb113 hg w7 hbox hb; have n0_ := Aside0.mk (below_step HB.out hb); have n1_ := Aside0.mk (hbox); have n2_ := Aside0.mk ((by rw [hg]; exact (below_size HB.out) : w.heap.size ≤ gb113)); have n3_ := Aside0.mk ((by rw [hg]; exact (below_size HB.out) : w.heap.size ≤ gb113)); clear HB; have HB := n0_; have BK113 := n1_; have GW113 := n2_; have GE113 := n3_; clear n0_ n1_ n2_ n3_; clear hb hbox hg) | ((with_reducible refine gate_callee (f := 33) rfl ?_); refine goesL_ (some 7) rfl rfl Try.func33 (by kernel_rfl) rfl #[.int .i64 a1] rfl (by ((simp only [List.map_toArray, List.map_cons, List.map_nil])); (rfl)) ?_; (with_reducible refine (seal_key_valid.calls a1 true _ A3.out).mono ?_); rintro e w' ⟨rfl, ⟨nd, rfl⟩⟩; refine ⟨_, rfl, ?_⟩; ((rw [drewN_self w7]; generalize hq_ : World.drewN w7 _ = w7; have n0_ : Aside0 (w7.heap[gb113]? = some (.cells #[.int .i64 0, .string (⟨#[]⟩ : ByteArray)] 55 (0, 0))) := ⟨by rw [← hq_]; exact (by (with_reducible repeat ((refine blk_drewN ?_ _))); exact BK113.out)⟩; have n1_ : Aside0 (Below w.heap.size w w7) := ⟨by rw [← hq_]; exact (by repeat ((with_reducible first | exact HB.out | apply pw_below_drewN)))⟩; clear BK113 HB hq_; have BK113 := n0_; have HB := n1_; clear n0_ n1_))) | ((with_reducible refine gate_callee (f := 34) rfl ?_); refine goesL_ (some 15) rfl rfl Try.func34 (by kernel_rfl) rfl #[.int .i64 a1] rfl (by ((simp only [List.map_toArray, List.map_cons, List.map_nil])); (rfl)) ?_; (with_reducible refine (seal_key_lock.calls a1 t115 _ A6.out).mono ?_); rintro e w' ⟨rfl, ⟨nd, rfl⟩⟩; refine ⟨_, rfl, ?_⟩; ((rw [drewN_self w7]; generalize hq_ : World.drewN w7 _ = w7; have n0_ : Aside0 (w7.heap[gb113]? = some (.cells #[.int .i64 0, .string (⟨#[]⟩ : ByteArray)] 55 (0, 0))) := ⟨by rw [← hq_]; exact (by (with_reducible repeat ((refine blk_drewN ?_ _))); exact BK113.out)⟩; have n1_ : Aside0 (Below w.heap.size w w7) := ⟨by rw [← hq_]; exact (by repeat ((with_reducible first | exact HB.out | apply pw_below_drewN)))⟩; clear BK113 HB hq_; have BK113 := n0_; have HB := n1_; clear n0_ n1_)); have hcz8_0 : w7.cell? ⟨gb113, 0, none⟩ = some (.int .i64 0) := (blk_cell BK113.out 0).trans rfl; have hcz8_1 : w7.cell? ⟨gb113, 1, none⟩ = some (.string (⟨#[]⟩ : ByteArray)) := (blk_cell BK113.out 1).trans rfl; have hfz8_0 := blk_frozen BK113.out 0; have hfz8_1 := blk_frozen BK113.out 1))
      refine bodyPost_ret (results_ct rfl _ _ gb113 55 #[.int .i64 t115, .string a0] (0, 0) _ rfl (by refine blk_put (cs := #[.int .i64 t115, .string (⟨#[]⟩ : ByteArray)]) ?_ 1 _ rfl; refine blk_put (cs := #[.int .i64 0, .string (⟨#[]⟩ : ByteArray)]) ?_ 0 _ rfl; exact BK113.out) Try.underlying55 rfl (by kernel_rfl)) rfl ?_
      exact ⟨by (rfl), by repeat ((with_reducible first | exact HB.out | refine below_set ?_ GE113.out))⟩
  · replace c4 := Bool.eq_false_iff.mpr c4
    subst c4
    have H1 : (none) = some (r1, r2, r3) := by rw [if_neg (show ¬ (false = true) by decide)] at H; exact H
    clear H
    have H := H1
    clear H1
    exact absurd H (by simp)

end Go.Proofs.Ythfddndmhjkeiaa.L
end
section
-- Printed for this claim by a small program of the session's own, drv.py, round the kit's print.py. Lean checks it.
namespace Go.Proofs.Ythfddndmhjkeiaa.L
open Go.RowKit Go.Proofs.YthfddndmhjkeiaaW.PrintWords Go.Proofs.YthfddndmhjkeiaaW.PrintLast Go.Proofs.YthfddndmhjkeiaaW.PrintMore
attribute [local go_sem] max2_int min2_int max_two min_two max_three min_three max_four min_four   -- for this text's walks alone
set_option linter.unusedVariables false
set_option linter.unusedSimpArgs false

/-! ### seal_keyOf: function 52 -/
def seal_keyOf.f (a0 : Int) : Option (Int × Bool) := if a0 > 0 then (if (Int.tmod a0 3) = 1 then ((seal_key_valid.f (wrap64 (Int.tdiv a0 3))).bind fun t116 => (some (wrap64 (Int.tdiv a0 3), t116))) else (some (wrap64 (Int.tdiv a0 3), false))) else (some (wrap64 (Int.tdiv a0 3), false))
set_option maxHeartbeats 8000000 in
set_option maxRecDepth 100000 in
theorem seal_keyOf.calls (a0 : Int) (r1 : Int) (r2 : Bool) (w : World) (h : seal_keyOf.f a0 = some (r1, r2)) :
    Calls Try.prog 52 #[.int .i64 a0] w fun e w' => e = .returned (.tuple #[.int .i64 r1, .bool r2]) ∧ Drawn0 w w' := by
  have H : (if a0 > 0 then (if (Int.tmod a0 3) = 1 then ((seal_key_valid.f (wrap64 (Int.tdiv a0 3))).bind fun t116 => (some (wrap64 (Int.tdiv a0 3), t116))) else (some (wrap64 (Int.tdiv a0 3), false))) else (some (wrap64 (Int.tdiv a0 3), false))) = some (r1, r2) := h
  clear h
  by_cases c2 : a0 > 0
  · rw [if_pos c2] at H
    have c2b0 : decide (0 < a0) = true := decide_eq_true c2
    clear c2
    by_cases c3 : (Int.tmod a0 3) = 1
    · rw [if_pos c3] at H
      have c3b0 : ((Int.tmod a0 3) == 1) = true := beq_iff_eq.mpr c3
      have c3b1 : ((Int.tmod a0 3) != 1) = false := bne_eq_false_iff_eq.mpr c3
      clear c3
      replace H := Option.bind_eq_some_iff.mp H
      obtain ⟨t116, A40, H⟩ := H
      replace H : (some (wrap64 (Int.tdiv a0 3), t116)) = some (r1, r2) := H
      have A4 := Aside0.mk A40
      clear A40
      simp only [Option.some.injEq, Prod.mk.injEq] at H
      obtain ⟨rfl, rfl⟩ := H
      go_enter Try.func52, Try.ntmps52
      go_wp2_with ((go_at_call 33; (with_reducible refine (seal_key_valid.calls (wrap64 (Int.tdiv a0 3)) t116 _ A4.out).mono ?_); rintro e w' ⟨rfl, ⟨nd, rfl⟩⟩))
      go_ret2
      exact ⟨by (rfl), by repeat (first | exact Drawn0.refl _ | apply Drawn0.step)⟩
    · rw [if_neg c3] at H
      have c3b0 : ((Int.tmod a0 3) == 1) = false := beq_eq_false_iff_ne.mpr c3
      have c3b1 : ((Int.tmod a0 3) != 1) = true := bne_iff_ne.mpr c3
      simp only [Option.some.injEq, Prod.mk.injEq] at H
      obtain ⟨rfl, rfl⟩ := H
      go_enter Try.func52, Try.ntmps52
      go_wp2
      go_ret2
      exact ⟨by (rfl), by repeat ((exact Drawn0.refl _))⟩
  · rw [if_neg c2] at H
    have c2b0 : decide (0 < a0) = false := decide_eq_false c2
    clear c2
    simp only [Option.some.injEq, Prod.mk.injEq] at H
    obtain ⟨rfl, rfl⟩ := H
    go_enter Try.func52, Try.ntmps52
    go_wp2
    go_ret2
    exact ⟨by (rfl), by repeat ((exact Drawn0.refl _))⟩

end Go.Proofs.Ythfddndmhjkeiaa.L
end
section
-- Printed for this claim by a small program of the session's own, drv.py, round the kit's print.py. Lean checks it.
namespace Go.Proofs.Ythfddndmhjkeiaa.L
open Go.RowKit Go.Proofs.YthfddndmhjkeiaaW.PrintWords Go.Proofs.YthfddndmhjkeiaaW.PrintLast Go.Proofs.YthfddndmhjkeiaaW.PrintMore
attribute [local go_sem] max2_int min2_int max_two min_two max_three min_three max_four min_four   -- for this text's walks alone
set_option linter.unusedVariables false
set_option linter.unusedSimpArgs false

/-! ### seal_valid: function 35 -/
def seal_valid.f (a0_0 : Int) (a0_1 : ByteArray) : Option (Bool) := (seal_keyOf.f a0_0).bind fun bt118 => (if bt118.2 = true then (some (decide ((a0_1.size : Int) ≤ 16384))) else (some false))
set_option maxHeartbeats 8000000 in
set_option maxRecDepth 100000 in
theorem seal_valid.calls (a0_0 : Int) (a0_1 : ByteArray) (r : Bool) (w : World) (h : seal_valid.f a0_0 a0_1 = some r) :
    Calls Try.prog 35 #[.agg #[.int .i64 a0_0, .string a0_1]] w fun e w' => e = .returned (.bool r) ∧ Below w.heap.size w w' := by
  have hu55 := Try.underlying55
  have HB := Aside0.mk (Below.refl w.heap.size w)
  have H : ((seal_keyOf.f a0_0).bind fun bt118 => (if bt118.2 = true then (some (decide ((a0_1.size : Int) ≤ 16384))) else (some false))) = some r := h
  clear h
  replace H := Option.bind_eq_some_iff.mp H
  obtain ⟨⟨t118, t119⟩, A20, H⟩ := H
  replace H : (if t119 = true then (some (decide ((a0_1.size : Int) ≤ 16384))) else (some false)) = some r := H
  have A2 := Aside0.mk A20
  clear A20
  by_cases c3 : t119 = true
  · subst c3
    have H1 : (some (decide ((a0_1.size : Int) ≤ 16384))) = some r := by rw [if_pos rfl] at H; exact H
    clear H
    have H := H1
    clear H1
    obtain rfl := Option.some.inj H
    go_enter Try.func35, Try.ntmps35
    go_wp2_with (first | ((with_reducible refine gate_dst (N := 1) rfl ?_); ((refine gate_guard (by rfl) ?_; dsimp only)); refine box_event ?hg (N := 1) ?hd (cs := #[.int .i64 a0_0, .string a0_1]) (t := 55) ?hr ?_; (case hd => rfl); (case hg => rfl); (case hr => (go_simp; done)); intro gb117 hg w4 hbox hb; have n0_ := Aside0.mk (below_step HB.out hb); have n1_ := Aside0.mk (hbox); have n2_ := Aside0.mk ((by rw [hg]; exact (below_size HB.out) : w.heap.size ≤ gb117)); have n3_ := Aside0.mk ((by rw [hg]; exact (below_size HB.out) : w.heap.size ≤ gb117)); clear HB; have HB := n0_; have BK117 := n1_; have GW117 := n2_; have GE117 := n3_; clear n0_ n1_ n2_ n3_; clear hb hbox hg; have hcz5_0 : w4.cell? ⟨gb117, 0, none⟩ = some (.int .i64 a0_0) := (blk_cell BK117.out 0).trans rfl; have hcz5_1 : w4.cell? ⟨gb117, 1, none⟩ = some (.string a0_1) := (blk_cell BK117.out 1).trans rfl; have hfz5_0 := blk_frozen BK117.out 0; have hfz5_1 := blk_frozen BK117.out 1) | ((with_reducible refine gate_callee (f := 52) rfl ?_); refine goesL_ (some 8) rfl rfl Try.func52 (by kernel_rfl) rfl #[.int .i64 a0_0] rfl (by ((simp only [List.map_toArray, List.map_cons, List.map_nil])); (rfl)) ?_; (with_reducible refine (seal_keyOf.calls a0_0 t118 true _ A2.out).mono ?_); rintro e w' ⟨rfl, ⟨nd, rfl⟩⟩; refine ⟨_, rfl, ?_⟩))
    go_ret
    exact ⟨by (rfl), by repeat ((with_reducible first | exact HB.out | apply pw_below_drewN))⟩
  · replace c3 := Bool.eq_false_iff.mpr c3
    subst c3
    have H1 : (some false) = some r := by rw [if_neg (show ¬ (false = true) by decide)] at H; exact H
    clear H
    have H := H1
    clear H1
    obtain rfl := Option.some.inj H
    go_enter Try.func35, Try.ntmps35
    go_wp2_with (first | ((with_reducible refine gate_dst (N := 1) rfl ?_); ((refine gate_guard (by rfl) ?_; dsimp only)); refine box_event ?hg (N := 1) ?hd (cs := #[.int .i64 a0_0, .string a0_1]) (t := 55) ?hr ?_; (case hd => rfl); (case hg => rfl); (case hr => (go_simp; done)); intro gb117 hg w6 hbox hb; have n0_ := Aside0.mk (below_step HB.out hb); have n1_ := Aside0.mk (hbox); have n2_ := Aside0.mk ((by rw [hg]; exact (below_size HB.out) : w.heap.size ≤ gb117)); have n3_ := Aside0.mk ((by rw [hg]; exact (below_size HB.out) : w.heap.size ≤ gb117)); clear HB; have HB := n0_; have BK117 := n1_; have GW117 := n2_; have GE117 := n3_; clear n0_ n1_ n2_ n3_; clear hb hbox hg; have hcz7_0 : w6.cell? ⟨gb117, 0, none⟩ = some (.int .i64 a0_0) := (blk_cell BK117.out 0).trans rfl; have hcz7_1 : w6.cell? ⟨gb117, 1, none⟩ = some (.string a0_1) := (blk_cell BK117.out 1).trans rfl; have hfz7_0 := blk_frozen BK117.out 0; have hfz7_1 := blk_frozen BK117.out 1) | ((with_reducible refine gate_callee (f := 52) rfl ?_); refine goesL_ (some 8) rfl rfl Try.func52 (by kernel_rfl) rfl #[.int .i64 a0_0] rfl (by ((simp only [List.map_toArray, List.map_cons, List.map_nil])); (rfl)) ?_; (with_reducible refine (seal_keyOf.calls a0_0 t118 false _ A2.out).mono ?_); rintro e w' ⟨rfl, ⟨nd, rfl⟩⟩; refine ⟨_, rfl, ?_⟩))
    go_ret
    exact ⟨by (rfl), by repeat ((with_reducible first | exact HB.out | apply pw_below_drewN))⟩

end Go.Proofs.Ythfddndmhjkeiaa.L
end
section
/- A row of bytes that a conversion of a string has made: read, stored into, made a string again. -/
namespace Go.Proofs.Ythfddndmhjkeiaa.L
open Go.RowKit Go.Proofs.YthfddndmhjkeiaaW.PrintWords Go.Proofs.YthfddndmhjkeiaaW.PrintLast Go.Proofs.YthfddndmhjkeiaaW.PrintMore
set_option linter.unusedVariables false
set_option linter.unusedSimpArgs false
/-- The bytes xs lie ahead in block g, which a conversion made. -/
def BRow (w : World) (g c : Nat) (xs : List Int) : Prop := ∃ cur : Array Value, w.heap[g]? = some (.cells cur 5 (c, c + 1)) ∧ cur.size = c ∧ xs.length ≤ c ∧ xs.length ≤ 1000000 ∧ ∀ j, j < xs.length → cur[j]? = some (.int .u8 (xs.getD j 0))
theorem conv_bytes (W : World) (s : ByteArray) (hs : s.size ≤ 1000000) : ∃ c w', (convert 9 49 (.string s)).run Try.prog W = .ok (.slice (some ⟨W.heap.size, 0, none⟩) s.size c) w' ∧ BRow w' W.heap.size c (bytesOf s) ∧ Below W.heap.size W w' ∧ s.size ≤ c := by
  have hge := grownCap_ge W s.size 0 5
  have hsz : (Lib.bytesCells W 5 s).size = grownCap W s.size 0 5 := by
    unfold Lib.bytesCells
    rw [Array.size_append, Array.size_map, Array.size_replicate]
    show s.size + _ = _
    omega
  refine ⟨_, _, print_bytes (P := Try.prog) 9 49 5 Try.underlying9 Try.underlying49 Try.underlying5 s W, ⟨Lib.bytesCells W 5 s, ?_, hsz, ?_, ?_, fun j hj => ?_⟩, bytes_below (Below.refl _ _) (Nat.le_refl _) 5 s, hge⟩
  · have h := Lib.bytesWorld_at_new W 5 s
    rw [hsz] at h
    exact h
  · rw [bytesOf_length]; exact hge
  · rw [bytesOf_length]; exact hs
  · rw [bytesOf_length] at hj
    have h' : j < s.data.toList.length := by rw [data_length]; exact hj
    have h := Lib.bytesWorld_cell W 5 s j hj
    rw [cell_of_row _ _ j _ 5 _ (Lib.bytesWorld_at_new W 5 s)] at h
    rw [h]
    simp [bytesOf, List.getD_eq_getElem?_getD, List.getElem?_eq_getElem h']
theorem BRow.lt {w : World} {g c : Nat} {xs : List Int} (h : BRow w g c xs) : g < w.heap.size := by
  obtain ⟨cur, h1, _⟩ := h
  exact (Array.getElem?_eq_some_iff.1 h1).1
theorem BRow.cell {w : World} {g c : Nat} {xs : List Int} (h : BRow w g c xs) {j : Nat} (hj : j < xs.length) : w.cell? ⟨g, j, none⟩ = some (.int .u8 (xs.getD j 0)) := by
  obtain ⟨cur, h1, h2, h3, h4, h5⟩ := h
  rw [cell_of_row w g j cur 5 _ h1]
  exact h5 j hj
theorem BRow.frozen {w : World} {g c : Nat} {xs : List Int} (h : BRow w g c xs) {j : Nat} (hj : j < xs.length) : w.frozen? ⟨g, j, none⟩ = false := by
  obtain ⟨cur, h1, h2, h3, h4, h5⟩ := h
  simp only [World.frozen?, h1, Bool.and_eq_false_iff, decide_eq_false_iff_not]
  left
  omega
theorem BRow.set {w : World} {g c : Nat} {xs : List Int} (h : BRow w g c xs) (j : Nat) (v : Int) : BRow (w.setCell ⟨g, j, none⟩ (.int .u8 v)) g c (xs.set j v) := by
  obtain ⟨cur, h1, h2, h3, h4, h5⟩ := h
  refine ⟨cur.setIfInBounds j (.int .u8 v), by simp [World.setCell, Array.getElem?_modify, h1], by rw [Array.size_setIfInBounds, h2], by rw [List.length_set]; exact h3, by rw [List.length_set]; exact h4, fun t ht => ?_⟩
  rw [List.length_set] at ht
  by_cases e : j = t
  · subst e
    rw [Array.getElem?_setIfInBounds_self_of_lt (by omega), List.getD_eq_getElem?_getD, List.getElem?_set_self ht]
    rfl
  · rw [Array.getElem?_setIfInBounds_ne e, List.getD_eq_getElem?_getD, List.getElem?_set_ne e, ← List.getD_eq_getElem?_getD]
    exact h5 t ht
theorem BRow.block {w w' : World} {g c : Nat} {xs : List Int} (h : BRow w g c xs) (he : w'.heap[g]? = w.heap[g]?) : BRow w' g c xs := by
  obtain ⟨cur, h1, h2⟩ := h
  exact ⟨cur, he.trans h1, h2⟩
theorem BRow.below {w w' : World} {g c : Nat} {xs : List Int} (h : BRow w g c xs) (hb : Below w.heap.size w w') : BRow w' g c xs := h.block (hb.block g h.lt)
theorem BRow.alloc {w : World} {g c : Nat} {xs : List Int} (h : BRow w g c xs) (o : Obj) : BRow (w.alloc o) g c xs := h.below (below_alloc (Below.refl _ _) o)
theorem BRow.reads {w : World} {g c : Nat} {xs : List Int} (h : BRow w g c xs) : ReadsInt w .u8 (some ⟨g, 0, none⟩) xs.length xs :=
  ⟨rfl, by obtain ⟨_, _, _, _, h4, _⟩ := h; omega, fun _ => ⟨_, rfl, fun j hj => by rw [add_plain]; exact h.cell hj⟩⟩
theorem BRow.string {w : World} {g c : Nat} {xs : List Int} (h : BRow w g c xs) : (convert 49 9 (.slice (some ⟨g, 0, none⟩) xs.length c)).run Try.prog w = .ok (.string (strOfNums xs)) w :=
  string_of_reads Try.underlying49 Try.underlying5 Try.underlying9 h.reads
end Go.Proofs.Ythfddndmhjkeiaa.L
end
section
/- Rows of bytes that a conversion or an append has made: one byte appended. -/
namespace Go.Proofs.Ythfddndmhjkeiaa.L
open Go.RowKit Go.Proofs.YthfddndmhjkeiaaW.PrintWords Go.Proofs.YthfddndmhjkeiaaW.PrintLast Go.Proofs.YthfddndmhjkeiaaW.PrintMore
set_option linter.unusedVariables false
set_option linter.unusedSimpArgs false
/-- The bytes xs lie ahead in block g; its mark is none, or that of a conversion. -/
def BRowM (w : World) (g c : Nat) (xs : List Int) : Prop := ∃ (cur : Array Value) (m : Nat × Nat), w.heap[g]? = some (.cells cur 5 m) ∧ (m = (0, 0) ∨ m = (c, c + 1)) ∧ cur.size = c ∧ xs.length ≤ c ∧ ∀ j, j < xs.length → cur[j]? = some (.int .u8 (xs.getD j 0))
theorem BRow.toM {w : World} {g c : Nat} {xs : List Int} (h : BRow w g c xs) : BRowM w g c xs := by
  obtain ⟨cur, h1, h2, h3, h4, h5⟩ := h
  exact ⟨cur, _, h1, .inr rfl, h2, h3, h5⟩
theorem BRowM.lt {w : World} {g c : Nat} {xs : List Int} (h : BRowM w g c xs) : g < w.heap.size := by
  obtain ⟨cur, m, h1, _⟩ := h
  exact (Array.getElem?_eq_some_iff.1 h1).1
theorem BRowM.block {w w' : World} {g c : Nat} {xs : List Int} (h : BRowM w g c xs) (he : w'.heap[g]? = w.heap[g]?) : BRowM w' g c xs := by
  obtain ⟨cur, m, h1, h2⟩ := h
  exact ⟨cur, m, he.trans h1, h2⟩
theorem BRowM.cell {w : World} {g c : Nat} {xs : List Int} (h : BRowM w g c xs) {j : Nat} (hj : j < xs.length) : w.cell? ⟨g, j, none⟩ = some (.int .u8 (xs.getD j 0)) := by
  obtain ⟨cur, m, h1, h2, h3, h4, h5⟩ := h
  rw [cell_of_row w g j cur 5 _ h1]
  exact h5 j hj
theorem BRowM.reads {w : World} {g c : Nat} {xs : List Int} (h : BRowM w g c xs) (hl : xs.length ≤ 9223372036854775807) : ReadsInt w .u8 (some ⟨g, 0, none⟩) xs.length xs :=
  ⟨rfl, hl, fun _ => ⟨_, rfl, fun j hj => by rw [add_plain]; exact h.cell hj⟩⟩
theorem BRowM.string {w : World} {g c : Nat} {xs : List Int} (h : BRowM w g c xs) (hl : xs.length ≤ 9223372036854775807) : (convert 49 9 (.slice (some ⟨g, 0, none⟩) xs.length c)).run Try.prog w = .ok (.string (strOfNums xs)) w :=
  string_of_reads Try.underlying49 Try.underlying5 Try.underlying9 (h.reads hl)
/-- One byte appended: in place, or in a new row. -/
theorem append1 {w : World} {g c : Nat} {xs : List Int} (h : BRowM w g c xs) (hl : xs.length ≤ 1000000) {a : Addr} {v : Int} (ha : w.cell? (a.add 0) = some (.int .u8 v)) :
    ∃ g' c' w', (Builtin.append_ #[49, 49] 49 #[.slice (some ⟨g, 0, none⟩) xs.length c, .slice (some a) 1 1]).run Try.prog w = .ok (.slice (some ⟨g', 0, none⟩) (xs ++ [v]).length c') w' ∧ BRowM w' g' c' (xs ++ [v]) ∧ w.grownBy w' (some g) ∧ (g' = g ∨ w.heap.size ≤ g') := by
  obtain ⟨i0, hi, hzz⟩ := Option.map_eq_some_iff.1 info5
  simp only [Prod.mk.injEq] at hzz
  obtain ⟨hz0, hz1, hz2⟩ := hzz
  have hnews : ∀ j u, [Value.int .u8 v][j]? = some u → w.cell? (a.add j) = some u := by
    intro j u hj
    match j, hj with
    | 0, hj =>
      simp only [List.getElem?_cons_zero, Option.some.injEq] at hj
      subst hj
      exact ha
    | j + 1, hj => simp at hj
  obtain ⟨cur, m, h1, h2, h3, h4, h5⟩ := h
  have hlen : (xs ++ [v]).length = xs.length + 1 := by simp
  by_cases hroom : xs.length < c
  · have hcell : w.cell? ⟨g, xs.length, none⟩ = some cur[xs.length] := by simp [World.cell?, h1, h3, hroom]
    have hfro : w.frozen? ⟨g, xs.length, none⟩ = false := by
      rcases h2 with rfl | rfl
      · simp [World.frozen?, h1]
      · simp only [World.frozen?, h1, Bool.and_eq_false_iff, decide_eq_false_iff_not]
        left
        omega
    have hst : (store ((⟨g, 0, none⟩ : Addr).add xs.length) (.int .u8 v)).run Try.prog w = .ok () (w.setCell ⟨g, xs.length, none⟩ (.int .u8 v)) := by
      rw [add_plain, run_store Try.prog w _ _ _ rfl, hcell]
      simp [hfro]
    have hf := run_firstCells_some (P := Try.prog) w i0.size 1 a 1 1 [.int .u8 v] (by rw [hz1]; rfl) hnews
    refine ⟨g, c, w.setCell ⟨g, xs.length, none⟩ (.int .u8 v), ?_, ?_, ?_, .inl rfl⟩
    · rw [hlen]
      have hr1 : xs.length + 1 ≤ c := by omega
      rw [hz1] at hf
      simp only [storeCells, Sem.run_bind, add_plain] at hst
      have h00 : (⟨g, xs.length, none⟩ : Addr).add 0 = ⟨g, xs.length, none⟩ := by unfold Addr.add; split <;> simp_all
      simp [Builtin.append_, run_underlying Try.underlying49, sizeOf, typeInfo, hi, hz1, Builtin.lenOf, hr1, hf, storeCells, Sem.run_bind, add_plain, Result.andThen]
      rw [h00, hst]
    · refine ⟨cur.setIfInBounds xs.length (.int .u8 v), m, by simp [World.setCell, Array.getElem?_modify, h1], h2, by rw [Array.size_setIfInBounds, h3], by omega, fun j hj => ?_⟩
      rw [hlen] at hj
      by_cases e : xs.length = j
      · subst e
        rw [Array.getElem?_setIfInBounds_self_of_lt (by omega), List.getD_eq_getElem?_getD, List.getElem?_append_right (Nat.le_refl _)]
        simp
      · rw [Array.getElem?_setIfInBounds_ne e, h5 j (by omega), List.getD_eq_getElem?_getD, List.getD_eq_getElem?_getD, List.getElem?_append_left (by omega)]
    · exact ⟨rfl, rfl, rfl, by simp [World.setCell], fun k hk hne => by
        refine Below.heap_setCell w ⟨g, xs.length, none⟩ _ k ?_
        intro e
        exact hne (by rw [e])⟩
  · have holds : ∀ j u, (xs.map (Value.int .u8))[j]? = some u → w.cell? ((⟨g, 0, none⟩ : Addr).add j) = some u := by
      intro j u hj
      have hjl := (List.getElem?_eq_some_iff.1 hj).1
      rw [List.length_map] at hjl
      rw [add_plain, cell_of_row w g j cur 5 _ h1, h5 j hjl, ← hj, List.getElem?_map, List.getD_eq_getElem?_getD, List.getElem?_eq_getElem hjl]
      rfl
    have hr := run_append_grow (P := Try.prog) w 49 49 5 i0 (.int .u8 0) Try.underlying49 hi hz0 ⟨g, 0, none⟩ xs.length c (xs.map (Value.int .u8)) (by rw [List.length_map, hz1]; omega) holds a 1 1 [.int .u8 v] (by rw [hz1]; rfl) hnews (by omega) (by omega) (growslice_fits (by omega) (by rw [hz2]; omega))
    have hge := grownCap_ge w (xs.length + 1) c 5
    have hzc : (Value.int IntKind.u8 0).cells.size = 1 := rfl
    refine ⟨w.heap.size, _, _, by rw [hlen]; exact hr, ⟨_, (0, 0), heap_alloc_new w.drew _, .inl rfl, ?_, by omega, fun j hj => ?_⟩, ⟨rfl, rfl, rfl, by simp, fun k hk _ => heap_alloc_old w.drew _ hk⟩, .inr (Nat.le_refl _)⟩
    · simp only [Array.size_append, List.size_toArray, size_zeroCells, hzc, List.length_map, List.length_singleton]
      omega
    · rw [hlen] at hj
      rw [Array.getElem?_append_left (by simp; omega), List.append_toArray, List.getElem?_toArray]
      by_cases e : j < xs.length
      · rw [List.getElem?_append_left (by rw [List.length_map]; exact e), List.getElem?_map, List.getElem?_eq_getElem e, List.getD_eq_getElem?_getD, List.getElem?_append_left e, List.getElem?_eq_getElem e]
        rfl
      · obtain rfl : j = xs.length := by omega
        rw [List.getElem?_append_right (by rw [List.length_map]; exact Nat.le_refl _), List.length_map, List.getD_eq_getElem?_getD, List.getElem?_append_right (Nat.le_refl _)]
        simp
end Go.Proofs.Ythfddndmhjkeiaa.L
end
section
/- A loop over a function whose own captured box turns between two rounds, and whose body is never left but at its end. -/
namespace Go.Proofs.Ythfddndmhjkeiaa.L
open Go.RowKit
set_option linter.unusedVariables false
/-- What the function that yields is told: J holds between two rounds, a round keeps the function's own box, and J does not look at that box. -/
def YieldsBox {α : Type} (F : Fence) (n : Nat) (P : Program) (g : Nat) (lb : Array Value) (encs : α → Array Value) (Bu : Nat) (S : List α → Prop) (N : Nat) (w : World) : Prop :=
  ∀ (l : Nat) (J : List α → World → Prop) (W : World), W.heap[Bu]? = w.heap[Bu]? →
    (∀ pre A v, J pre A → J pre (A.setCell ⟨Bu, 0, none⟩ v)) →
    (∀ pre x A, J pre A → pre.length < N → YieldAt F (n - 1) P l (encs x) A fun e A' => e = .returned (.bool true) ∧ J (pre ++ [x]) A' ∧ A'.heap[Bu]? = A.heap[Bu]?) →
    J [] W →
    CallsIn F n P g (#[.func (.yield l) #[] #[]] ++ lb) W fun e W' => (∃ v, e = .returned v) ∧ ∃ xs, S xs ∧ J xs W'
def boxPost {α : Type} (B Bu : Nat) (I : List α → World → Prop) (xs : List α) (W : World) : Exit → Act → World → Prop
  | .normal, _, W' => KeepsFrom B W W' ∧ W'.heap[Bu]? = W.heap[Bu]? ∧ I xs W'
  | _, _, _ => False
theorem wpIn_rangeFunc_box {F : Fence} {n : Nat} {P : Program} {α : Type} {g : Operand} {ps : Array Tmp} {assign body : Code} {Q : Exit → Act → World → Prop} {a : Act} {w : World}
    (hro : F.round = none) (h1 : 1 ≤ n) {gf : Nat} {lb : Array Value} (hg : a.eval g = .func (.func gf) #[] lb) (hFg : F.fn gf) (eg : ∀ args w, (callFunc gf args).run P w = .ok (.enter gf args) w)
    {encs : α → Array Value} {Bu : Nat} (hBu : Bu < w.heap.size) {S : List α → Prop} {N : Nat} (hseq : YieldsBox F (n - 1) P gf lb encs Bu S N w) (hps : ∀ x, (encs x).size = ps.size)
    (I : List α → World → Prop) (hI : OwnFrom w.heap.size I) (hIB : ∀ pre A v, I pre A → I pre (A.setCell ⟨Bu, 0, none⟩ v)) (h0 : I [] w) (a₁ : α → Act)
    (hassign : ∀ (l : Nat) (x : α) (W : World) (K : Act → World → Prop), K (a₁ x) W →
      assign.wpIn (F.inRound l) (n - 1 - 1) P (Exit.then K (fun _ _ _ => False)) { tmps := (ps.zip (encs x)).foldl (fun t (p, v) => t.setIfInBounds p v) a.tmps, defers := [] } W)
    (hbody : ∀ (l : Nat) (pre : List α) (x : α) (W : World), I pre W → pre.length < N → body.wpIn (F.inRound l) (n - 1 - 1) P (boxPost w.heap.size Bu I (pre ++ [x]) W) (a₁ x) W)
    (hdone : ∀ (D : Nat) (xs : List α) (W : World), w.heap.size ≤ D → S xs → I xs W → W.heap[D]? = some (.deferred (some [])) → Q .normal { a with defers := { target := .collected D, args := #[] } :: a.defers } W) :
    (Code.rangeFunc g ps assign body).wpIn F n P Q a w := by
  refine wpIn_rangeFunc ?_
  intro fn hfn
  rw [hro]
  obtain ⟨rec, hrec⟩ : ∃ rec : LoopState → Option Code → Loop, rec = fun st pe => { state := st, pending := pe, fn, tmps := a.tmps, params := ps, assign, body, defers := w.heap.size } := ⟨_, rfl⟩
  obtain ⟨W1, hW1⟩ : ∃ W1, (w.alloc (.deferred (some []))).alloc (.loop (rec .ready none)) = W1 := ⟨_, rfl⟩
  have hL1 : W1.heap[w.heap.size + 1]? = some (.loop (rec .ready none)) := by
    rw [← hW1]; have := World.alloc_heap_new (w.alloc (.deferred (some []))) (.loop (rec .ready none)); rwa [World.size_alloc] at this
  have hK1 : W1.heap[w.heap.size]? = some (.deferred (some [])) := by
    rw [← hW1]; exact (Below.heap_alloc _ _ _ (by simp)).trans (World.alloc_heap_new w _)
  have hI1 : I [] W1 := by rw [← hW1]; exact hI.alloc _ (hI.alloc _ h0)
  have hU1 : W1.heap[Bu]? = w.heap[Bu]? := by
    rw [← hW1]; exact (Below.heap_alloc _ _ _ (by simp; omega)).trans (Below.heap_alloc _ _ _ hBu)
  refine ⟨w.heap.size + 1, [{ target := .collected w.heap.size, args := #[] }], W1, { target := .fn (.func gf) lb, args := #[.func (.yield (w.heap.size + 1)) #[] #[]] }, W1, gf,
    #[.func (.yield (w.heap.size + 1)) #[] #[]] ++ lb, W1, ?_, ?_, ?_, ?_, fun _ => h1, ?_⟩
  · rw [← hW1, hrec]; exact run_enterLoop_outer _ _ _ _ _
  · simp only [resolve, hg]
    simp [go_sem]
  · intro f' hf'; simp [Target.leads] at hf'; subst hf'; exact hFg
  · simp [invoke, go_sem, eg]
  · have hset : ∀ (A : World) (v : Value) (k : Nat), Bu ≠ k → (A.setCell ⟨Bu, 0, none⟩ v).heap[k]? = A.heap[k]? := fun A v k hk => Below.heap_setCell A ⟨Bu, 0, none⟩ v k (fun e => hk (by first | exact e | exact e.symm))
    refine (hseq (w.heap.size + 1)
      (fun pre W => I pre W ∧ W.heap[w.heap.size + 1]? = some (.loop (rec .ready none)) ∧ W.heap[w.heap.size]? = some (.deferred (some [])))
      W1 hU1
      (fun pre A v hs => ⟨hIB pre A v hs.1, (hset A v _ (by omega)).trans hs.2.1, (hset A v _ (by omega)).trans hs.2.2⟩)
      ?_ ⟨hI1, hL1, hK1⟩).mono ?_
    · rintro pre x W ⟨hi, hl, hk⟩ hlen
      have hlt : w.heap.size + 1 < W.heap.size := (Array.getElem?_eq_some_iff.1 hl).1
      have hy := run_yield (P := P) (args := encs x) hl (by rw [hrec]; exact hps x)
      rw [hrec] at hy
      refine ⟨fn, _, assign, body, hy, roundIn_of_wpIn hfn (hassign _ x W _ ⟨_, run_beginRound hl (by rw [hrec]), ?_⟩)⟩
      have hl2 : (W.putObj (w.heap.size + 1) (.loop { rec .ready none with state := .busy })).heap[w.heap.size + 1]? = some (.loop { rec .ready none with state := .busy }) := World.putObj_heap_same hlt
      have hk2 : (W.putObj (w.heap.size + 1) (.loop { rec .ready none with state := .busy })).heap[w.heap.size]? = some (.deferred (some [])) := (World.putObj_heap_other (by omega)).trans hk
      have hu2 : (W.putObj (w.heap.size + 1) (.loop { rec .ready none with state := .busy })).heap[Bu]? = W.heap[Bu]? := World.putObj_heap_other (by omega)
      refine wpIn_mono (hbody _ pre x _ (hI.putObj _ hi (by omega) hl rfl) hlen) ?_
      rintro e a3 W3 hp
      cases e with
      | normal =>
        obtain ⟨hk3, hu3, hi3⟩ := hp
        have hl3 := hk3.same _ _ (by omega) hl2 rfl
        have hr := run_endRound (P := P) none hl3
        rw [hrec] at hr
        refine ⟨_, _, hr, rfl, ⟨hI.putObj _ hi3 (by omega) hl3 rfl, ?_, ?_⟩, ?_⟩
        · rw [hrec]; exact World.putObj_heap_same (Array.getElem?_eq_some_iff.1 hl3).1
        · exact (World.putObj_heap_other (by omega)).trans (hk3.same _ _ (Nat.le_refl _) hk2 rfl)
        · exact (World.putObj_heap_other (by omega)).trans (hu3.trans hu2)
      | ret => exact hp.elim
      | exit id => exact hp.elim
      | goto t => exact hp.elim
      | panic ch => exact hp.elim
      | outgrown => exact hp.elim
    · rintro e W2 ⟨⟨v, rfl⟩, xs, hS, hi, hl, hk⟩
      exact ⟨none, _, by have := run_endLoop (P := P) hl (by rw [hrec]; simp); rw [hrec] at this; exact this, hdone _ xs _ (Nat.le_refl _) hS (hI.putObj _ hi (by omega) hl rfl) ((World.putObj_heap_other (by omega)).trans hk)⟩
end Go.Proofs.Ythfddndmhjkeiaa.L
end
section
/- wire.groups and the function that it hands back. -/
namespace Go.Proofs.Ythfddndmhjkeiaa.L
open Go.RowKit Go.Shelf Go.Proofs.YthfddndmhjkeiaaW.PrintWords Go.Proofs.YthfddndmhjkeiaaW.PrintLast Go.Proofs.YthfddndmhjkeiaaW.PrintMore
set_option linter.unusedVariables false
set_option linter.unusedSimpArgs false
attribute [local go_sem] Oper.semAt_some
def grp : Nat → Int → List Int
  | 0, u => [u]
  | k + 1, u => if 127 < u then bits BinOp.or IntKind.u8 (u % 256) 128 :: grp k (u / 128) else [u]
theorem groups_in (F : Fence) (n : Nat) (h6 : F.fn 89) (hro : F.round = none) (hn : 1 ≤ n) (l Bu : Nat) (u : Int) (hu0 : 0 ≤ u) (hu1 : u < 18446744073709551616) (J : List Int → World → Prop)
    (hJB : ∀ pre A v, J pre A → J pre (A.setCell ⟨Bu, 0, none⟩ v))
    (hY : ∀ pre x A, J pre A → pre.length < 10 → YieldAt F (n - 1) Try.prog l #[.int .u8 x] A fun e A' => e = .returned (.bool true) ∧ J (pre ++ [x]) A' ∧ A'.heap[Bu]? = A.heap[Bu]?)
    (W : World) (hBu : Boxed W Bu 124 (.int .u64 u)) (h0 : J [] W) :
    CallsIn F n Try.prog 89 #[.func (.yield l) #[] #[], .pointer (some ⟨Bu, 0, none⟩)] W fun e W' => (∃ v, e = .returned v) ∧ ∃ xs, xs = grp 9 u ∧ J xs W' := by
  refine callsIn_of_wp Try.func89 rfl h6 ?_ hro
  simp only [Try.ntmps89, List.size_toArray, List.length_cons, List.length_nil, Nat.reduceAdd, Nat.reduceSub, Array.replicate_succ, Array.replicate_zero, List.push_toArray, List.append_toArray, List.nil_append, List.cons_append]
  gi_wp2
  gi_loopw [] (fun wr => ∃ (pre : List Int) (k : Nat) (v : Int), pre.length + k = 9 ∧ pre ++ grp k v = grp 9 u ∧ 0 ≤ v ∧ v < 128 ^ (k + 1) ∧ v < 18446744073709551616 ∧ Boxed wr Bu 124 (.int .u64 v) ∧ J pre wr)
    (fun wr => match wr.cell? ⟨Bu, 0, none⟩ with | some (.int _ v) => v.toNat | _ => 0)
  case atStart => exact ⟨[], 9, u, rfl, rfl, hu0, Int.lt_of_lt_of_le hu1 (by decide), hu1, hBu, h0⟩
  case round =>
    obtain ⟨pre, k, v, hk, hg, hv0, hvk, hv1, hB, hJ⟩ := hrel
    have hc := hB.cell
    have hf := hB.frozen
    have hpl : pre.length < 10 := by omega
    obtain ⟨fn, tmps, assign, body, hy, hR⟩ := hY pre (bits BinOp.or IntKind.u8 (v % 256) 128) wr hJ hpl
    obtain ⟨fn', tmps', assign', body', hy', hR'⟩ := hY pre v wr hJ hpl
    gi_wp2
    · refine hR.mono ?_
      rintro e W3 ⟨rfl, hJ3, hk3⟩
      have hB3 : Boxed W3 Bu 124 (.int .u64 v) := hk3.trans hB
      have hc3 := hB3.cell
      have hf3 := hB3.frozen
      gi_wp2
      have hlt : 127 < v := by assumption
      have hs3 := hB3.set (.int .u64 (v / 128))
      refine ⟨?_, by rw [hs3.cell, hc]; show (v / 128).toNat < v.toNat; omega⟩
      cases k with
      | zero => exfalso; have : v < 128 := by simpa using hvk
                omega
      | succ k =>
        refine ⟨pre ++ [bits BinOp.or IntKind.u8 (v % 256) 128], k, v / 128, by simp; omega, ?_, by omega, ?_, by omega, hs3, hJB _ _ _ hJ3⟩
        · rw [← hg, grp, if_pos hlt, List.append_assoc]; rfl
        · have h128 : (128 : Int) ^ (k + 1 + 1) = 128 ^ (k + 1) * 128 := Int.pow_succ _ _
          rw [h128] at hvk
          exact Int.ediv_lt_of_lt_mul (by decide) hvk
    · have hle : v ≤ 127 := by assumption
      refine hR'.mono ?_
      rintro e W3 ⟨rfl, hJ3, hk3⟩
      gi_wp2
      have hgv : grp k v = [v] := by cases k with
        | zero => rfl
        | succ k => rw [grp, if_neg (by omega)]
      rw [hgv] at hg
      trace_state
      go_end0
      exact ⟨⟨_, rfl⟩, _, hg, hJ3⟩
end Go.Proofs.Ythfddndmhjkeiaa.L
end
section
namespace Go.Proofs.Ythfddndmhjkeiaa.L
open Go.RowKit Go.Shelf Go.Proofs.YthfddndmhjkeiaaW.PrintWords Go.Proofs.YthfddndmhjkeiaaW.PrintLast Go.Proofs.YthfddndmhjkeiaaW.PrintMore
set_option linter.unusedVariables false
set_option linter.unusedSimpArgs false
attribute [local go_sem] Oper.semAt_some
theorem groups_made (F : Fence) (n : Nat) (h5 : F.fn 68) (hro : F.round = none) (u : Int) (w : World) :
    CallsIn F n Try.prog 68 #[.int .u64 u] w fun e w' => e = .returned (.func (.func 89) #[] #[.pointer (some ⟨w.heap.size, 0, none⟩)]) ∧ w' = w.alloc (.cells #[.int .u64 u] 124) := by
  refine callsIn_of_wp Try.func68 rfl h5 ?_ hro
  simp only [Try.ntmps68, List.size_toArray, List.length_cons, List.length_nil, Nat.reduceAdd, Nat.reduceSub, Array.replicate_succ, Array.replicate_zero, List.push_toArray, List.append_toArray, List.nil_append, List.cons_append]
  gi_wp2
  go_ret
  exact ⟨rfl, rfl⟩
def zig (v : Int) : Int := bits BinOp.xor IntKind.u64 (IntKind.u64.wrap (IntKind.u64.wrap v * 2)) (IntKind.u64.wrap (v / 9223372036854775808))
theorem zig_lo (v : Int) : 0 ≤ zig v := bits_lo_u64 _ _ _
theorem zig_hi (v : Int) : zig v < 18446744073709551616 := by have := bits_hi_u64 .xor (IntKind.u64.wrap (IntKind.u64.wrap v * 2)) (IntKind.u64.wrap (v / 9223372036854775808)); unfold zig; omega
theorem wpListIn_append1 {F : Fence} {n : Nat} (w : World) {ops : Array Oper} {rest : List Oper} {o : Oper} {a : Act} {Q : Exit → Act → World → Prop}
    (hg : o.guard = none) (s x : Operand) (hop : o.op = Op.call { callee := Callee.builtin Builtin.append, args := #[s, x], argTypes := #[49, 49] }) (hty : o.type = 49)
    {g c : Nat} {xs : List Int} (hrow : BRowM w g c xs) (hl : xs.length ≤ 1000000) {k : Nat} (hk : k = xs.length) (hs : a.eval s = .slice (some ⟨g, 0, none⟩) k c) {ad : Addr} {v : Int} (hx : a.eval x = .slice (some ad) 1 1) (ha : w.cell? (ad.add 0) = some (.int .u8 v))
    (hK : ∀ g' c' w', BRowM w' g' c' (xs ++ [v]) → w.grownBy w' (some g) → (g' = g ∨ w.heap.size ≤ g') → wpListIn F n Try.prog ops Q rest (a.put o.dst (.slice (some ⟨g', 0, none⟩) (k + 1) c')) w') :
    wpListIn F n Try.prog ops Q (o :: rest) a w := by
  refine wpListIn_plain hg fun K hK' => ?_
  subst hk
  obtain ⟨g', c', w', hrun, r1, r2, r3⟩ := append1 hrow hl ha
  rw [show (xs ++ [v]).length = xs.length + 1 from by simp] at hrun
  unfold Oper.wpIn
  refine ⟨?_, ?_⟩
  · simp [Oper.about, hop, resolve, Target.leads, Sem.run_pure]
  · rw [Oper.semAt_plain F _ _ (by rw [hop]; intro c hc'; cases hc')]
    simp [execOp, hop, hty, resolve, invoke, builtin, hs, hx, hrun, Result.andThen]
    exact hK' _ _ (hK g' c' w' r1 r2 r3)
theorem grp_len : ∀ k u, (grp k u).length ≤ k + 1
  | 0, u => by simp [grp]
  | k + 1, u => by
    rw [grp]
    split
    · have := grp_len k (u / 128); simp; omega
    · simp
theorem BRowM.ne_box {W : World} {g c B : Nat} {xs : List Int} {t : TypeId} {u : Value} (h : BRowM W g c xs) (hb : Boxed W B t u) (ht : t ≠ 5) : g ≠ B := by
  rintro rfl
  obtain ⟨cur, m, h1, _⟩ := h
  rw [show W.heap[g]? = _ from hb] at h1
  simp only [Option.some.injEq, Obj.cells.injEq] at h1
  exact ht h1.2.1
def PutI (n₀ : Nat) (w : World) (xs : List Int) (pre : List Int) (W : World) : Prop :=
  (∃ g' c', n₀ ≤ g' ∧ g' ≠ w.heap.size + 1 ∧ Boxed W w.heap.size 49 (.slice (some ⟨g', 0, none⟩) (xs.length + pre.length) c') ∧ BRowM W g' c' (xs ++ pre)) ∧ Below n₀ w W ∧ w.heap.size + 2 ≤ W.heap.size
theorem PutI.own {n₀ : Nat} {w : World} {xs : List Int} {B : Nat} (hn : n₀ ≤ w.heap.size) (hB : n₀ ≤ B) : OwnFrom B (PutI n₀ w xs) := by
  intro pre A A' row hs hg hr
  obtain ⟨⟨g', c', h1, h2, h3, h4⟩, h5, h6⟩ := hs
  refine ⟨⟨g', c', h1, h2, h3.kept hg ?_, h4.block (hg.block g' h4.lt ?_)⟩, h5.grown hg (Nat.le_trans hn h5.size) (fun k e => by have := (hr k e).1; omega), Nat.le_trans h6 hg.size⟩
  · intro e
    obtain ⟨_, o, ho, hc⟩ := hr _ e.symm
    rw [show A.heap[w.heap.size]? = _ from h3] at ho
    cases ho
    cases hc
  · intro e
    obtain ⟨_, o, ho, hc⟩ := hr _ e.symm
    obtain ⟨cur, m, h1', _⟩ := h4
    rw [h1'] at ho
    cases ho
    cases hc
theorem PutI.box {n₀ : Nat} {w : World} {xs : List Int} (hn : n₀ ≤ w.heap.size) (pre : List Int) (A : World) (v : Value) (h : PutI n₀ w xs pre A) : PutI n₀ w xs pre (A.setCell ⟨w.heap.size + 1, 0, none⟩ v) := by
  obtain ⟨⟨g', c', h1, h2, h3, h4⟩, h5, h6⟩ := h
  exact ⟨⟨g', c', h1, h2, h3.kept (grownBy_setCell' A _ v) (by simp), h4.block (Below.heap_setCell A ⟨w.heap.size + 1, 0, none⟩ v g' h2)⟩, h5.setCell (p := ⟨w.heap.size + 1, 0, none⟩) (by show n₀ ≤ w.heap.size + 1; omega) _, by simpa [World.setCell] using h6⟩
theorem put_in (F : Fence) (n : Nat) (h3 : F.fn 53) (h4 : F.fn 68) (h5 : F.fn 89) (hro : F.round = none) (hn : 3 ≤ n) (n₀ g c : Nat) (xs : List Int) (v : Int) (w : World) (hrow : BRowM w g c xs) (hg : n₀ ≤ g) (hl : xs.length ≤ 999000) :
    CallsIn F n Try.prog 53 #[.slice (some ⟨g, 0, none⟩) xs.length c, .int .i64 v] w fun e W' => ∃ g' c', e = .returned (.slice (some ⟨g', 0, none⟩) (xs ++ grp 9 (zig v)).length c') ∧ BRowM W' g' c' (xs ++ grp 9 (zig v)) ∧ n₀ ≤ g' ∧ Below n₀ w W' := by
  have h1 : 1 ≤ n := by omega
  have hgl := hrow.lt
  have hn0 : n₀ ≤ w.heap.size := by omega
  have hz0 := zig_lo v
  have hz1 := zig_hi v
  generalize hz : zig v = z at hz0 hz1 ⊢
  refine callsIn_of_wp_marks Try.func53 rfl h3 ?_ hro
  simp only [Try.ntmps53, List.size_toArray, List.length_cons, List.length_nil, Nat.reduceAdd, Nat.reduceSub, Array.replicate_succ, Array.replicate_zero, List.push_toArray, List.append_toArray, List.nil_append, List.cons_append]
  gi_wp2_with (gi_at_call 68; refine (groups_made F (n - 1) h4 hro _ _).mono ?_; rintro e w' ⟨rfl, rfl⟩)
  simp only [show bits BinOp.xor IntKind.u64 (IntKind.u64.wrap (IntKind.u64.wrap v * 2)) (IntKind.u64.wrap (v / 9223372036854775808)) = z from hz]
  have bB := Boxed.new w 49 (.slice (some ⟨g, 0, none⟩) xs.length c)
  have bU := Boxed.new (w.alloc (.cells #[.slice (some ⟨g, 0, none⟩) xs.length c] 49)) 124 (.int .u64 z)
  rw [World.size_alloc] at bU
  have hB0 : Below n₀ w ((w.alloc (.cells #[.slice (some ⟨g, 0, none⟩) xs.length c] 49)).alloc (.cells #[.int .u64 z] 124)) := ((Below.refl _ w).alloc hn0 _).alloc (by simp; omega) _
  have hr0 : BRowM ((w.alloc (.cells #[.slice (some ⟨g, 0, none⟩) xs.length c] 49)).alloc (.cells #[.int .u64 z] 124)) g c xs := hrow.block ((Below.heap_alloc _ _ _ (by simp; omega)).trans (Below.heap_alloc _ _ _ hgl))
  refine wpIn_rangeFunc_box hro h1 (gf := 89) (lb := #[.pointer (some ⟨w.heap.size + 1, 0, none⟩)]) rfl h5 (enters_of Try.func89 (by kernel_rfl) rfl) (encs := fun x : Int => #[Value.int .u8 x]) (Bu := w.heap.size + 1) (by simp)
    (S := fun ys => ys = grp 9 z) (N := 10)
    (fun l J W hW hJ hY hj0 => groups_in F (n - 1) h5 hro (by omega) l (w.heap.size + 1) z hz0 hz1 J hJ hY W (hW.trans bU) hj0)
    (fun _ => rfl) (PutI n₀ w xs) (PutI.own hn0 (by simp; omega)) (PutI.box hn0)
    ⟨⟨g, c, hg, by omega, bB.alloc _, by rw [List.append_nil]; exact hr0⟩, hB0, by simp⟩
    (fun x => { tmps := #[Value.slice (some { block := g, off := 0 }) xs.length c, Value.int IntKind.i64 v,
          Value.pointer (some { block := w.heap.size, off := 0 }), undef, Value.slice none 0 0, .int .u8 x,
          Value.int IntKind.i64 v, Value.int IntKind.u64 (IntKind.u64.wrap v),
          Value.int IntKind.u64 (IntKind.u64.wrap (IntKind.u64.wrap v * 2)), Value.int IntKind.i64 v,
          Value.int IntKind.i64 (v / 9223372036854775808),
          Value.int IntKind.u64 (IntKind.u64.wrap (v / 9223372036854775808)),
          Value.int IntKind.u64 z,
          Value.func (Fn.func 89) #[] #[Value.pointer (some { block := w.heap.size + 1, off := 0 })], .int .u8 x, undef,
          undef, undef, undef, undef], defers := [] }) ?assign ?body ?done
  case assign =>
    intro l x W K hK
    gi_wp2
    exact hK
  case body =>
    rintro l pre x W ⟨⟨g', c', i1, i2, i3, i4⟩, i5, i6⟩ hlt
    have hc := i3.cell
    have hll : (xs ++ pre).length ≤ 1000000 := by rw [List.length_append]; omega
    have hsz := i5.size
    have hgl' := i4.lt
    have hbl' := i3.lt
    gi_wp2_with (gi_at_builtin; refine wpListIn_append1 _ rfl _ _ rfl rfl (i4.block (Below.heap_alloc W _ _ hgl')) hll (List.length_append).symm rfl (ad := ⟨W.heap.size, 0, none⟩) (v := x) rfl (cell_one_new _ _ _ 0 _ rfl) ?_; intro g2 c2 w2 r1 r2 r3; have b2 := (i3.alloc (.cells #[.int .u8 x] 5)).kept r2 (by intro e; exact i4.ne_box i3 (by decide) (Option.some.inj e).symm); have hc2 := b2.cell; have hf2 := b2.frozen)
    refine ⟨(((KeepsOthers.alloc W _).trans (KeepsOthers.of_grownBy r2 (fun j o ej hj => ?_))).trans (KeepsOthers.setCell _ _ _)).from _, ?_, ⟨g2, c2, ?_, ?_, by rw [List.length_append, ← Nat.add_assoc]; exact b2.set _, ?_⟩, ?_, ?_⟩
    · cases ej
      obtain ⟨cur, m, h1', _⟩ := i4
      rw [Below.heap_alloc W _ _ hgl', h1'] at hj
      cases hj
      rfl
    · refine (Below.heap_setCell w2 ⟨w.heap.size, 0, none⟩ _ _ (by simp)).trans ((r2.block _ (by simp; omega) (by intro e; exact i2 (Option.some.inj e).symm)).trans (Below.heap_alloc W _ _ (by omega)))
    · rcases r3 with rfl | r3
      · exact i1
      · simp at r3; omega
    · rcases r3 with rfl | r3
      · exact i2
      · simp at r3; omega
    · rw [← List.append_assoc]
      exact r1.block (Below.heap_setCell w2 ⟨w.heap.size, 0, none⟩ _ _ (r1.ne_box b2 (by decide)))
    · exact ((i5.alloc (by omega) _).grown r2 (by simp; omega) (fun k e => by cases e; exact i1)).setCell (p := ⟨w.heap.size, 0, none⟩) hn0 _
    · have := r2.size
      simp [World.setCell] at this ⊢
      omega
  case done =>
    rintro D ys W hD rfl ⟨⟨g', c', i1, i2, i3, i4⟩, i5, i6⟩ hK
    have hc := i3.cell
    gi_wp2
    refine ⟨by simp, .inl ⟨_, _, rfl, run_takeDeferred hK, ?_⟩⟩
    refine ⟨_, results_tmp rfl _ _ _, g', c', by show Ending.returned (Value.slice _ (xs.length + _) _) = _; rw [List.length_append], i4.block (World.putObj_heap_other ?_), i1, i5.trans (belowK_b (w := w) hn0 W D _ _ (by simp at hD; omega) hK rfl rfl)⟩
    rintro rfl
    obtain ⟨cur, m, h1', _⟩ := i4
    rw [hK] at h1'
    cases h1'
end Go.Proofs.Ythfddndmhjkeiaa.L
end
section
/- wire.PutInt. -/
namespace Go.Proofs.Ythfddndmhjkeiaa.L
open Go.RowKit Go.Shelf Go.Proofs.YthfddndmhjkeiaaW.PrintWords Go.Proofs.YthfddndmhjkeiaaW.PrintLast Go.Proofs.YthfddndmhjkeiaaW.PrintMore
set_option linter.unusedVariables false
set_option linter.unusedSimpArgs false
def wire_PutInt.f (a0 : ByteArray) (a1 : Int) : Option ByteArray := if a0.size ≤ 900000 then some (strOfNums (bytesOf a0 ++ grp 9 (zig a1))) else none
theorem put_calls (n₀ g c : Nat) (xs : List Int) (v : Int) (w : World) (hrow : BRowM w g c xs) (hg : n₀ ≤ g) (hl : xs.length ≤ 999000) :
    Calls Try.prog 53 #[.slice (some ⟨g, 0, none⟩) xs.length c, .int .i64 v] w fun e W' => ∃ g' c', e = .returned (.slice (some ⟨g', 0, none⟩) (xs ++ grp 9 (zig v)).length c') ∧ BRowM W' g' c' (xs ++ grp 9 (zig v)) ∧ n₀ ≤ g' ∧ Below n₀ w W' :=
  callsIn_wide.1 (put_in Fence.wide 3 trivial trivial trivial rfl (by omega) n₀ g c xs v w hrow hg hl)
theorem wire_PutInt.calls (a0 : ByteArray) (a1 : Int) (r : ByteArray) (w : World) (h : wire_PutInt.f a0 a1 = some r) :
    Calls Try.prog 37 #[.string a0, .int .i64 a1] w fun e w' => e = .returned (.string r) ∧ Below w.heap.size w w' := by
  unfold wire_PutInt.f at h
  split at h
  case isFalse => cases h
  case isTrue hs =>
  cases h
  obtain ⟨c, w1, hc, hr, hb, hcs⟩ := conv_bytes w a0 (by omega)
  have hlen : (bytesOf a0).length = a0.size := bytesOf_length a0
  have hput := put_calls w.heap.size w.heap.size c (bytesOf a0) a1 w1 hr.toM (Nat.le_refl _) (by omega)
  rw [hlen] at hput
  have hgl := grp_len 9 (zig a1)
  have hlen2 : (bytesOf a0 ++ grp 9 (zig a1)).length ≤ 9223372036854775807 := by rw [List.length_append]; omega
  generalize bytesOf a0 ++ grp 9 (zig a1) = ys at hput hlen2 ⊢
  go_enter Try.func37, Try.ntmps37
  go_wp2_with fail
  refine hput.mono ?_
  rintro e w2 ⟨g', c', rfl, i4, i1, i5⟩
  have hst := i4.string hlen2
  go_wp2_with fail
  go_ret
  exact ⟨rfl, (hb.trans i5)⟩
end Go.Proofs.Ythfddndmhjkeiaa.L
end
section
-- Printed for this claim by a small program of the session's own, drv.py, round the kit's print.py. Lean checks it.
namespace Go.Proofs.Ythfddndmhjkeiaa.L
open Go.RowKit Go.Proofs.YthfddndmhjkeiaaW.PrintWords Go.Proofs.YthfddndmhjkeiaaW.PrintLast Go.Proofs.YthfddndmhjkeiaaW.PrintMore
attribute [local go_sem] max2_int min2_int max_two min_two max_three min_three max_four min_four   -- for this text's walks alone
set_option linter.unusedVariables false
set_option linter.unusedSimpArgs false

/-! ### wire_PutText: function 36 -/
def wire_PutText.f (a0 : ByteArray) (a1 : ByteArray) : Option (ByteArray) := (wire_PutInt.f a0 (a1.size : Int)).bind fun t120 => (if t120.size + a1.size ≤ 9223372036854775807 then (some (t120 ++ a1)) else (none))
set_option maxHeartbeats 8000000 in
set_option maxRecDepth 100000 in
theorem wire_PutText.calls (a0 : ByteArray) (a1 : ByteArray) (r : ByteArray) (w : World) (h : wire_PutText.f a0 a1 = some r) :
    Calls Try.prog 36 #[.string a0, .string a1] w fun e w' => e = .returned (.string r) ∧ Below w.heap.size w w' := by
  have HB := Aside0.mk (Below.refl w.heap.size w)
  have H : ((wire_PutInt.f a0 (a1.size : Int)).bind fun t120 => (if t120.size + a1.size ≤ 9223372036854775807 then (some (t120 ++ a1)) else (none))) = some r := h
  clear h
  replace H := Option.bind_eq_some_iff.mp H
  obtain ⟨t120, A30, H⟩ := H
  replace H : (if t120.size + a1.size ≤ 9223372036854775807 then (some (t120 ++ a1)) else (none)) = some r := H
  have A3 := Aside0.mk A30
  clear A30
  by_cases c4 : t120.size + a1.size ≤ 9223372036854775807
  · rw [if_pos c4] at H
    have c4b0 := eq_true c4
    have c4b1 : decide (t120.size + a1.size ≤ 9223372036854775807) = true := decide_eq_true c4
    (have c4b2 : (9223372036854775807 < t120.size + a1.size) = False := eq_false (Nat.not_lt.2 c4))
    obtain rfl := Option.some.inj H
    go_enter Try.func36, Try.ntmps36
    go_wp2_with (((with_reducible refine gate_callee (f := 37) rfl ?_); refine goesL_ (some 8) rfl rfl Try.func37 (by kernel_rfl) rfl #[.string a0, .int .i64 (a1.size : Int)] rfl (by ((simp only [List.map_toArray, List.map_cons, List.map_nil])); (rfl)) ?_; (with_reducible refine (wire_PutInt.calls a0 (a1.size : Int) t120 _ A3.out).mono ?_); rintro e w5 ⟨rfl, hb⟩; refine ⟨_, rfl, ?_⟩; have n0_ := Aside0.mk (below_step HB.out hb); clear HB; have HB := n0_; clear n0_; clear hb))
    go_ret
    exact ⟨by (rfl), HB.out⟩
  · rw [if_neg c4] at H
    exact absurd H (by simp)

end Go.Proofs.Ythfddndmhjkeiaa.L
end
section
-- Printed for this claim by a small program of the session's own, drv.py, round the kit's print.py. Lean checks it.
namespace Go.Proofs.Ythfddndmhjkeiaa.L
open Go.RowKit Go.Proofs.YthfddndmhjkeiaaW.PrintWords Go.Proofs.YthfddndmhjkeiaaW.PrintLast Go.Proofs.YthfddndmhjkeiaaW.PrintMore
attribute [local go_sem] max2_int min2_int max_two min_two max_three min_three max_four min_four   -- for this text's walks alone
set_option linter.unusedVariables false
set_option linter.unusedSimpArgs false

/-! ### seal_Encode: function 21 -/
def seal_Encode.f (a0_0 : Int) (a0_1 : ByteArray) : Option (ByteArray × Int) := (seal_valid.f a0_0 a0_1).bind fun t122 => (if t122 = true then ((wire_PutInt.f (⟨#[]⟩ : ByteArray) a0_0).bind fun t123 => ((wire_PutText.f t123 a0_1).bind fun t124 => (some (t124, 0)))) else (none))
def seal_Encode.T3 : Bool × List (List Nat × List Nat) := (true, [([], []), ([0], [0]), ([1], [1]), ([], []), ([3], [3]), ([2, 4, 2], [2, 4]), ([5, 5, 0, 1, 2, 3, 4, 5], [5]), ([6, 0, 1, 2, 3, 4, 5, 6], [])])
def seal_Encode.B3 : List Nat := [0, 1, 3, 0, 8, 31, 63, 127]
theorem seal_Encode.tab3 : rtab .any (opsOf Try.f21 3) = seal_Encode.T3 := by kernel_rfl
theorem seal_Encode.bits3 : waitsOk seal_Encode.T3.2 seal_Encode.B3 = true := by kernel_rfl
set_option maxHeartbeats 8000000 in
set_option maxRecDepth 100000 in
theorem seal_Encode.calls (a0_0 : Int) (a0_1 : ByteArray) (r1 : ByteArray) (r2 : Int) (w : World) (h : seal_Encode.f a0_0 a0_1 = some (r1, r2)) :
    Calls Try.prog 21 #[.agg #[.int .i64 a0_0, .string a0_1]] w fun e w' => e = .returned (.tuple #[.string r1, .int .i64 r2]) ∧ Below w.heap.size w w' := by
  have hu55 := Try.underlying55
  have HB := Aside0.mk (Below.refl w.heap.size w)
  have H : ((seal_valid.f a0_0 a0_1).bind fun t122 => (if t122 = true then ((wire_PutInt.f (⟨#[]⟩ : ByteArray) a0_0).bind fun t123 => ((wire_PutText.f t123 a0_1).bind fun t124 => (some (t124, 0)))) else (none))) = some (r1, r2) := h
  clear h
  replace H := Option.bind_eq_some_iff.mp H
  obtain ⟨t122, A20, H⟩ := H
  replace H : (if t122 = true then ((wire_PutInt.f (⟨#[]⟩ : ByteArray) a0_0).bind fun t123 => ((wire_PutText.f t123 a0_1).bind fun t124 => (some (t124, 0)))) else (none)) = some (r1, r2) := H
  have A2 := Aside0.mk A20
  clear A20
  by_cases c3 : t122 = true
  · subst c3
    have H1 : ((wire_PutInt.f (⟨#[]⟩ : ByteArray) a0_0).bind fun t123 => ((wire_PutText.f t123 a0_1).bind fun t124 => (some (t124, 0)))) = some (r1, r2) := by rw [if_pos rfl] at H; exact H
    clear H
    have H := H1
    clear H1
    replace H := Option.bind_eq_some_iff.mp H
    obtain ⟨t123, A40, H⟩ := H
    replace H : ((wire_PutText.f t123 a0_1).bind fun t124 => (some (t124, 0))) = some (r1, r2) := H
    have A4 := Aside0.mk A40
    clear A40
    replace H := Option.bind_eq_some_iff.mp H
    obtain ⟨t124, A50, H⟩ := H
    replace H : (some (t124, 0)) = some (r1, r2) := H
    have A5 := Aside0.mk A50
    clear A50
    simp only [Option.some.injEq, Prod.mk.injEq] at H
    obtain ⟨rfl, rfl⟩ := H
    go_enter Try.func21, Try.ntmps21
    (go_wp2_with (first | ((with_reducible refine gate_dst (N := 1) rfl ?_); refine box_event ?hg (N := 1) ?hd (cs := #[.int .i64 a0_0, .string a0_1]) (t := 55) ?hr ?_; (case hd => rfl); (case hg => rfl); (case hr => (go_simp; done)); intro gb121 hg w6 hbox hb; have n0_ := Aside0.mk (below_step HB.out hb); have n1_ := Aside0.mk (hbox); have n2_ := Aside0.mk ((by rw [hg]; exact (below_size HB.out) : w.heap.size ≤ gb121)); have n3_ := Aside0.mk ((by rw [hg]; exact (below_size HB.out) : w.heap.size ≤ gb121)); clear HB; have HB := n0_; have BK121 := n1_; have GW121 := n2_; have GE121 := n3_; clear n0_ n1_ n2_ n3_; clear hb hbox hg; have hcz7_0 : w6.cell? ⟨gb121, 0, none⟩ = some (.int .i64 a0_0) := (blk_cell BK121.out 0).trans rfl; have hcz7_1 : w6.cell? ⟨gb121, 1, none⟩ = some (.string a0_1) := (blk_cell BK121.out 1).trans rfl; have hfz7_0 := blk_frozen BK121.out 0; have hfz7_1 := blk_frozen BK121.out 1) | ((with_reducible refine gate_callee (f := 35) rfl ?_); refine goesL_ (some 5) rfl rfl Try.func35 (by kernel_rfl) rfl #[.agg #[.int .i64 a0_0, .string a0_1]] rfl (by ((simp only [List.map_toArray, List.map_cons, List.map_nil])); (rfl)) ?_; (with_reducible refine (seal_valid.calls a0_0 a0_1 true _ A2.out).mono ?_); rintro e w8 ⟨rfl, hb⟩; refine ⟨_, rfl, ?_⟩; have n0_ := Aside0.mk (blk_below (g := gb121) (o := .cells #[.int .i64 a0_0, .string a0_1] 55 (0, 0)) (by exact BK121.out) hb); have n1_ := Aside0.mk (below_step HB.out hb); clear BK121 HB; have BK121 := n0_; have HB := n1_; clear n0_ n1_; clear hb)))
    have n0_ := Aside0.mk (blk_drew BK121.out)
    have n1_ := Aside0.mk (below_drew1 HB.out)
    clear BK121 HB
    have BK121 := n0_
    have HB := n1_
    clear n0_ n1_
    refine start_ (n := 8) (S := fun w' => w'.cell? ⟨gb121, 0, none⟩ = some (.int .i64 a0_0) ∧ w'.cell? ⟨gb121, 1, none⟩ = some (.string a0_1)) (ds := []) #[false, false, false, false, false, false, false, false] (by kernel_rfl) rfl rfl ⟨(blk_cell BK121.out 0).trans rfl, (blk_cell BK121.out 1).trans rfl⟩ (fun hHeld => ?_); refine with_tabW seal_Encode.tab3 seal_Encode.bits3 (fun HT_ HW_ => ?_)
    generalize w8.drew = w9 at BK121 HB hHeld ⊢
    refine pure_ (i := 0) (N := some 7) (v := ?_) (a' := ?_) #[true, false, false, false, false, false, false, false] rfl rfl (any_of HT_.out (by kernel_rfl)) (fun _ _ _ h => h) (Or.inl ⟨by rfl, ?_⟩) ?_ ?_
    rotate_left
    · intro w'
      go_simp
      with_reducible rfl
    rotate_left
    · simp only [Act.put, List.setIfInBounds_toArray, List.set_cons_zero, List.set_cons_succ, i64_w, i32_w]
      rfl
    refine pure_ (i := 3) (N := some 10) (v := ?_) (a' := ?_) #[true, false, false, true, false, false, false, false] rfl rfl (any_of HT_.out (by kernel_rfl)) (fun _ _ _ h => h) (Or.inl ⟨by rfl, ?_⟩) ?_ ?_
    rotate_left
    · intro w'
      go_simp
      with_reducible rfl
    rotate_left
    · simp only [Act.put, List.setIfInBounds_toArray, List.set_cons_zero, List.set_cons_succ, i64_w, i32_w]
      rfl
    refine take_ (i := 1) (N := some 8) (v := ?_) (a' := ?_) #[true, true, false, true, false, false, false, false] rfl rfl (take_ofW HT_.out HW_.out (by kernel_rfl)) (fun _ _ _ h => h) (Or.inl ⟨by rfl, ?_⟩) hHeld ?_ ?_
    rotate_left
    · rintro w' ⟨s0, s1⟩
      go_simp
      with_reducible rfl
    rotate_left
    · simp only [Act.put, List.setIfInBounds_toArray, List.set_cons_zero, List.set_cons_succ, i64_w, i32_w]
      rfl
    refine take_ (i := 4) (N := some 11) (v := ?_) (a' := ?_) #[true, true, false, true, true, false, false, false] rfl rfl (take_ofW HT_.out HW_.out (by kernel_rfl)) (fun _ _ _ h => h) (Or.inl ⟨by rfl, ?_⟩) hHeld ?_ ?_
    rotate_left
    · rintro w' ⟨s0, s1⟩
      go_simp
      with_reducible rfl
    rotate_left
    · simp only [Act.put, List.setIfInBounds_toArray, List.set_cons_zero, List.set_cons_succ, i64_w, i32_w]
      rfl
    refine one_ (i := 2) (N := some 9) #[true, true, true, true, true, false, false, false] rfl rfl (one_of HT_.out (by kernel_rfl)) (by decide) (fun K hK => ?_)
    refine goes_ Try.func37 (by kernel_rfl) rfl #[.string (⟨#[]⟩ : ByteArray), .int .i64 a0_0] (by rfl) rfl rfl (by ((simp only [List.map_toArray, List.map_cons, List.map_nil])); (rfl)) ?_
    with_reducible refine (wire_PutInt.calls (⟨#[]⟩ : ByteArray) a0_0 t123 _ A4.out).mono ?_
    rintro e w10 ⟨rfl, hb⟩
    refine ⟨_, rfl, ?_⟩
    have n0_ := Aside0.mk (blk_below (g := gb121) (o := .cells #[.int .i64 a0_0, .string a0_1] 55 (0, 0)) (by exact BK121.out) hb)
    have n1_ := Aside0.mk (below_step HB.out hb)
    clear BK121 HB
    have BK121 := n0_
    have HB := n1_
    clear n0_ n1_
    ((clear hb))
    refine hK.out _ _ ⟨(blk_cell BK121.out 0).trans rfl, (blk_cell BK121.out 1).trans rfl⟩ (fun hHeld => ?_)
    clear hK K
    refine norm_ (a' := ?_) ?_ ?_
    rotate_left
    · show Act.put _ (some 9) _ = _
      simp only [Act.put, List.setIfInBounds_toArray, List.set_cons_zero, List.set_cons_succ, i64_w, i32_w]
      rfl
    refine one_ (i := 5) (N := some 12) #[true, true, true, true, true, true, false, false] rfl rfl (one_of HT_.out (by kernel_rfl)) (by decide) (fun K hK => ?_)
    refine goes_ Try.func36 (by kernel_rfl) rfl #[.string t123, .string a0_1] (by rfl) rfl rfl (by ((simp only [List.map_toArray, List.map_cons, List.map_nil])); (rfl)) ?_
    with_reducible refine (wire_PutText.calls t123 a0_1 t124 _ A5.out).mono ?_
    rintro e w11 ⟨rfl, hb⟩
    refine ⟨_, rfl, ?_⟩
    have n0_ := Aside0.mk (blk_below (g := gb121) (o := .cells #[.int .i64 a0_0, .string a0_1] 55 (0, 0)) (by exact BK121.out) hb)
    have n1_ := Aside0.mk (below_step HB.out hb)
    clear BK121 HB
    have BK121 := n0_
    have HB := n1_
    clear n0_ n1_
    ((clear hb))
    refine hK.out _ _ ⟨(blk_cell BK121.out 0).trans rfl, (blk_cell BK121.out 1).trans rfl⟩ (fun hHeld => ?_)
    clear hK K
    refine norm_ (a' := ?_) ?_ ?_
    rotate_left
    · show Act.put _ (some 12) _ = _
      simp only [Act.put, List.setIfInBounds_toArray, List.set_cons_zero, List.set_cons_succ, i64_w, i32_w]
      rfl
    refine pure_ (i := 6) (N := some 2) (v := ?_) (a' := ?_) #[true, true, true, true, true, true, true, false] rfl rfl (any_of HT_.out (by kernel_rfl)) (fun _ _ _ h => h) (Or.inl ⟨by rfl, ?_⟩) ?_ ?_
    rotate_left
    · intro w'
      go_simp
      with_reducible rfl
    rotate_left
    · simp only [Act.put, List.setIfInBounds_toArray, List.set_cons_zero, List.set_cons_succ, i64_w, i32_w]
      rfl
    refine pure_ (i := 7) (N := some 3) (v := ?_) (a' := ?_) #[true, true, true, true, true, true, true, true] rfl rfl (any_of HT_.out (by kernel_rfl)) (fun _ _ _ h => h) (Or.inl ⟨by rfl, ?_⟩) ?_ ?_
    rotate_left
    · intro w'
      go_simp
      with_reducible rfl
    rotate_left
    · simp only [Act.put, List.setIfInBounds_toArray, List.set_cons_zero, List.set_cons_succ, i64_w, i32_w]
      rfl
    refine done_ (done_of HT_.out (by kernel_rfl)) ?_
    (go_wp2)
    go_ret2
    exact ⟨by (rfl), HB.out⟩
  · replace c3 := Bool.eq_false_iff.mpr c3
    subst c3
    have H1 : (none) = some (r1, r2) := by rw [if_neg (show ¬ (false = true) by decide)] at H; exact H
    clear H
    have H := H1
    clear H1
    exact absurd H (by simp)

end Go.Proofs.Ythfddndmhjkeiaa.L
end
section
-- Printed for this claim by a small program of the session's own, drv.py, round the kit's print.py. Lean checks it.
namespace Go.Proofs.Ythfddndmhjkeiaa.L
open Go.RowKit Go.Proofs.YthfddndmhjkeiaaW.PrintWords Go.Proofs.YthfddndmhjkeiaaW.PrintLast Go.Proofs.YthfddndmhjkeiaaW.PrintMore
attribute [local go_sem] max2_int min2_int max_two min_two max_three min_three max_four min_four   -- for this text's walks alone
set_option linter.unusedVariables false
set_option linter.unusedSimpArgs false

/-! ### stripe_Make: function 12 -/
def stripe_Make.l0 : Nat → List (S41) → List (S41) → Int → Int → Int → Int → Int → List Int → Option (Int × Int × Int × List Int × (List (S41)) × Int)
  | 0, _, _, _, _, _, _, _, _ => none
  | k + 1, x13, x56, x57, x58, x215000, x215001, x215002, x215003 => if x58 < x57 then (if 0 ≤ x58 then (if x58 < (x56.length : Int) then ((digest_Sum.f k ((rd_T41 x56 x58).f1)).bind fun t217 => (if x215003.length < 17592186044416 then (stripe_Make.l0 k x13 x56 x57 (wrap64 (x58 + 1)) x215000 x215001 x215002 (x215003 ++ [t217])) else (none))) else (none)) else (none)) else (some (x215000, x215001, x215002, x215003, x13, 0))
def stripe_Make.f (k : Nat) (a0_0 : Int) (a0_1 : Int) (a1 : ByteArray) (a2 : Int) : Option (Int × Int × Int × List Int × (List (S41)) × Int) := (erasure_Check.f a0_0 a0_1).bind fun t203 => (if t203 = 0 then ((seal_Seal.f a1 a2).bind fun bt204 => (if bt204.2.2 = 0 then ((seal_Encode.f bt204.1 bt204.2.1).bind fun bt208 => (if bt208.2 = 0 then ((erasure_Encode.f k a0_0 a0_1 bt208.1).bind fun bt210 => (if bt210.2 = 0 then (stripe_Make.l0 k bt210.1 bt210.1 (bt210.1.length : Int) 0 a0_0 a0_1 (bt208.1.size : Int) ([] : List Int)) else (none))) else (none))) else (none))) else (none))
theorem stripe_Make.mono_l : ∀ k, (∀ y0 y1 y2 y3 y4 y5 y6 y7, LeO (stripe_Make.l0 k y0 y1 y2 y3 y4 y5 y6 y7) (stripe_Make.l0 (k + 1) y0 y1 y2 y3 y4 y5 y6 y7))
  | 0 => fun _ _ _ _ _ _ _ _ r h => by simp [stripe_Make.l0] at h
  | k + 1 => by
    have ih0 := stripe_Make.mono_l k
    · intro y0 y1 y2 y3 y4 y5 y6 y7
      unfold stripe_Make.l0
      repeat' first | (with_reducible exact ih0 _ _ _ _ _ _ _ _) | (with_reducible exact digest_Sum.mono _ _) | (with_reducible exact LeO.refl _) | (with_reducible refine LeO.ite ?_ ?_) | (with_reducible refine LeO.bind ?_ (fun _ => ?_))
theorem stripe_Make.mono : ∀ a0 a1 a2 a3 k, LeO (stripe_Make.f k a0 a1 a2 a3) (stripe_Make.f (k + 1) a0 a1 a2 a3) := by
  intro a0 a1 a2 a3 k
  have ih0 := stripe_Make.mono_l k
  unfold stripe_Make.f
  repeat' first | (with_reducible exact ih0 _ _ _ _ _ _ _ _) | (with_reducible exact erasure_Encode.mono _ _ _ _) | (with_reducible exact LeO.refl _) | (with_reducible refine LeO.ite ?_ ?_) | (with_reducible refine LeO.bind ?_ (fun _ => ?_))
def stripe_Make.T17 : Bool × List (List Nat × List Nat) := (true, [([], []), ([0], [0]), ([], []), ([2], [2]), ([3], [3]), ([4], [4]), ([1, 5, 4], [1, 5]), ([0, 1, 2, 3, 4, 5, 6], []), ([7, 6, 6, 0, 1, 2, 3, 4, 5, 6], [6, 7])])
def stripe_Make.B17 : List Nat := [0, 1, 0, 4, 12, 28, 63, 127, 255]
theorem stripe_Make.tab17 : rtab .any (opsOf Try.f12 17) = stripe_Make.T17 := by kernel_rfl
theorem stripe_Make.bits17 : waitsOk stripe_Make.T17.2 stripe_Make.B17 = true := by kernel_rfl
set_option maxHeartbeats 8000000 in
set_option maxRecDepth 100000 in
theorem stripe_Make.calls (k : Nat) (a0_0 : Int) (a0_1 : Int) (a1 : ByteArray) (a2 : Int) (r1 : Int) (r2 : Int) (r3 : Int) (r4 : List Int) (r5 : List (S41)) (r6 : Int) (w : World) (h : stripe_Make.f k a0_0 a0_1 a1 a2 = some (r1, r2, r3, r4, r5, r6)) :
    Calls Try.prog 12 #[.agg #[.int .i64 a0_0, .int .i64 a0_1], .string a1, .int .i64 a2] w fun e w' => ∃ v3_ v4_ : Value, e = .returned (.tuple #[.agg #[.int .i64 r1, .int .i64 r2, .int .i64 r3, v3_], v4_, .int .i64 r6]) ∧ Kd.R (Kd.int .i64) 3 w' w.heap.size (fun _ => True) v3_ r4 ∧ Kd.R k41 41 w' w.heap.size (fun _ => True) v4_ r5 ∧ Below w.heap.size w w' := by
  have hu30 := Try.underlying30
  have hu34 := Try.underlying34
  have hu55 := Try.underlying55
  have hu41 := Try.underlying41
  have HB := Aside0.mk (Below.refl w.heap.size w)
  have H : ((erasure_Check.f a0_0 a0_1).bind fun t203 => (if t203 = 0 then ((seal_Seal.f a1 a2).bind fun bt204 => (if bt204.2.2 = 0 then ((seal_Encode.f bt204.1 bt204.2.1).bind fun bt208 => (if bt208.2 = 0 then ((erasure_Encode.f k a0_0 a0_1 bt208.1).bind fun bt210 => (if bt210.2 = 0 then (stripe_Make.l0 k bt210.1 bt210.1 (bt210.1.length : Int) 0 a0_0 a0_1 (bt208.1.size : Int) ([] : List Int)) else (none))) else (none))) else (none))) else (none))) = some (r1, r2, r3, r4, r5, r6) := h
  clear h
  replace H := Option.bind_eq_some_iff.mp H
  obtain ⟨t203, A40, H⟩ := H
  replace H : (if t203 = 0 then ((seal_Seal.f a1 a2).bind fun bt204 => (if bt204.2.2 = 0 then ((seal_Encode.f bt204.1 bt204.2.1).bind fun bt208 => (if bt208.2 = 0 then ((erasure_Encode.f k a0_0 a0_1 bt208.1).bind fun bt210 => (if bt210.2 = 0 then (stripe_Make.l0 k bt210.1 bt210.1 (bt210.1.length : Int) 0 a0_0 a0_1 (bt208.1.size : Int) ([] : List Int)) else (none))) else (none))) else (none))) else (none)) = some (r1, r2, r3, r4, r5, r6) := H
  have A4 := Aside0.mk A40
  clear A40
  by_cases c5 : t203 = 0
  · rw [if_pos c5] at H
    have c5b0 : (t203 == 0) = true := beq_iff_eq.mpr c5
    have c5b1 : (t203 != 0) = false := bne_eq_false_iff_eq.mpr c5
    clear c5
    replace H := Option.bind_eq_some_iff.mp H
    obtain ⟨⟨t204, t205, t206⟩, A60, H⟩ := H
    replace H : (if t206 = 0 then ((seal_Encode.f t204 t205).bind fun bt208 => (if bt208.2 = 0 then ((erasure_Encode.f k a0_0 a0_1 bt208.1).bind fun bt210 => (if bt210.2 = 0 then (stripe_Make.l0 k bt210.1 bt210.1 (bt210.1.length : Int) 0 a0_0 a0_1 (bt208.1.size : Int) ([] : List Int)) else (none))) else (none))) else (none)) = some (r1, r2, r3, r4, r5, r6) := H
    have A6 := Aside0.mk A60
    clear A60
    by_cases c7 : t206 = 0
    · rw [if_pos c7] at H
      have c7b0 : (t206 == 0) = true := beq_iff_eq.mpr c7
      have c7b1 : (t206 != 0) = false := bne_eq_false_iff_eq.mpr c7
      clear c7
      replace H := Option.bind_eq_some_iff.mp H
      obtain ⟨⟨t208, t209⟩, A80, H⟩ := H
      replace H : (if t209 = 0 then ((erasure_Encode.f k a0_0 a0_1 t208).bind fun bt210 => (if bt210.2 = 0 then (stripe_Make.l0 k bt210.1 bt210.1 (bt210.1.length : Int) 0 a0_0 a0_1 (t208.size : Int) ([] : List Int)) else (none))) else (none)) = some (r1, r2, r3, r4, r5, r6) := H
      have A8 := Aside0.mk A80
      clear A80
      by_cases c9 : t209 = 0
      · rw [if_pos c9] at H
        have c9b0 : (t209 == 0) = true := beq_iff_eq.mpr c9
        have c9b1 : (t209 != 0) = false := bne_eq_false_iff_eq.mpr c9
        clear c9
        replace H := Option.bind_eq_some_iff.mp H
        obtain ⟨⟨t210, t213⟩, A100, H⟩ := H
        replace H : (if t213 = 0 then (stripe_Make.l0 k t210 t210 (t210.length : Int) 0 a0_0 a0_1 (t208.size : Int) ([] : List Int)) else (none)) = some (r1, r2, r3, r4, r5, r6) := H
        have A10 := Aside0.mk A100
        clear A100
        by_cases c11 : t213 = 0
        · rw [if_pos c11] at H
          have c11b0 : (t213 == 0) = true := beq_iff_eq.mpr c11
          have c11b1 : (t213 != 0) = false := bne_eq_false_iff_eq.mpr c11
          clear c11
          have H' := Aside0.mk H
          clear H
          go_enter Try.func12, Try.ntmps12
          go_wp2_with (first | ((with_reducible refine gate_dst (N := 3) rfl ?_); refine box_event ?hg (N := 3) ?hd (cs := #[.int .i64 a0_0, .int .i64 a0_1]) (t := 30) ?hr ?_; (case hd => rfl); (case hg => rfl); (case hr => (go_simp; done)); intro gb201 hg w12 hbox hb; have n0_ := Aside0.mk (below_step HB.out hb); have n1_ := Aside0.mk (hbox); have n2_ := Aside0.mk ((by rw [hg]; exact (below_size HB.out) : w.heap.size ≤ gb201)); have n3_ := Aside0.mk ((by rw [hg]; exact (below_size HB.out) : w.heap.size ≤ gb201)); clear HB; have HB := n0_; have BK201 := n1_; have GW201 := n2_; have GE201 := n3_; clear n0_ n1_ n2_ n3_; clear hb hbox hg) | ((with_reducible refine gate_dst (N := 6) rfl ?_); refine box_event ?hg (N := 6) ?hd (cs := #[.int .i64 0, .int .i64 0, .int .i64 0, .slice none 0 0]) (t := 34) ?hr ?_; (case hd => rfl); (case hg => rfl); (case hr => (go_simp; done)); intro gb202 hg w13 hbox hb; have n0_ := Aside0.mk (blk_below (g := gb201) (o := .cells #[.int .i64 a0_0, .int .i64 a0_1] 30 (0, 0)) (by exact BK201.out) hb); have n1_ := Aside0.mk (below_step HB.out hb); have n2_ := Aside0.mk (hbox); have n3_ := Aside0.mk ((by rw [hg]; exact (below_size HB.out) : w.heap.size ≤ gb202)); have n4_ := Aside0.mk ((by rw [hg]; exact (below_size HB.out) : w.heap.size ≤ gb202)); have n5_ := Aside0.mk ((by rw [hg]; exact Nat.ne_of_lt (blk_lt (g := gb201) (o := .cells #[.int .i64 a0_0, .int .i64 a0_1] 30 (0, 0)) (by exact BK201.out)) : gb201 ≠ gb202)); have n6_ := Aside0.mk ((by rw [hg]; exact Nat.ne_of_gt (blk_lt (g := gb201) (o := .cells #[.int .i64 a0_0, .int .i64 a0_1] 30 (0, 0)) (by exact BK201.out)) : gb202 ≠ gb201)); clear BK201 HB; have BK201 := n0_; have HB := n1_; have BK202 := n2_; have GW202 := n3_; have GE202 := n4_; have NB201_202 := n5_; have NB202_201 := n6_; clear n0_ n1_ n2_ n3_ n4_ n5_ n6_; clear hb hbox hg; have hnb14 := NB201_202.out; have hnc14 := NB202_201.out; have hcz15_0 : w13.cell? ⟨gb201, 0, none⟩ = some (.int .i64 a0_0) := (blk_cell BK201.out 0).trans rfl; have hcz15_1 : w13.cell? ⟨gb201, 1, none⟩ = some (.int .i64 a0_1) := (blk_cell BK201.out 1).trans rfl; have hfz15_0 := blk_frozen BK201.out 0; have hfz15_1 := blk_frozen BK201.out 1) | ((with_reducible refine gate_callee (f := 19) rfl ?_); refine goesL_ (some 18) rfl rfl Try.func19 (by kernel_rfl) rfl #[.agg #[.int .i64 a0_0, .int .i64 a0_1]] rfl (by ((simp only [List.map_toArray, List.map_cons, List.map_nil])); (rfl)) ?_; (with_reducible refine (erasure_Check.calls a0_0 a0_1 t203 _ A4.out).mono ?_); rintro e w16 ⟨rfl, hb⟩; refine ⟨_, rfl, ?_⟩; have n0_ := Aside0.mk (blk_below (g := gb201) (o := .cells #[.int .i64 a0_0, .int .i64 a0_1] 30 (0, 0)) (by exact BK201.out) hb); have n1_ := Aside0.mk (blk_below (g := gb202) (o := .cells #[.int .i64 0, .int .i64 0, .int .i64 0, .slice none 0 0] 34 (0, 0)) (by exact BK202.out) hb); have n2_ := Aside0.mk (below_step HB.out hb); clear BK201 BK202 HB; have BK201 := n0_; have BK202 := n1_; have HB := n2_; clear n0_ n1_ n2_; clear hb) | ((with_reducible refine gate_callee (f := 20) rfl ?_); refine goesL_ (some 26) rfl rfl Try.func20 (by kernel_rfl) rfl #[.string a1, .int .i64 a2] rfl (by ((simp only [List.map_toArray, List.map_cons, List.map_nil])); (rfl)) ?_; (with_reducible refine (seal_Seal.calls a1 a2 t204 t205 t206 _ A6.out).mono ?_); rintro e w17 ⟨rfl, hb⟩; refine ⟨_, rfl, ?_⟩; have n0_ := Aside0.mk (blk_below (g := gb201) (o := .cells #[.int .i64 a0_0, .int .i64 a0_1] 30 (0, 0)) (by exact BK201.out) hb); have n1_ := Aside0.mk (blk_below (g := gb202) (o := .cells #[.int .i64 0, .int .i64 0, .int .i64 0, .slice none 0 0] 34 (0, 0)) (by exact BK202.out) hb); have n2_ := Aside0.mk (below_step HB.out hb); clear BK201 BK202 HB; have BK201 := n0_; have BK202 := n1_; have HB := n2_; clear n0_ n1_ n2_; clear hb) | ((with_reducible refine gate_dst (N := 10) rfl ?_); refine box_event ?hg (N := 10) ?hd (cs := #[.int .i64 0, .string (⟨#[]⟩ : ByteArray)]) (t := 55) ?hr ?_; (case hd => rfl); (case hg => rfl); (case hr => (go_simp; done)); intro gb207 hg w18 hbox hb; have n0_ := Aside0.mk (blk_below (g := gb201) (o := .cells #[.int .i64 a0_0, .int .i64 a0_1] 30 (0, 0)) (by exact BK201.out) hb); have n1_ := Aside0.mk (blk_below (g := gb202) (o := .cells #[.int .i64 0, .int .i64 0, .int .i64 0, .slice none 0 0] 34 (0, 0)) (by exact BK202.out) hb); have n2_ := Aside0.mk (below_step HB.out hb); have n3_ := Aside0.mk (hbox); have n4_ := Aside0.mk ((by rw [hg]; exact (below_size HB.out) : w.heap.size ≤ gb207)); have n5_ := Aside0.mk ((by rw [hg]; exact (below_size HB.out) : w.heap.size ≤ gb207)); have n6_ := Aside0.mk ((by rw [hg]; exact Nat.ne_of_lt (blk_lt (g := gb201) (o := .cells #[.int .i64 a0_0, .int .i64 a0_1] 30 (0, 0)) (by exact BK201.out)) : gb201 ≠ gb207)); have n7_ := Aside0.mk ((by rw [hg]; exact Nat.ne_of_gt (blk_lt (g := gb201) (o := .cells #[.int .i64 a0_0, .int .i64 a0_1] 30 (0, 0)) (by exact BK201.out)) : gb207 ≠ gb201)); have n8_ := Aside0.mk ((by rw [hg]; exact Nat.ne_of_lt (blk_lt (g := gb202) (o := .cells #[.int .i64 0, .int .i64 0, .int .i64 0, .slice none 0 0] 34 (0, 0)) (by exact BK202.out)) : gb202 ≠ gb207)); have n9_ := Aside0.mk ((by rw [hg]; exact Nat.ne_of_gt (blk_lt (g := gb202) (o := .cells #[.int .i64 0, .int .i64 0, .int .i64 0, .slice none 0 0] 34 (0, 0)) (by exact BK202.out)) : gb207 ≠ gb202)); clear BK201 BK202 HB; have BK201 := n0_; have BK202 := n1_; have HB := n2_; have BK207 := n3_; have GW207 := n4_; have GE207 := n5_; have NB201_207 := n6_; have NB207_201 := n7_; have NB202_207 := n8_; have NB207_202 := n9_; clear n0_ n1_ n2_ n3_ n4_ n5_ n6_ n7_ n8_ n9_; clear hb hbox hg; have hnb19 := NB207_201.out; have hnc19 := NB201_207.out; have hnb20 := NB207_202.out; have hnc20 := NB202_207.out; have hcz21_0 : w18.cell? ⟨gb207, 0, none⟩ = some (.int .i64 0) := (blk_cell BK207.out 0).trans rfl; have hcz21_1 : w18.cell? ⟨gb207, 1, none⟩ = some (.string (⟨#[]⟩ : ByteArray)) := (blk_cell BK207.out 1).trans rfl; have hfz21_0 := blk_frozen BK207.out 0; have hfz21_1 := blk_frozen BK207.out 1) | ((with_reducible refine gate_callee (f := 21) rfl ?_); refine goesL_ (some 35) rfl rfl Try.func21 (by kernel_rfl) rfl #[.agg #[.int .i64 t204, .string t205]] rfl (by ((simp only [List.map_toArray, List.map_cons, List.map_nil])); (rfl)) ?_; (with_reducible refine (seal_Encode.calls t204 t205 t208 t209 _ A8.out).mono ?_); rintro e w22 ⟨rfl, hb⟩; refine ⟨_, rfl, ?_⟩; have n0_ := Aside0.mk (blk_below (g := gb201) (o := .cells #[.int .i64 a0_0, .int .i64 a0_1] 30 (0, 0)) (by refine blk_far ?_ NB201_207.out _; refine blk_far ?_ NB201_207.out _; exact BK201.out) hb); have n1_ := Aside0.mk (blk_below (g := gb202) (o := .cells #[.int .i64 0, .int .i64 0, .int .i64 0, .slice none 0 0] 34 (0, 0)) (by refine blk_far ?_ NB202_207.out _; refine blk_far ?_ NB202_207.out _; exact BK202.out) hb); have n2_ := Aside0.mk (blk_below (g := gb207) (o := .cells #[.int .i64 t204, .string t205] 55 (0, 0)) (by refine blk_put (cs := #[.int .i64 t204, .string (⟨#[]⟩ : ByteArray)]) ?_ 1 _ rfl; refine blk_put (cs := #[.int .i64 0, .string (⟨#[]⟩ : ByteArray)]) ?_ 0 _ rfl; exact BK207.out) hb); have n3_ := Aside0.mk (below_step (by repeat ((with_reducible first | exact HB.out | refine below_set ?_ GE207.out))) hb); clear BK201 BK202 BK207 HB; have BK201 := n0_; have BK202 := n1_; have BK207 := n2_; have HB := n3_; clear n0_ n1_ n2_ n3_; clear hb; have hcz23_0 : w22.cell? ⟨gb201, 0, none⟩ = some (.int .i64 a0_0) := (blk_cell BK201.out 0).trans rfl; have hcz23_1 : w22.cell? ⟨gb201, 1, none⟩ = some (.int .i64 a0_1) := (blk_cell BK201.out 1).trans rfl; have hfz23_0 := blk_frozen BK201.out 0; have hfz23_1 := blk_frozen BK201.out 1) | ((with_reducible refine gate_callee (f := 22) rfl ?_); refine goesL_ (some 45) rfl rfl Try.func22 (by kernel_rfl) rfl #[.agg #[.int .i64 a0_0, .int .i64 a0_1], .string t208] rfl (by ((simp only [List.map_toArray, List.map_cons, List.map_nil])); (rfl)) ?_; (with_reducible refine (erasure_Encode.calls k a0_0 a0_1 t208 t210 t213 _ A10.out).mono ?_); rintro e w24 ⟨v211, rfl, ho0, hb⟩; refine ⟨_, rfl, ?_⟩; have n0_ := Aside0.mk (Kd.R_lower ho0 (below_size HB.out)); have n1_ := Aside0.mk (blk_below (g := gb201) (o := .cells #[.int .i64 a0_0, .int .i64 a0_1] 30 (0, 0)) (by exact BK201.out) hb); have n2_ := Aside0.mk (blk_below (g := gb202) (o := .cells #[.int .i64 0, .int .i64 0, .int .i64 0, .slice none 0 0] 34 (0, 0)) (by exact BK202.out) hb); have n3_ := Aside0.mk (blk_below (g := gb207) (o := .cells #[.int .i64 t204, .string t205] 55 (0, 0)) (by exact BK207.out) hb); have n4_ := Aside0.mk (below_step HB.out hb); clear BK201 BK202 BK207 HB; have HO212 := n0_; have BK201 := n1_; have BK202 := n2_; have BK207 := n3_; have HB := n4_; clear n0_ n1_ n2_ n3_ n4_; clear hb; clear ho0; have hcz25_0 : w24.cell? ⟨gb201, 0, none⟩ = some (.int .i64 a0_0) := (blk_cell BK201.out 0).trans rfl; have hcz25_1 : w24.cell? ⟨gb201, 1, none⟩ = some (.int .i64 a0_1) := (blk_cell BK201.out 1).trans rfl; have hfz25_0 := blk_frozen BK201.out 0; have hfz25_1 := blk_frozen BK201.out 1) | ((with_reducible refine gate_dst (N := 14) rfl ?_); refine box_event ?hg (N := 14) ?hd (cs := #[.int .i64 0, .int .i64 0, .int .i64 0, .slice none 0 0]) (t := 34) ?hr ?_; (case hd => rfl); (case hg => rfl); (case hr => (go_simp; done)); intro gb214 hg w26 hbox hb; have n0_ := Aside0.mk (Kd.R_below (by exact HO212.out) hb); have n1_ := Aside0.mk (blk_below (g := gb201) (o := .cells #[.int .i64 a0_0, .int .i64 a0_1] 30 (0, 0)) (by exact BK201.out) hb); have n2_ := Aside0.mk (blk_below (g := gb202) (o := .cells #[.int .i64 0, .int .i64 0, .int .i64 0, .slice none 0 0] 34 (0, 0)) (by exact BK202.out) hb); have n3_ := Aside0.mk (blk_below (g := gb207) (o := .cells #[.int .i64 t204, .string t205] 55 (0, 0)) (by exact BK207.out) hb); have n4_ := Aside0.mk (below_step HB.out hb); have n5_ := Aside0.mk (hbox); have n6_ := Aside0.mk ((by rw [hg]; exact (below_size HB.out) : w.heap.size ≤ gb214)); have n7_ := Aside0.mk ((by rw [hg]; exact (below_size HB.out) : w.heap.size ≤ gb214)); have n8_ := Aside0.mk ((by rw [hg]; exact Nat.ne_of_lt (blk_lt (g := gb201) (o := .cells #[.int .i64 a0_0, .int .i64 a0_1] 30 (0, 0)) (by exact BK201.out)) : gb201 ≠ gb214)); have n9_ := Aside0.mk ((by rw [hg]; exact Nat.ne_of_gt (blk_lt (g := gb201) (o := .cells #[.int .i64 a0_0, .int .i64 a0_1] 30 (0, 0)) (by exact BK201.out)) : gb214 ≠ gb201)); have n10_ := Aside0.mk ((by rw [hg]; exact Nat.ne_of_lt (blk_lt (g := gb202) (o := .cells #[.int .i64 0, .int .i64 0, .int .i64 0, .slice none 0 0] 34 (0, 0)) (by exact BK202.out)) : gb202 ≠ gb214)); have n11_ := Aside0.mk ((by rw [hg]; exact Nat.ne_of_gt (blk_lt (g := gb202) (o := .cells #[.int .i64 0, .int .i64 0, .int .i64 0, .slice none 0 0] 34 (0, 0)) (by exact BK202.out)) : gb214 ≠ gb202)); have n12_ := Aside0.mk ((by rw [hg]; exact Nat.ne_of_lt (blk_lt (g := gb207) (o := .cells #[.int .i64 t204, .string t205] 55 (0, 0)) (by exact BK207.out)) : gb207 ≠ gb214)); have n13_ := Aside0.mk ((by rw [hg]; exact Nat.ne_of_gt (blk_lt (g := gb207) (o := .cells #[.int .i64 t204, .string t205] 55 (0, 0)) (by exact BK207.out)) : gb214 ≠ gb207)); clear HO212 BK201 BK202 BK207 HB; have HO212 := n0_; have BK201 := n1_; have BK202 := n2_; have BK207 := n3_; have HB := n4_; have BK214 := n5_; have GW214 := n6_; have GE214 := n7_; have NB201_214 := n8_; have NB214_201 := n9_; have NB202_214 := n10_; have NB214_202 := n11_; have NB207_214 := n12_; have NB214_207 := n13_; clear n0_ n1_ n2_ n3_ n4_ n5_ n6_ n7_ n8_ n9_ n10_ n11_ n12_ n13_; clear hb hbox hg; have hnb27 := NB214_201.out; have hnc27 := NB201_214.out; have hnb28 := NB214_202.out; have hnc28 := NB202_214.out; have hnb29 := NB214_207.out; have hnc29 := NB207_214.out; have hcz30_0 : w26.cell? ⟨gb214, 0, none⟩ = some (.int .i64 0) := (blk_cell BK214.out 0).trans rfl; have hcz30_1 : w26.cell? ⟨gb214, 1, none⟩ = some (.int .i64 0) := (blk_cell BK214.out 1).trans rfl; have hcz30_2 : w26.cell? ⟨gb214, 2, none⟩ = some (.int .i64 0) := (blk_cell BK214.out 2).trans rfl; have hcz30_3 : w26.cell? ⟨gb214, 3, none⟩ = some (.slice none 0 0) := (blk_cell BK214.out 3).trans rfl; have hfz30_0 := blk_frozen BK214.out 0; have hfz30_1 := blk_frozen BK214.out 1; have hfz30_2 := blk_frozen BK214.out 2; have hfz30_3 := blk_frozen BK214.out 3; obtain ⟨Ao31, co31, eo31⟩ := Kd.R_slice HO212.out; subst eo31))
          go_loopg [58] k (fun kq v58 w' => ∃ (x58_1 : Int) (x215003_1 : List Int) (u215003 : Value), v58 = .int .i64 x58_1 ∧ Aside0 (stripe_Make.l0 kq t210 t210 (t210.length : Int) x58_1 a0_0 a0_1 (t208.size : Int) x215003_1 = some (r1, r2, r3, r4, r5, r6)) ∧ Aside0 (kq ≤ k) ∧ Aside0 (Kd.R k41 41 w' w.heap.size (fun _ => True) (.slice Ao31 t210.length co31) t210) ∧ Aside0 (Kd.R k41 41 w' w.heap.size (fun _ => True) (.slice Ao31 t210.length co31) t210) ∧ Aside0 (Kd.R (Kd.int .i64) 3 w' w.heap.size (fun _ => True) u215003 x215003_1) ∧ Aside0 (w'.heap[gb201]? = some (.cells #[.int .i64 a0_0, .int .i64 a0_1] 30 (0, 0))) ∧ Aside0 (w'.heap[gb202]? = some (.cells #[.int .i64 0, .int .i64 0, .int .i64 0, (.slice none 0 0)] 34 (0, 0))) ∧ Aside0 (w'.heap[gb207]? = some (.cells #[.int .i64 t204, .string t205] 55 (0, 0))) ∧ Aside0 (w'.heap[gb214]? = some (.cells #[.int .i64 a0_0, .int .i64 a0_1, .int .i64 (t208.size : Int), u215003] 34 (0, 0))) ∧ Aside0 (Below w.heap.size w w'))
          case atStart => exact ⟨(0), (([] : List Int)), (.slice none 0 0), (by (rfl)), H', ⟨Nat.le_refl _⟩, ⟨by exact Kd.R_mono (Kd.R_far (p := ⟨gb214, 3, none⟩) (Kd.R_far (p := ⟨gb214, 2, none⟩) (Kd.R_far (p := ⟨gb214, 1, none⟩) (Kd.R_far (p := ⟨gb214, 0, none⟩) (Kd.R_types HO212.out BK214.out (by decide)) (fun _ hk => hk.2) (.int .i64 a0_0)) (fun _ hk => hk.2) (.int .i64 a0_1)) (fun _ hk => hk.2) (.int .i64 (t208.size : Int))) (fun _ hk => hk.2) (.slice none 0 0)) (fun _ hk => trivial)⟩, ⟨by exact Kd.R_mono (Kd.R_far (p := ⟨gb214, 3, none⟩) (Kd.R_far (p := ⟨gb214, 2, none⟩) (Kd.R_far (p := ⟨gb214, 1, none⟩) (Kd.R_far (p := ⟨gb214, 0, none⟩) (Kd.R_types HO212.out BK214.out (by decide)) (fun _ hk => hk.2) (.int .i64 a0_0)) (fun _ hk => hk.2) (.int .i64 a0_1)) (fun _ hk => hk.2) (.int .i64 (t208.size : Int))) (fun _ hk => hk.2) (.slice none 0 0)) (fun _ hk => trivial)⟩, ⟨by (exact Kd.R_nil _ _ _ _ _)⟩, ⟨by refine blk_far ?_ NB201_214.out _; refine blk_far ?_ NB201_214.out _; refine blk_far ?_ NB201_214.out _; refine blk_far ?_ NB201_214.out _; exact BK201.out⟩, ⟨by refine blk_far ?_ NB202_214.out _; refine blk_far ?_ NB202_214.out _; refine blk_far ?_ NB202_214.out _; refine blk_far ?_ NB202_214.out _; exact BK202.out⟩, ⟨by refine blk_far ?_ NB207_214.out _; refine blk_far ?_ NB207_214.out _; refine blk_far ?_ NB207_214.out _; refine blk_far ?_ NB207_214.out _; exact BK207.out⟩, ⟨by refine blk_put (cs := #[.int .i64 a0_0, .int .i64 a0_1, .int .i64 (t208.size : Int), .slice none 0 0]) ?_ 3 _ rfl; refine blk_put (cs := #[.int .i64 a0_0, .int .i64 a0_1, .int .i64 0, .slice none 0 0]) ?_ 2 _ rfl; refine blk_put (cs := #[.int .i64 a0_0, .int .i64 0, .int .i64 0, .slice none 0 0]) ?_ 1 _ rfl; refine blk_put (cs := #[.int .i64 0, .int .i64 0, .int .i64 0, .slice none 0 0]) ?_ 0 _ rfl; exact BK214.out⟩, ⟨by repeat ((with_reducible first | exact HB.out | refine below_set ?_ GE214.out))⟩⟩
          case round =>
            clear H'
            clear c5b0 c5b1 c7b0 c7b1 c9b0 c9b1 c11b0 c11b1 hcz15_0 hcz15_1 hcz21_0 hcz21_1 hcz23_0 hcz23_1 hcz25_0 hcz25_1 hcz30_0 hcz30_1 hcz30_2 hcz30_3 hfz15_0 hfz15_1 hfz21_0 hfz21_1 hfz23_0 hfz23_1 hfz25_0 hfz25_1 hfz30_0 hfz30_1 hfz30_2 hfz30_3
            obtain ⟨x58_1, x215003_1, u215003, rfl, HA, HK1, HO_13, HO_56, HO_215003, BK201, BK202, BK207, BK214, HB⟩ := hrel
            cases gk with
            | zero => exact absurd HA.out (by simp [stripe_Make.l0])
            | succ k1 =>
              have H := HA.out
              clear HA
              simp only [stripe_Make.l0] at H
              by_cases c32 : x58_1 < (t210.length : Int)
              · rw [if_pos c32] at H
                have c32b0 : decide (x58_1 < (t210.length : Int)) = true := decide_eq_true c32
                clear c32
                by_cases c33 : 0 ≤ x58_1
                · rw [if_pos c33] at H
                  have c33b0 : decide (0 ≤ x58_1) = true := decide_eq_true c33
                  clear c33
                  by_cases c34 : x58_1 < (t210.length : Int)
                  · rw [if_pos c34] at H
                    have c34b0 : decide (x58_1 < (t210.length : Int)) = true := decide_eq_true c34
                    clear c34
                    replace H := Option.bind_eq_some_iff.mp H
                    obtain ⟨t217, A350, H⟩ := H
                    replace H : (if x215003_1.length < 17592186044416 then (stripe_Make.l0 k1 t210 t210 (t210.length : Int) (wrap64 (x58_1 + 1)) a0_0 a0_1 (t208.size : Int) (x215003_1 ++ [t217])) else (none)) = some (r1, r2, r3, r4, r5, r6) := H
                    have A35 := Aside0.mk A350
                    clear A350
                    by_cases c36 : x215003_1.length < 17592186044416
                    · rw [if_pos c36] at H
                      have LMc36 := Aside0.mk c36
                      clear c36
                      obtain ⟨y218, hy218⟩ : ∃ y_ : List Int, y_ = (x215003_1 ++ [t217]) := ⟨_, rfl⟩
                      replace H : (stripe_Make.l0 k1 t210 t210 (t210.length : Int) (wrap64 (x58_1 + 1)) a0_0 a0_1 (t208.size : Int) y218) = some (r1, r2, r3, r4, r5, r6) := by (rw [hy218]; with_reducible exact H)
                      have Ny218 := Aside0.mk hy218
                      clear hy218
                      have H' := Aside0.mk H
                      clear H
                      have p215 : 0 ≤ (x58_1 : Int) := of_decide_eq_true (by (with_reducible assumption))
                      have q215 : x58_1 < (t210.length : Int) := of_decide_eq_true (by (with_reducible assumption))
                      obtain ⟨ad215, e215, hx215_0, hx215_1⟩ := at_T41 (Kd.R_reads' HO_56.out).2.2 x58_1 p215 q215
                      cases e215
                      replace p215 := eq_true p215
                      replace q215 := eq_true q215
                      (go_wp2_with (((with_reducible refine gate_dst (N := 16) rfl ?_); refine box_event ?hg (N := 16) ?hd (cs := #[.int .i64 0, .string (⟨#[]⟩ : ByteArray)]) (t := 41) ?hr ?_; (case hd => rfl); (case hg => rfl); (case hr => (go_simp; done)); intro gb216 hg w37 hbox hb; have n0_ := Aside0.mk (Kd.R_below (Kd.R_elderB (by exact HO_13.out) gb216 (Nat.le_of_eq hg.symm)) hb); have n1_ := Aside0.mk (Kd.R_below (Kd.R_elderB (by exact HO_56.out) gb216 (Nat.le_of_eq hg.symm)) hb); have n2_ := Aside0.mk (Kd.R_below (by exact HO_215003.out) hb); have n3_ := Aside0.mk (blk_below (g := gb201) (o := .cells #[.int .i64 a0_0, .int .i64 a0_1] 30 (0, 0)) (by exact BK201.out) hb); have n4_ := Aside0.mk (blk_below (g := gb202) (o := .cells #[.int .i64 0, .int .i64 0, .int .i64 0, .slice none 0 0] 34 (0, 0)) (by exact BK202.out) hb); have n5_ := Aside0.mk (blk_below (g := gb207) (o := .cells #[.int .i64 t204, .string t205] 55 (0, 0)) (by exact BK207.out) hb); have n6_ := Aside0.mk (blk_below (g := gb214) (o := .cells #[.int .i64 a0_0, .int .i64 a0_1, .int .i64 (t208.size : Int), u215003] 34 (0, 0)) (by exact BK214.out) hb); have n7_ := Aside0.mk (below_step HB.out hb); have n8_ := Aside0.mk (hbox); have n9_ := Aside0.mk ((by rw [hg]; exact (below_size HB.out) : w.heap.size ≤ gb216)); have n10_ := Aside0.mk ((by rw [hg]; exact (below_size HB.out) : w.heap.size ≤ gb216)); have n11_ := Aside0.mk ((by rw [hg]; exact Nat.ne_of_lt (blk_lt (g := gb201) (o := .cells #[.int .i64 a0_0, .int .i64 a0_1] 30 (0, 0)) (by exact BK201.out)) : gb201 ≠ gb216)); have n12_ := Aside0.mk ((by rw [hg]; exact Nat.ne_of_gt (blk_lt (g := gb201) (o := .cells #[.int .i64 a0_0, .int .i64 a0_1] 30 (0, 0)) (by exact BK201.out)) : gb216 ≠ gb201)); have n13_ := Aside0.mk ((by rw [hg]; exact Nat.ne_of_lt (blk_lt (g := gb202) (o := .cells #[.int .i64 0, .int .i64 0, .int .i64 0, .slice none 0 0] 34 (0, 0)) (by exact BK202.out)) : gb202 ≠ gb216)); have n14_ := Aside0.mk ((by rw [hg]; exact Nat.ne_of_gt (blk_lt (g := gb202) (o := .cells #[.int .i64 0, .int .i64 0, .int .i64 0, .slice none 0 0] 34 (0, 0)) (by exact BK202.out)) : gb216 ≠ gb202)); have n15_ := Aside0.mk ((by rw [hg]; exact Nat.ne_of_lt (blk_lt (g := gb207) (o := .cells #[.int .i64 t204, .string t205] 55 (0, 0)) (by exact BK207.out)) : gb207 ≠ gb216)); have n16_ := Aside0.mk ((by rw [hg]; exact Nat.ne_of_gt (blk_lt (g := gb207) (o := .cells #[.int .i64 t204, .string t205] 55 (0, 0)) (by exact BK207.out)) : gb216 ≠ gb207)); have n17_ := Aside0.mk ((by rw [hg]; exact Nat.ne_of_lt (blk_lt (g := gb214) (o := .cells #[.int .i64 a0_0, .int .i64 a0_1, .int .i64 (t208.size : Int), u215003] 34 (0, 0)) (by exact BK214.out)) : gb214 ≠ gb216)); have n18_ := Aside0.mk ((by rw [hg]; exact Nat.ne_of_gt (blk_lt (g := gb214) (o := .cells #[.int .i64 a0_0, .int .i64 a0_1, .int .i64 (t208.size : Int), u215003] 34 (0, 0)) (by exact BK214.out)) : gb216 ≠ gb214)); clear HO_13 HO_56 HO_215003 BK201 BK202 BK207 BK214 HB; have HO_13 := n0_; have HO_56 := n1_; have HO_215003 := n2_; have BK201 := n3_; have BK202 := n4_; have BK207 := n5_; have BK214 := n6_; have HB := n7_; have BK216 := n8_; have GW216 := n9_; have GE216 := n10_; have NB201_216 := n11_; have NB216_201 := n12_; have NB202_216 := n13_; have NB216_202 := n14_; have NB207_216 := n15_; have NB216_207 := n16_; have NB214_216 := n17_; have NB216_214 := n18_; clear n0_ n1_ n2_ n3_ n4_ n5_ n6_ n7_ n8_ n9_ n10_ n11_ n12_ n13_ n14_ n15_ n16_ n17_ n18_; clear hb hbox hg; have hnb38 := NB216_201.out; have hnc38 := NB201_216.out; have hnb39 := NB216_202.out; have hnc39 := NB202_216.out; have hnb40 := NB216_207.out; have hnc40 := NB207_216.out; have hnb41 := NB216_214.out; have hnc41 := NB214_216.out; have hcz42_0 : w37.cell? ⟨gb216, 0, none⟩ = some (.int .i64 0) := (blk_cell BK216.out 0).trans rfl; have hcz42_1 : w37.cell? ⟨gb216, 1, none⟩ = some (.string (⟨#[]⟩ : ByteArray)) := (blk_cell BK216.out 1).trans rfl; have hfz42_0 := blk_frozen BK216.out 0; have hfz42_1 := blk_frozen BK216.out 1)))
                      have n0_ : Aside0 (Kd.R k41 41 ((w37.setCell ⟨gb216, 0, none⟩ (.int .i64 ((rd_T41 t210 x58_1).f0))).setCell ⟨gb216, 1, none⟩ (.string ((rd_T41 t210 x58_1).f1))) w.heap.size (fun k_ => k_ ≠ gb216) (.slice (some ad215) t210.length co31) t210) := ⟨by exact Kd.R_mono (Kd.R_far (p := ⟨gb216, 1, none⟩) (Kd.R_far (p := ⟨gb216, 0, none⟩) (Kd.R_mono HO_13.out (fun k_ hk => (⟨hk, hk.2⟩ : _ ∧ k_ ≠ gb216))) (fun _ hk => hk.2) (.int .i64 ((rd_T41 t210 x58_1).f0))) (fun _ hk => hk.2) (.string ((rd_T41 t210 x58_1).f1))) (fun _ hk => hk.1.2)⟩
                      have n1_ : Aside0 (Kd.R k41 41 ((w37.setCell ⟨gb216, 0, none⟩ (.int .i64 ((rd_T41 t210 x58_1).f0))).setCell ⟨gb216, 1, none⟩ (.string ((rd_T41 t210 x58_1).f1))) w.heap.size (fun k_ => k_ ≠ gb216) (.slice (some ad215) t210.length co31) t210) := ⟨by exact Kd.R_mono (Kd.R_far (p := ⟨gb216, 1, none⟩) (Kd.R_far (p := ⟨gb216, 0, none⟩) (Kd.R_mono HO_56.out (fun k_ hk => (⟨hk, hk.2⟩ : _ ∧ k_ ≠ gb216))) (fun _ hk => hk.2) (.int .i64 ((rd_T41 t210 x58_1).f0))) (fun _ hk => hk.2) (.string ((rd_T41 t210 x58_1).f1))) (fun _ hk => hk.1.2)⟩
                      have n2_ : Aside0 (Kd.R (Kd.int .i64) 3 ((w37.setCell ⟨gb216, 0, none⟩ (.int .i64 ((rd_T41 t210 x58_1).f0))).setCell ⟨gb216, 1, none⟩ (.string ((rd_T41 t210 x58_1).f1))) w.heap.size (fun _ => True) u215003 x215003_1) := ⟨by exact Kd.R_mono (Kd.R_far (p := ⟨gb216, 1, none⟩) (Kd.R_far (p := ⟨gb216, 0, none⟩) (Kd.R_types HO_215003.out BK216.out (by decide)) (fun _ hk => hk.2) (.int .i64 ((rd_T41 t210 x58_1).f0))) (fun _ hk => hk.2) (.string ((rd_T41 t210 x58_1).f1))) (fun _ hk => trivial)⟩
                      have n3_ : Aside0 (((w37.setCell ⟨gb216, 0, none⟩ (.int .i64 ((rd_T41 t210 x58_1).f0))).setCell ⟨gb216, 1, none⟩ (.string ((rd_T41 t210 x58_1).f1))).heap[gb201]? = some (.cells #[.int .i64 a0_0, .int .i64 a0_1] 30 (0, 0))) := ⟨by refine blk_far ?_ NB201_216.out _; refine blk_far ?_ NB201_216.out _; exact BK201.out⟩
                      have n4_ : Aside0 (((w37.setCell ⟨gb216, 0, none⟩ (.int .i64 ((rd_T41 t210 x58_1).f0))).setCell ⟨gb216, 1, none⟩ (.string ((rd_T41 t210 x58_1).f1))).heap[gb202]? = some (.cells #[.int .i64 0, .int .i64 0, .int .i64 0, .slice none 0 0] 34 (0, 0))) := ⟨by refine blk_far ?_ NB202_216.out _; refine blk_far ?_ NB202_216.out _; exact BK202.out⟩
                      have n5_ : Aside0 (((w37.setCell ⟨gb216, 0, none⟩ (.int .i64 ((rd_T41 t210 x58_1).f0))).setCell ⟨gb216, 1, none⟩ (.string ((rd_T41 t210 x58_1).f1))).heap[gb207]? = some (.cells #[.int .i64 t204, .string t205] 55 (0, 0))) := ⟨by refine blk_far ?_ NB207_216.out _; refine blk_far ?_ NB207_216.out _; exact BK207.out⟩
                      have n6_ : Aside0 (((w37.setCell ⟨gb216, 0, none⟩ (.int .i64 ((rd_T41 t210 x58_1).f0))).setCell ⟨gb216, 1, none⟩ (.string ((rd_T41 t210 x58_1).f1))).heap[gb214]? = some (.cells #[.int .i64 a0_0, .int .i64 a0_1, .int .i64 (t208.size : Int), u215003] 34 (0, 0))) := ⟨by refine blk_far ?_ NB214_216.out _; refine blk_far ?_ NB214_216.out _; exact BK214.out⟩
                      have n7_ : Aside0 (((w37.setCell ⟨gb216, 0, none⟩ (.int .i64 ((rd_T41 t210 x58_1).f0))).setCell ⟨gb216, 1, none⟩ (.string ((rd_T41 t210 x58_1).f1))).heap[gb216]? = some (.cells #[.int .i64 ((rd_T41 t210 x58_1).f0), .string ((rd_T41 t210 x58_1).f1)] 41 (0, 0))) := ⟨by refine blk_put (cs := #[.int .i64 ((rd_T41 t210 x58_1).f0), .string (⟨#[]⟩ : ByteArray)]) ?_ 1 _ rfl; refine blk_put (cs := #[.int .i64 0, .string (⟨#[]⟩ : ByteArray)]) ?_ 0 _ rfl; exact BK216.out⟩
                      have n8_ : Aside0 (Below w.heap.size w ((w37.setCell ⟨gb216, 0, none⟩ (.int .i64 ((rd_T41 t210 x58_1).f0))).setCell ⟨gb216, 1, none⟩ (.string ((rd_T41 t210 x58_1).f1)))) := ⟨by repeat ((with_reducible first | exact HB.out | refine below_set ?_ GE216.out))⟩
                      ((clear HO_13))
                      ((clear HO_56))
                      ((clear HO_215003))
                      ((clear BK201))
                      ((clear BK202))
                      ((clear BK207))
                      ((clear BK214))
                      ((clear BK216))
                      ((clear HB))
                      generalize ((w37.setCell ⟨gb216, 0, none⟩ (.int .i64 ((rd_T41 t210 x58_1).f0))).setCell ⟨gb216, 1, none⟩ (.string ((rd_T41 t210 x58_1).f1))) = w43 at n0_ n1_ n2_ n3_ n4_ n5_ n6_ n7_ n8_ ⊢
                      have HO_13 := n0_
                      have HO_56 := n1_
                      have HO_215003 := n2_
                      have BK201 := n3_
                      have BK202 := n4_
                      have BK207 := n5_
                      have BK214 := n6_
                      have BK216 := n7_
                      have HB := n8_
                      clear n0_ n1_ n2_ n3_ n4_ n5_ n6_ n7_ n8_
                      have n0_ := Aside0.mk (Kd.R_drew HO_13.out)
                      have n1_ := Aside0.mk (Kd.R_drew HO_56.out)
                      have n2_ := Aside0.mk (Kd.R_drew HO_215003.out)
                      have n3_ := Aside0.mk (blk_drew BK201.out)
                      have n4_ := Aside0.mk (blk_drew BK202.out)
                      have n5_ := Aside0.mk (blk_drew BK207.out)
                      have n6_ := Aside0.mk (blk_drew BK214.out)
                      have n7_ := Aside0.mk (blk_drew BK216.out)
                      have n8_ := Aside0.mk (below_drew1 HB.out)
                      clear HO_13 HO_56 HO_215003 BK201 BK202 BK207 BK214 BK216 HB
                      have HO_13 := n0_
                      have HO_56 := n1_
                      have HO_215003 := n2_
                      have BK201 := n3_
                      have BK202 := n4_
                      have BK207 := n5_
                      have BK214 := n6_
                      have BK216 := n7_
                      have HB := n8_
                      clear n0_ n1_ n2_ n3_ n4_ n5_ n6_ n7_ n8_
                      refine start_ (n := 9) (S := fun w' => w'.cell? ⟨gb214, 0, none⟩ = some (.int .i64 a0_0) ∧ w'.cell? ⟨gb214, 1, none⟩ = some (.int .i64 a0_1) ∧ w'.cell? ⟨gb214, 2, none⟩ = some (.int .i64 (t208.size : Int)) ∧ w'.cell? ⟨gb214, 3, none⟩ = some (u215003) ∧ w'.cell? ⟨gb216, 0, none⟩ = some (.int .i64 ((rd_T41 t210 x58_1).f0)) ∧ w'.cell? ⟨gb216, 1, none⟩ = some (.string ((rd_T41 t210 x58_1).f1))) (ds := [8]) #[false, false, false, false, false, false, false, false, false] (by kernel_rfl) rfl rfl ⟨(blk_cell BK214.out 0).trans rfl, (blk_cell BK214.out 1).trans rfl, (blk_cell BK214.out 2).trans rfl, (blk_cell BK214.out 3).trans rfl, (blk_cell BK216.out 0).trans rfl, (blk_cell BK216.out 1).trans rfl⟩ (fun hHeld => ?_); refine with_tabW stripe_Make.tab17 stripe_Make.bits17 (fun HT_ HW_ => ?_)
                      generalize w43.drew = w44 at HO_13 HO_56 HO_215003 BK201 BK202 BK207 BK214 BK216 HB hHeld ⊢
                      refine pure_ (i := 0) (N := some 62) (v := ?_) (a' := ?_) #[true, false, false, false, false, false, false, false, false] rfl rfl (any_of HT_.out (by kernel_rfl)) (fun _ _ _ h => h) (Or.inl ⟨by rfl, ?_⟩) ?_ ?_
                      rotate_left
                      · intro w'
                        go_simp
                        with_reducible rfl
                      rotate_left
                      · simp only [Act.put, List.setIfInBounds_toArray, List.set_cons_zero, List.set_cons_succ, i64_w, i32_w]
                        rfl
                      refine pure_ (i := 2) (N := some 64) (v := ?_) (a' := ?_) #[true, false, true, false, false, false, false, false, false] rfl rfl (any_of HT_.out (by kernel_rfl)) (fun _ _ _ h => h) (Or.inl ⟨by rfl, ?_⟩) ?_ ?_
                      rotate_left
                      · intro w'
                        go_simp
                        with_reducible rfl
                      rotate_left
                      · simp only [Act.put, List.setIfInBounds_toArray, List.set_cons_zero, List.set_cons_succ, i64_w, i32_w]
                        rfl
                      refine take_ (i := 1) (N := some 63) (v := ?_) (a' := ?_) #[true, true, true, false, false, false, false, false, false] rfl rfl (take_ofW HT_.out HW_.out (by kernel_rfl)) (fun _ _ _ h => h) (Or.inl ⟨by rfl, ?_⟩) hHeld ?_ ?_
                      rotate_left
                      · rintro w' ⟨s0, s1, s2, s3, s4, s5⟩
                        go_simp
                        with_reducible rfl
                      rotate_left
                      · simp only [Act.put, List.setIfInBounds_toArray, List.set_cons_zero, List.set_cons_succ, i64_w, i32_w]
                        rfl
                      refine take_ (i := 3) (N := some 65) (v := ?_) (a' := ?_) #[true, true, true, true, false, false, false, false, false] rfl rfl (take_ofW HT_.out HW_.out (by kernel_rfl)) (fun _ _ _ h => h) (Or.inl ⟨by rfl, ?_⟩) hHeld ?_ ?_
                      rotate_left
                      · rintro w' ⟨s0, s1, s2, s3, s4, s5⟩
                        go_simp
                        with_reducible rfl
                      rotate_left
                      · simp only [Act.put, List.setIfInBounds_toArray, List.set_cons_zero, List.set_cons_succ, i64_w, i32_w]
                        rfl
                      refine one_ (i := 4) (N := some 66) #[true, true, true, true, true, false, false, false, false] rfl rfl (one_of HT_.out (by kernel_rfl)) (by decide) (fun K hK => ?_)
                      refine goes_ Try.func23 (by kernel_rfl) rfl #[.string ((rd_T41 t210 x58_1).f1)] (by rfl) rfl rfl (by ((simp only [List.map_toArray, List.map_cons, List.map_nil])); (rfl)) ?_
                      with_reducible refine (digest_Sum.calls k1 ((rd_T41 t210 x58_1).f1) t217 _ A35.out).mono ?_
                      rintro e w' ⟨rfl, ⟨nd, rfl⟩⟩
                      refine ⟨_, rfl, ?_⟩
                      refine hK.out _ _ ⟨(blk_cell BK214.out 0).trans rfl, (blk_cell BK214.out 1).trans rfl, (blk_cell BK214.out 2).trans rfl, (blk_cell BK214.out 3).trans rfl, (blk_cell BK216.out 0).trans rfl, (blk_cell BK216.out 1).trans rfl⟩ (fun hHeld => ?_)
                      clear hK K
                      refine norm_ (a' := ?_) ?_ ?_
                      rotate_left
                      · show Act.put _ (some 66) _ = _
                        simp only [Act.put, List.setIfInBounds_toArray, List.set_cons_zero, List.set_cons_succ, i64_w, i32_w]
                        rfl
                      refine one_ (i := 5) (N := some 67) #[true, true, true, true, true, true, false, false, false] rfl rfl (one_of HT_.out (by kernel_rfl)) (by decide) (fun K hK => ?_)
                      refine value_ (w1 := ?_) (v := ?_) (by rfl) rfl ?_ ?_
                      rotate_left 2
                      · go_simp
                        constructor
                        · rfl
                        · rfl
                      refine hK.out _ _ ⟨(blk_cell (blk_alloc BK214.out _) 0).trans rfl, (blk_cell (blk_alloc BK214.out _) 1).trans rfl, (blk_cell (blk_alloc BK214.out _) 2).trans rfl, (blk_cell (blk_alloc BK214.out _) 3).trans rfl, (blk_cell (blk_alloc BK216.out _) 0).trans rfl, (blk_cell (blk_alloc BK216.out _) 1).trans rfl⟩ (fun hHeld => ?_)
                      clear hK K
                      refine norm_ (a' := ?_) ?_ ?_
                      rotate_left
                      · show Act.put _ (some 67) _ = _
                        simp only [Act.put, List.setIfInBounds_toArray, List.set_cons_zero, List.set_cons_succ, i64_w, i32_w]
                        rfl
                      refine one_ (i := 6) (N := some 68) #[true, true, true, true, true, true, true, false, false] rfl rfl (one_of HT_.out (by kernel_rfl)) (by decide) (fun K hK => ?_)
                      refine Kd.R_append_step (Kd.int .i64) (w0 := w) w.heap.size (by rfl) (.tmp 63) (.tmp 67) 22 3 (.int .i64 0) 8 rfl Try.underlying22 info3 rfl (by decide) (by omega) u215003 x215003_1 t217 [.int .i64 t217] (fun _ => True) (fun _ => False) rfl rfl ?aP (fun _ hk => hk.elim) ?aF ?aO ?aB ?aS ?aL ?_
                      (case aP => exact rfl)
                      (case aB => exact (by repeat ((with_reducible first | exact HB.out | apply pw_below_drewN))))
                      (case aF => exact (fun _ _ => trivial))
                      (case aO => exact (by (with_reducible repeat ((apply Kd.R_drewN))); exact HO_215003.out))
                      (case aS => exact (below_size (by repeat ((with_reducible first | exact HB.out | apply pw_below_drewN)))))
                      (case aL => have := LMc36.out; omega)
                      intro v219 w45 ho hb hg hat
                      rw [← Ny218.out] at ho
                      have n0_ := Aside0.mk (Kd.R_over' (by (with_reducible repeat ((apply Kd.R_drewN))); exact HO_13.out) (Kd.R_typed (by (with_reducible repeat ((apply Kd.R_drewN))); exact HO_215003.out)) (by decide) hg)
                      have n1_ := Aside0.mk (Kd.R_over' (by (with_reducible repeat ((apply Kd.R_drewN))); exact HO_56.out) (Kd.R_typed (by (with_reducible repeat ((apply Kd.R_drewN))); exact HO_215003.out)) (by decide) hg)
                      have n2_ := Aside0.mk (blk_grown (g := gb201) (o := .cells #[.int .i64 a0_0, .int .i64 a0_1] 30 (0, 0)) (by (with_reducible repeat ((refine blk_drewN ?_ _))); exact BK201.out) hg (Kd.R_ne HO_215003.out BK201.out (by decide)))
                      have n3_ := Aside0.mk (blk_grown (g := gb202) (o := .cells #[.int .i64 0, .int .i64 0, .int .i64 0, .slice none 0 0] 34 (0, 0)) (by (with_reducible repeat ((refine blk_drewN ?_ _))); exact BK202.out) hg (Kd.R_ne HO_215003.out BK202.out (by decide)))
                      have n4_ := Aside0.mk (blk_grown (g := gb207) (o := .cells #[.int .i64 t204, .string t205] 55 (0, 0)) (by (with_reducible repeat ((refine blk_drewN ?_ _))); exact BK207.out) hg (Kd.R_ne HO_215003.out BK207.out (by decide)))
                      have n5_ := Aside0.mk (blk_grown (g := gb214) (o := .cells #[.int .i64 a0_0, .int .i64 a0_1, .int .i64 (t208.size : Int), u215003] 34 (0, 0)) (by (with_reducible repeat ((refine blk_drewN ?_ _))); exact BK214.out) hg (Kd.R_ne HO_215003.out BK214.out (by decide)))
                      have n6_ := Aside0.mk (blk_grown (g := gb216) (o := .cells #[.int .i64 ((rd_T41 t210 x58_1).f0), .string ((rd_T41 t210 x58_1).f1)] 41 (0, 0)) (by (with_reducible repeat ((refine blk_drewN ?_ _))); exact BK216.out) hg (Kd.R_ne HO_215003.out BK216.out (by decide)))
                      have n7_ := Aside0.mk (hb)
                      have n8_ := Aside0.mk (ho)
                      clear HO_13 HO_56 BK201 BK202 BK207 BK214 BK216 HB HO_215003
                      have HO_13 := n0_
                      have HO_56 := n1_
                      have BK201 := n2_
                      have BK202 := n3_
                      have BK207 := n4_
                      have BK214 := n5_
                      have BK216 := n6_
                      have HB := n7_
                      have HO220 := n8_
                      clear n0_ n1_ n2_ n3_ n4_ n5_ n6_ n7_ n8_ ho hb hg hat
                      obtain ⟨Ao46, co46, eo46⟩ := Kd.R_slice HO220.out
                      ((subst eo46))
                      refine hK.out _ _ ⟨(blk_cell BK214.out 0).trans rfl, (blk_cell BK214.out 1).trans rfl, (blk_cell BK214.out 2).trans rfl, (blk_cell BK214.out 3).trans rfl, (blk_cell BK216.out 0).trans rfl, (blk_cell BK216.out 1).trans rfl⟩ (fun hHeld => ?_)
                      clear hK K
                      refine norm_ (a' := ?_) ?_ ?_
                      rotate_left
                      · show Act.put _ (some 68) _ = _
                        simp only [Act.put, List.setIfInBounds_toArray, List.set_cons_zero, List.set_cons_succ, i64_w, i32_w]
                        rfl
                      refine pure_ (i := 7) (N := some 69) (v := ?_) (a' := ?_) #[true, true, true, true, true, true, true, true, false] rfl rfl (any_of HT_.out (by kernel_rfl)) (fun _ _ _ h => h) (Or.inl ⟨by rfl, ?_⟩) ?_ ?_
                      rotate_left
                      · intro w'
                        go_simp
                        with_reducible rfl
                      rotate_left
                      · simp only [Act.put, List.setIfInBounds_toArray, List.set_cons_zero, List.set_cons_succ, i64_w, i32_w]
                        rfl
                      refine last_ (i := 8) (N := none) #[true, true, true, true, true, true, true, true, true] rfl rfl (one_of HT_.out (by kernel_rfl)) (by decide) (fun K hK => ?_)
                      have hs47 : w45.cell? ⟨gb214, 3, none⟩ = some (u215003) := (blk_cell BK214.out 3).trans rfl
                      have hfs47 := blk_frozen BK214.out 3
                      have hns47_0 := NB201_214.out
                      have hns47_1 := NB202_214.out
                      have hns47_2 := NB207_214.out
                      have hns47_4 := NB216_214.out
                      have hms47_0 := NB214_201.out
                      have hms47_1 := NB214_202.out
                      have hms47_2 := NB214_207.out
                      have hms47_4 := NB214_216.out
                      refine skip_ (w1 := ?_) (by rfl) rfl ?_ ?_
                      rotate_left
                      · go_simp
                        rfl
                      refine hK.out _ _ ?_
                      clear hK K
                      refine done_ (done_of HT_.out (by kernel_rfl)) ?_
                      (go_wp2)
                      go_roundg k1
                      case measure => have := HK1.out; omega
                      case rel => exact ⟨(wrap64 (x58_1 + 1)), (y218), (.slice Ao46 y218.length co46), (by (rfl)), H', ⟨by have := HK1.out; omega⟩, ⟨by exact Kd.R_mono (Kd.R_far (p := ⟨gb214, 3, none⟩) (Kd.R_types HO_13.out BK214.out (by decide)) (fun _ hk => hk.2) (.slice Ao46 y218.length co46)) (fun _ hk => trivial)⟩, ⟨by exact Kd.R_mono (Kd.R_far (p := ⟨gb214, 3, none⟩) (Kd.R_types HO_56.out BK214.out (by decide)) (fun _ hk => hk.2) (.slice Ao46 y218.length co46)) (fun _ hk => trivial)⟩, ⟨by exact Kd.R_mono (Kd.R_far (p := ⟨gb214, 3, none⟩) (Kd.R_types HO220.out BK214.out (by decide)) (fun _ hk => hk.2) (.slice Ao46 y218.length co46)) (fun _ hk => trivial)⟩, ⟨by refine blk_far ?_ NB201_214.out _; exact BK201.out⟩, ⟨by refine blk_far ?_ NB202_214.out _; exact BK202.out⟩, ⟨by refine blk_far ?_ NB207_214.out _; exact BK207.out⟩, ⟨by refine blk_put (cs := #[.int .i64 a0_0, .int .i64 a0_1, .int .i64 (t208.size : Int), u215003]) ?_ 3 _ rfl; exact BK214.out⟩, ⟨by repeat ((with_reducible first | exact HB.out | refine below_set ?_ GE214.out))⟩⟩
                    · rw [if_neg c36] at H
                      exact absurd H (by simp)
                  · rw [if_neg c34] at H
                    exact absurd H (by simp)
                · rw [if_neg c33] at H
                  exact absurd H (by simp)
              · rw [if_neg c32] at H
                have c32b0 : decide (x58_1 < (t210.length : Int)) = false := decide_eq_false c32
                clear c32
                simp only [Option.some.injEq, Prod.mk.injEq] at H
                obtain ⟨rfl, rfl, rfl, rfl, rfl, rfl⟩ := H
                have hnb48 := NB214_201.out
                have hnc48 := NB201_214.out
                have hnb49 := NB214_202.out
                have hnc49 := NB202_214.out
                have hnb50 := NB214_207.out
                have hnc50 := NB207_214.out
                have hcz51_0 : wr.cell? ⟨gb214, 0, none⟩ = some (.int .i64 a0_0) := (blk_cell BK214.out 0).trans rfl
                have hcz51_1 : wr.cell? ⟨gb214, 1, none⟩ = some (.int .i64 a0_1) := (blk_cell BK214.out 1).trans rfl
                have hcz51_2 : wr.cell? ⟨gb214, 2, none⟩ = some (.int .i64 (t208.size : Int)) := (blk_cell BK214.out 2).trans rfl
                have hcz51_3 : wr.cell? ⟨gb214, 3, none⟩ = some (u215003) := (blk_cell BK214.out 3).trans rfl
                have hfz51_0 := blk_frozen BK214.out 0
                have hfz51_1 := blk_frozen BK214.out 1
                have hfz51_2 := blk_frozen BK214.out 2
                have hfz51_3 := blk_frozen BK214.out 3
                have hnb52 := NB202_201.out
                have hnc52 := NB201_202.out
                have hnb53 := NB202_207.out
                have hnc53 := NB207_202.out
                have hcz54_0 : wr.cell? ⟨gb202, 0, none⟩ = some (.int .i64 0) := (blk_cell BK202.out 0).trans rfl
                have hcz54_1 : wr.cell? ⟨gb202, 1, none⟩ = some (.int .i64 0) := (blk_cell BK202.out 1).trans rfl
                have hcz54_2 : wr.cell? ⟨gb202, 2, none⟩ = some (.int .i64 0) := (blk_cell BK202.out 2).trans rfl
                have hcz54_3 : wr.cell? ⟨gb202, 3, none⟩ = some (.slice none 0 0) := (blk_cell BK202.out 3).trans rfl
                have hfz54_0 := blk_frozen BK202.out 0
                have hfz54_1 := blk_frozen BK202.out 1
                have hfz54_2 := blk_frozen BK202.out 2
                have hfz54_3 := blk_frozen BK202.out 3
                obtain ⟨Ao55, co55, eo55⟩ := Kd.R_slice HO_215003.out
                subst eo55
                go_wp2
                refine bodyPost_ret (results_ctt rfl _ _ gb202 34 #[.int .i64 a0_0, .int .i64 a0_1, .int .i64 (t208.size : Int), .slice Ao55 x215003_1.length co55] (0, 0) _ rfl (by refine blk_put (cs := #[.int .i64 a0_0, .int .i64 a0_1, .int .i64 (t208.size : Int), .slice none 0 0]) ?_ 3 _ rfl; refine blk_put (cs := #[.int .i64 a0_0, .int .i64 a0_1, .int .i64 0, .slice none 0 0]) ?_ 2 _ rfl; refine blk_put (cs := #[.int .i64 a0_0, .int .i64 0, .int .i64 0, .slice none 0 0]) ?_ 1 _ rfl; refine blk_put (cs := #[.int .i64 0, .int .i64 0, .int .i64 0, .slice none 0 0]) ?_ 0 _ rfl; exact BK202.out) Try.underlying34 rfl (by kernel_rfl)) rfl ?_
                exact ⟨_, _, by (rfl), by exact Kd.R_mono (Kd.R_far (p := ⟨gb202, 3, none⟩) (Kd.R_far (p := ⟨gb202, 2, none⟩) (Kd.R_far (p := ⟨gb202, 1, none⟩) (Kd.R_far (p := ⟨gb202, 0, none⟩) (Kd.R_types HO_215003.out BK202.out (by decide)) (fun _ hk => hk.2) (.int .i64 a0_0)) (fun _ hk => hk.2) (.int .i64 a0_1)) (fun _ hk => hk.2) (.int .i64 (t208.size : Int))) (fun _ hk => hk.2) (.slice Ao55 x215003_1.length co55)) (fun _ hk => trivial), by exact Kd.R_mono (Kd.R_far (p := ⟨gb202, 3, none⟩) (Kd.R_far (p := ⟨gb202, 2, none⟩) (Kd.R_far (p := ⟨gb202, 1, none⟩) (Kd.R_far (p := ⟨gb202, 0, none⟩) (Kd.R_types HO_13.out BK202.out (by decide)) (fun _ hk => hk.2) (.int .i64 a0_0)) (fun _ hk => hk.2) (.int .i64 a0_1)) (fun _ hk => hk.2) (.int .i64 (t208.size : Int))) (fun _ hk => hk.2) (.slice Ao55 x215003_1.length co55)) (fun _ hk => trivial), by repeat ((with_reducible first | exact HB.out | refine below_set ?_ GE202.out))⟩
        · rw [if_neg c11] at H
          have c11b0 : (t213 == 0) = false := beq_eq_false_iff_ne.mpr c11
          have c11b1 : (t213 != 0) = true := bne_iff_ne.mpr c11
          exact absurd H (by simp)
      · rw [if_neg c9] at H
        have c9b0 : (t209 == 0) = false := beq_eq_false_iff_ne.mpr c9
        have c9b1 : (t209 != 0) = true := bne_iff_ne.mpr c9
        exact absurd H (by simp)
    · rw [if_neg c7] at H
      have c7b0 : (t206 == 0) = false := beq_eq_false_iff_ne.mpr c7
      have c7b1 : (t206 != 0) = true := bne_iff_ne.mpr c7
      exact absurd H (by simp)
  · rw [if_neg c5] at H
    have c5b0 : (t203 == 0) = false := beq_eq_false_iff_ne.mpr c5
    have c5b1 : (t203 != 0) = true := bne_iff_ne.mpr c5
    exact absurd H (by simp)

end Go.Proofs.Ythfddndmhjkeiaa.L
end
section
-- Printed for this claim by a small program of the session's own, drv.py, round the kit's print.py. Lean checks it.
namespace Go.Proofs.Ythfddndmhjkeiaa.L
open Go.RowKit Go.Proofs.YthfddndmhjkeiaaW.PrintWords Go.Proofs.YthfddndmhjkeiaaW.PrintLast Go.Proofs.YthfddndmhjkeiaaW.PrintMore
attribute [local go_sem] max2_int min2_int max_two min_two max_three min_three max_four min_four   -- for this text's walks alone
set_option linter.unusedVariables false
set_option linter.unusedSimpArgs false

/-! ### wire_Int: function 49 -/
mutual
def wire_Int.j0 : Nat → ByteArray → Int → Bool → Option (Int × Int × Int)
  | 0, _, _, _ => none
  | k + 1, x0, x1, x17 => if x17 = true then (none) else (wire_Int.l0 k x0 x1 0 0)
def wire_Int.l0 : Nat → ByteArray → Int → Int → Int → Option (Int × Int × Int)
  | 0, _, _, _, _ => none
  | k + 1, x0, x1, x7, x8 => if (wrap64 (x1 + x8)) = (x0.size : Int) then (none) else (if 0 ≤ (wrap64 (x1 + x8)) then (if (wrap64 (x1 + x8)) < (x0.size : Int) then (if x8 = 9 then (if (bt x0 (wrap64 (x1 + x8))) > 1 then (wire_Int.j2 k x0 x1 x7 x8 (bt x0 (wrap64 (x1 + x8))) true) else (if x8 > 0 then (wire_Int.j2 k x0 x1 x7 x8 (bt x0 (wrap64 (x1 + x8))) ((bt x0 (wrap64 (x1 + x8))) == 0)) else (wire_Int.j2 k x0 x1 x7 x8 (bt x0 (wrap64 (x1 + x8))) false))) else (if x8 > 0 then (wire_Int.j2 k x0 x1 x7 x8 (bt x0 (wrap64 (x1 + x8))) ((bt x0 (wrap64 (x1 + x8))) == 0)) else (wire_Int.j2 k x0 x1 x7 x8 (bt x0 (wrap64 (x1 + x8))) false))) else (none)) else (none))
def wire_Int.j2 : Nat → ByteArray → Int → Int → Int → Int → Bool → Option (Int × Int × Int)
  | 0, _, _, _, _, _, _ => none
  | k + 1, x0, x1, x7, x8, x9, x44 => if x44 = true then (none) else (if 0 ≤ (wrap64 (7 * x8)) then (if x9 < 128 then (some (Go.bits .xor .i64 (wrap64 ((Go.bits .or .u64 x7 (shl .u64 (IntKind.u64.wrap (Go.bits .and .u8 x9 127)) (wrap64 (7 * x8)))) / 2)) (wrap64 (-(wrap64 (Go.bits .and .u64 (Go.bits .or .u64 x7 (shl .u64 (IntKind.u64.wrap (Go.bits .and .u8 x9 127)) (wrap64 (7 * x8)))) 1)))), wrap64 ((wrap64 (x1 + x8)) + 1), 0)) else (wire_Int.l0 k x0 x1 (Go.bits .or .u64 x7 (shl .u64 (IntKind.u64.wrap (Go.bits .and .u8 x9 127)) (wrap64 (7 * x8)))) (wrap64 (x8 + 1)))) else (none))
end
def wire_Int.f (k : Nat) (a0 : ByteArray) (a1 : Int) : Option (Int × Int × Int) := if a1 < 0 then (wire_Int.j0 k a0 a1 true) else (wire_Int.j0 k a0 a1 (decide (a1 > (a0.size : Int))))
theorem wire_Int.mono_l : ∀ k, (∀ y0 y1 y2, LeO (wire_Int.j0 k y0 y1 y2) (wire_Int.j0 (k + 1) y0 y1 y2)) ∧ (∀ y0 y1 y2 y3, LeO (wire_Int.l0 k y0 y1 y2 y3) (wire_Int.l0 (k + 1) y0 y1 y2 y3)) ∧ (∀ y0 y1 y2 y3 y4 y5, LeO (wire_Int.j2 k y0 y1 y2 y3 y4 y5) (wire_Int.j2 (k + 1) y0 y1 y2 y3 y4 y5))
  | 0 => ⟨fun _ _ _ r h => by simp [wire_Int.j0] at h, fun _ _ _ _ r h => by simp [wire_Int.l0] at h, fun _ _ _ _ _ _ r h => by simp [wire_Int.j2] at h⟩
  | k + 1 => by
    obtain ⟨ih0, ih1, ih2⟩ := wire_Int.mono_l k
    refine ⟨?_, ?_, ?_⟩
    · intro y0 y1 y2
      unfold wire_Int.j0
      repeat' first | (with_reducible exact ih1 _ _ _ _) | (with_reducible exact LeO.refl _) | (with_reducible refine LeO.ite ?_ ?_)
    · intro y0 y1 y2 y3
      unfold wire_Int.l0
      repeat' first | (with_reducible exact ih2 _ _ _ _ _ _) | (with_reducible exact LeO.refl _) | (with_reducible refine LeO.ite ?_ ?_)
    · intro y0 y1 y2 y3 y4 y5
      unfold wire_Int.j2
      repeat' first | (with_reducible exact ih1 _ _ _ _) | (with_reducible exact LeO.refl _) | (with_reducible refine LeO.ite ?_ ?_)
theorem wire_Int.mono : ∀ a0 a1 k, LeO (wire_Int.f k a0 a1) (wire_Int.f (k + 1) a0 a1) := by
  intro a0 a1 k
  obtain ⟨ih0, ih1, ih2⟩ := wire_Int.mono_l k
  unfold wire_Int.f
  repeat' first | (with_reducible exact ih0 _ _ _) | (with_reducible refine LeO.ite ?_ ?_)
set_option maxHeartbeats 8000000 in
set_option maxRecDepth 100000 in
theorem wire_Int.calls (k : Nat) (a0 : ByteArray) (a1 : Int) (r1 : Int) (r2 : Int) (r3 : Int) (w : World) (h : wire_Int.f k a0 a1 = some (r1, r2, r3)) :
    Calls Try.prog 49 #[.string a0, .int .i64 a1] w fun e w' => e = .returned (.tuple #[.int .i64 r1, .int .i64 r2, .int .i64 r3]) ∧ Drawn0 w w' := by
  have H : (if a1 < 0 then (wire_Int.j0 k a0 a1 true) else (wire_Int.j0 k a0 a1 (decide (a1 > (a0.size : Int))))) = some (r1, r2, r3) := h
  clear h
  have HC3 := Aside0.mk H
  clear H
  go_enter Try.func49, Try.ntmps49
  go_upto_region 1 with (fail)
  go_cut [17] (fun v17 wc => ∃ (kq : Nat) (x17_2 : Bool), v17 = .bool x17_2 ∧ Aside0 (wire_Int.j0 kq a0 a1 x17_2 = some (r1, r2, r3)) ∧ Aside0 (kq ≤ k) ∧ Drawn0 w wc)
  case first =>
    have H := HC3.out
    clear HC3
    by_cases c4 : a1 < 0
    · rw [if_pos c4] at H
      have c4b0 : decide (a1 < 0) = true := decide_eq_true c4
      clear c4
      ((skip))
      have H' := Aside0.mk H
      clear H
      go_wp2
      go_meet
      case rel => exact ⟨_, (true), (by (rfl)), H', ⟨by (omega)⟩, by repeat ((exact Drawn0.refl _))⟩
    · rw [if_neg c4] at H
      have c4b0 : decide (a1 < 0) = false := decide_eq_false c4
      clear c4
      ((skip))
      have H' := Aside0.mk H
      clear H
      go_wp2
      go_meet
      case rel => exact ⟨_, (decide (a1 > (a0.size : Int))), (by (rfl)), H', ⟨by (omega)⟩, by repeat ((exact Drawn0.refl _))⟩
  case rest =>
    clear HC3
    obtain ⟨kq, x17_2, rfl, HA, HJ2, ⟨mc2, rfl⟩⟩ := hcut
    cases kq with
    | zero => exact absurd HA.out (by simp [wire_Int.j0])
    | succ kj2 =>
      have H := HA.out
      clear HA
      simp only [wire_Int.j0] at H
      by_cases c5 : x17_2 = true
      · subst c5
        have H1 : (none) = some (r1, r2, r3) := by rw [if_pos rfl] at H; exact H
        clear H
        have H := H1
        clear H1
        exact absurd H (by simp)
      · replace c5 := Bool.eq_false_iff.mpr c5
        subst c5
        have H1 : (wire_Int.l0 kj2 a0 a1 0 0) = some (r1, r2, r3) := by rw [if_neg (show ¬ (false = true) by decide)] at H; exact H
        clear H
        have H := H1
        clear H1
        have H' := Aside0.mk H
        clear H
        go_wp2
        go_loopg [7, 8] kj2 (fun kq v7 v8 w' => ∃ (x7_2 : Int) (x8_2 : Int), v7 = .int .u64 x7_2 ∧ v8 = .int .i64 x8_2 ∧ Aside0 (wire_Int.l0 kq a0 a1 x7_2 x8_2 = some (r1, r2, r3)) ∧ Aside0 (kq ≤ kj2) ∧ Drawn0 w w')
        case atStart => exact ⟨(0), (0), (by (rfl)), (by (rfl)), H', ⟨Nat.le_refl _⟩, by repeat (first | exact Drawn0.refl _ | apply Drawn0.step)⟩
        case round =>
          clear H'
          obtain ⟨x7_2, x8_2, rfl, rfl, HA, HK2, ⟨m2, rfl⟩⟩ := hrel
          cases gk with
          | zero => exact absurd HA.out (by simp [wire_Int.l0])
          | succ k2 =>
            have H := HA.out
            clear HA
            simp only [wire_Int.l0] at H
            by_cases c6 : (wrap64 (a1 + x8_2)) = (a0.size : Int)
            · rw [if_pos c6] at H
              exact absurd H (by simp)
            · rw [if_neg c6] at H
              have c6b0 : ((wrap64 (a1 + x8_2)) == (a0.size : Int)) = false := beq_eq_false_iff_ne.mpr c6
              have c6b1 : ((wrap64 (a1 + x8_2)) != (a0.size : Int)) = true := bne_iff_ne.mpr c6
              obtain ⟨ji7, hji7⟩ : ∃ j_ : Int, (wrap64 (a1 + x8_2)) = j_ := ⟨_, rfl⟩
              replace H : (if 0 ≤ (ji7) then (if (ji7) < (a0.size : Int) then (if x8_2 = 9 then (if (bt a0 (ji7)) > 1 then (wire_Int.j2 k2 a0 a1 x7_2 x8_2 (bt a0 (ji7)) true) else (if x8_2 > 0 then (wire_Int.j2 k2 a0 a1 x7_2 x8_2 (bt a0 (ji7)) ((bt a0 (ji7)) == 0)) else (wire_Int.j2 k2 a0 a1 x7_2 x8_2 (bt a0 (ji7)) false))) else (if x8_2 > 0 then (wire_Int.j2 k2 a0 a1 x7_2 x8_2 (bt a0 (ji7)) ((bt a0 (ji7)) == 0)) else (wire_Int.j2 k2 a0 a1 x7_2 x8_2 (bt a0 (ji7)) false))) else (none)) else (none)) = some (r1, r2, r3) := by (rw [hji7] at H; exact H)
              ((rw [hji7] at c6b0))
              ((rw [hji7] at c6b1))
              have hji7w : (IntKind.i64.wrap (a1 + x8_2)) = ji7 := (i64_w _).trans hji7
              by_cases c8 : 0 ≤ (ji7)
              · rw [if_pos c8] at H
                have c8b0 : decide (0 ≤ (ji7)) = true := decide_eq_true c8
                clear c8
                by_cases c9 : (ji7) < (a0.size : Int)
                · rw [if_pos c9] at H
                  have c9b0 : decide ((ji7) < (a0.size : Int)) = true := decide_eq_true c9
                  clear c9
                  have HC11 := Aside0.mk H
                  clear H
                  have p10 : 0 ≤ ((ji7) : Int) := of_decide_eq_true (by (with_reducible assumption))
                  have q10 : (ji7) < (a0.size : Int) := of_decide_eq_true (by (with_reducible assumption))
                  have hx10 := bt_at a0 (ji7)
                  replace p10 := eq_true p10
                  replace q10 := eq_true q10
                  go_upto_region 9 with (fail)
                  go_cut [44] (fun v44 wc => ∃ (kq : Nat) (x44_10 : Bool), v44 = .bool x44_10 ∧ Aside0 (wire_Int.j2 kq a0 a1 x7_2 x8_2 (bt a0 (ji7)) x44_10 = some (r1, r2, r3)) ∧ Aside0 (kq ≤ k2) ∧ Drawn0 w wc)
                  case first =>
                    have H := HC11.out
                    clear HC11
                    by_cases c12 : x8_2 = 9
                    · rw [if_pos c12] at H
                      have c12b0 : (x8_2 == 9) = true := beq_iff_eq.mpr c12
                      have c12b1 : (x8_2 != 9) = false := bne_eq_false_iff_eq.mpr c12
                      clear c12
                      ((skip))
                      by_cases c13 : (bt a0 (ji7)) > 1
                      · rw [if_pos c13] at H
                        have c13b0 : decide (1 < (bt a0 (ji7))) = true := decide_eq_true c13
                        clear c13
                        have H' := Aside0.mk H
                        clear H
                        go_wp2
                        go_meet
                        case rel => exact ⟨_, (true), (by (rfl)), H', ⟨by have := HJ2.out; have := HK2.out; (omega)⟩, by repeat (first | exact Drawn0.refl _ | apply Drawn0.step)⟩
                      · rw [if_neg c13] at H
                        have c13b0 : decide (1 < (bt a0 (ji7))) = false := decide_eq_false c13
                        clear c13
                        by_cases c14 : x8_2 > 0
                        · rw [if_pos c14] at H
                          have c14b0 : decide (0 < x8_2) = true := decide_eq_true c14
                          clear c14
                          have H' := Aside0.mk H
                          clear H
                          go_wp2
                          go_meet
                          case rel => exact ⟨_, (((bt a0 (ji7)) == 0)), (by (rfl)), H', ⟨by have := HJ2.out; have := HK2.out; (omega)⟩, by repeat (first | exact Drawn0.refl _ | apply Drawn0.step)⟩
                        · rw [if_neg c14] at H
                          have c14b0 : decide (0 < x8_2) = false := decide_eq_false c14
                          clear c14
                          have H' := Aside0.mk H
                          clear H
                          go_wp2
                          go_meet
                          case rel => exact ⟨_, (false), (by (rfl)), H', ⟨by have := HJ2.out; have := HK2.out; (omega)⟩, by repeat (first | exact Drawn0.refl _ | apply Drawn0.step)⟩
                    · rw [if_neg c12] at H
                      have c12b0 : (x8_2 == 9) = false := beq_eq_false_iff_ne.mpr c12
                      have c12b1 : (x8_2 != 9) = true := bne_iff_ne.mpr c12
                      ((skip))
                      by_cases c15 : x8_2 > 0
                      · rw [if_pos c15] at H
                        have c15b0 : decide (0 < x8_2) = true := decide_eq_true c15
                        clear c15
                        have H' := Aside0.mk H
                        clear H
                        go_wp2
                        go_meet
                        case rel => exact ⟨_, (((bt a0 (ji7)) == 0)), (by (rfl)), H', ⟨by have := HJ2.out; have := HK2.out; (omega)⟩, by repeat (first | exact Drawn0.refl _ | apply Drawn0.step)⟩
                      · rw [if_neg c15] at H
                        have c15b0 : decide (0 < x8_2) = false := decide_eq_false c15
                        clear c15
                        have H' := Aside0.mk H
                        clear H
                        go_wp2
                        go_meet
                        case rel => exact ⟨_, (false), (by (rfl)), H', ⟨by have := HJ2.out; have := HK2.out; (omega)⟩, by repeat (first | exact Drawn0.refl _ | apply Drawn0.step)⟩
                  case rest =>
                    clear HC11 c6 c6b0 c6b1 c8b0 c9b0 p10 q10 hx10
                    obtain ⟨kq, x44_10, rfl, HA, HJ10, ⟨mc10, rfl⟩⟩ := hcut
                    cases kq with
                    | zero => exact absurd HA.out (by simp [wire_Int.j2])
                    | succ kj10 =>
                      have H := HA.out
                      clear HA
                      simp only [wire_Int.j2] at H
                      by_cases c16 : x44_10 = true
                      · subst c16
                        have H1 : (none) = some (r1, r2, r3) := by rw [if_pos rfl] at H; exact H
                        clear H
                        have H := H1
                        clear H1
                        exact absurd H (by simp)
                      · replace c16 := Bool.eq_false_iff.mpr c16
                        subst c16
                        have H1 : (if 0 ≤ (wrap64 (7 * x8_2)) then (if (bt a0 (ji7)) < 128 then (some (Go.bits .xor .i64 (wrap64 ((Go.bits .or .u64 x7_2 (shl .u64 (IntKind.u64.wrap (Go.bits .and .u8 (bt a0 (ji7)) 127)) (wrap64 (7 * x8_2)))) / 2)) (wrap64 (-(wrap64 (Go.bits .and .u64 (Go.bits .or .u64 x7_2 (shl .u64 (IntKind.u64.wrap (Go.bits .and .u8 (bt a0 (ji7)) 127)) (wrap64 (7 * x8_2)))) 1)))), wrap64 ((wrap64 (a1 + x8_2)) + 1), 0)) else (wire_Int.l0 kj10 a0 a1 (Go.bits .or .u64 x7_2 (shl .u64 (IntKind.u64.wrap (Go.bits .and .u8 (bt a0 (ji7)) 127)) (wrap64 (7 * x8_2)))) (wrap64 (x8_2 + 1)))) else (none)) = some (r1, r2, r3) := by rw [if_neg (show ¬ (false = true) by decide)] at H; exact H
                        clear H
                        have H := H1
                        clear H1
                        obtain ⟨ji17, hji17⟩ : ∃ j_ : Int, (wrap64 (7 * x8_2)) = j_ := ⟨_, rfl⟩
                        replace H : (if 0 ≤ (ji17) then (if (bt a0 (ji7)) < 128 then (some (Go.bits .xor .i64 (wrap64 ((Go.bits .or .u64 x7_2 (shl .u64 (IntKind.u64.wrap (Go.bits .and .u8 (bt a0 (ji7)) 127)) (ji17))) / 2)) (wrap64 (-(wrap64 (Go.bits .and .u64 (Go.bits .or .u64 x7_2 (shl .u64 (IntKind.u64.wrap (Go.bits .and .u8 (bt a0 (ji7)) 127)) (ji17))) 1)))), wrap64 ((wrap64 (a1 + x8_2)) + 1), 0)) else (wire_Int.l0 kj10 a0 a1 (Go.bits .or .u64 x7_2 (shl .u64 (IntKind.u64.wrap (Go.bits .and .u8 (bt a0 (ji7)) 127)) (ji17))) (wrap64 (x8_2 + 1)))) else (none)) = some (r1, r2, r3) := by (rw [hji17] at H; exact H)
                        have hji17w : (IntKind.i64.wrap (7 * x8_2)) = ji17 := (i64_w _).trans hji17
                        by_cases c18 : 0 ≤ (ji17)
                        · rw [if_pos c18] at H
                          have c18b0 := eq_true c18
                          have c18b1 : decide (0 ≤ (ji17)) = true := decide_eq_true c18
                          clear c18
                          obtain ⟨ji19, hji19⟩ : ∃ j_ : Int, (shl .u64 (IntKind.u64.wrap (Go.bits .and .u8 (bt a0 (ji7)) 127)) (ji17)) = j_ := ⟨_, rfl⟩
                          replace H : (if (bt a0 (ji7)) < 128 then (some (Go.bits .xor .i64 (wrap64 ((Go.bits .or .u64 x7_2 (ji19)) / 2)) (wrap64 (-(wrap64 (Go.bits .and .u64 (Go.bits .or .u64 x7_2 (ji19)) 1)))), wrap64 ((wrap64 (a1 + x8_2)) + 1), 0)) else (wire_Int.l0 kj10 a0 a1 (Go.bits .or .u64 x7_2 (ji19)) (wrap64 (x8_2 + 1)))) = some (r1, r2, r3) := by (rw [hji19] at H; exact H)
                          have hji19_ : (IntKind.u64.wrap ((IntKind.u64.wrap (Go.bits .and .u8 (bt a0 (ji7)) 127)) * 2 ^ min (ji17).toNat 64)) = ji19 := hji19
                          have hji19z : (ji17) ≤ 64 → (IntKind.u64.wrap ((IntKind.u64.wrap (Go.bits .and .u8 (bt a0 (ji7)) 127)) * 2 ^ (ji17).toNat)) = ji19 := shl_small hji19
                          by_cases c20 : (bt a0 (ji7)) < 128
                          · rw [if_pos c20] at H
                            have c20b0 : decide ((bt a0 (ji7)) < 128) = true := decide_eq_true c20
                            clear c20
                            simp only [Option.some.injEq, Prod.mk.injEq] at H
                            obtain ⟨rfl, rfl, rfl⟩ := H
                            go_wp2
                            go_ret3
                            exact ⟨by (simp only [← hji7, ← hji17, ← hji19] <;> ((rfl))), by repeat (first | exact Drawn0.refl _ | apply Drawn0.step)⟩
                          · rw [if_neg c20] at H
                            have c20b0 : decide ((bt a0 (ji7)) < 128) = false := decide_eq_false c20
                            clear c20
                            have H' := Aside0.mk H
                            clear H
                            go_wp2
                            go_roundg kj10
                            case measure => have := HJ2.out; have := HK2.out; have := HJ10.out; omega
                            case rel => exact ⟨(Go.bits .or .u64 x7_2 (ji19)), (wrap64 (x8_2 + 1)), (by (rfl)), (by (rfl)), H', ⟨by have := HJ2.out; have := HK2.out; have := HJ10.out; omega⟩, by repeat (first | exact Drawn0.refl _ | apply Drawn0.step)⟩
                        · rw [if_neg c18] at H
                          exact absurd H (by simp)
                · rw [if_neg c9] at H
                  exact absurd H (by simp)
              · rw [if_neg c8] at H
                exact absurd H (by simp)

end Go.Proofs.Ythfddndmhjkeiaa.L
end
section
-- Printed for this claim by a small program of the session's own, drv.py, round the kit's print.py. Lean checks it.
namespace Go.Proofs.Ythfddndmhjkeiaa.L
open Go.RowKit Go.Proofs.YthfddndmhjkeiaaW.PrintWords Go.Proofs.YthfddndmhjkeiaaW.PrintLast Go.Proofs.YthfddndmhjkeiaaW.PrintMore
attribute [local go_sem] max2_int min2_int max_two min_two max_three min_three max_four min_four   -- for this text's walks alone
set_option linter.unusedVariables false
set_option linter.unusedSimpArgs false

/-! ### wire_count: function 67 -/
def wire_count.f (k : Nat) (a0 : ByteArray) (a1 : Int) (a2 : Int) : Option (Int × Int × Int) := (wire_Int.f k a0 a1).bind fun bt246 => (if bt246.2.2 = 0 then (if bt246.1 < 0 then (none) else (if bt246.1 > a2 then (none) else (some (bt246.1, bt246.2.1, 0)))) else (none))
theorem wire_count.mono : ∀ a0 a1 a2 k, LeO (wire_count.f k a0 a1 a2) (wire_count.f (k + 1) a0 a1 a2) := by
  intro a0 a1 a2 k
  unfold wire_count.f
  repeat' first | (with_reducible exact wire_Int.mono _ _ _) | (with_reducible exact LeO.refl _) | (with_reducible refine LeO.bind ?_ (fun _ => ?_))
set_option maxHeartbeats 8000000 in
set_option maxRecDepth 100000 in
theorem wire_count.calls (k : Nat) (a0 : ByteArray) (a1 : Int) (a2 : Int) (r1 : Int) (r2 : Int) (r3 : Int) (w : World) (h : wire_count.f k a0 a1 a2 = some (r1, r2, r3)) :
    Calls Try.prog 67 #[.string a0, .int .i64 a1, .int .i64 a2] w fun e w' => e = .returned (.tuple #[.int .i64 r1, .int .i64 r2, .int .i64 r3]) ∧ Drawn0 w w' := by
  have H : ((wire_Int.f k a0 a1).bind fun bt246 => (if bt246.2.2 = 0 then (if bt246.1 < 0 then (none) else (if bt246.1 > a2 then (none) else (some (bt246.1, bt246.2.1, 0)))) else (none))) = some (r1, r2, r3) := h
  clear h
  replace H := Option.bind_eq_some_iff.mp H
  obtain ⟨⟨t246, t247, t248⟩, A40, H⟩ := H
  replace H : (if t248 = 0 then (if t246 < 0 then (none) else (if t246 > a2 then (none) else (some (t246, t247, 0)))) else (none)) = some (r1, r2, r3) := H
  have A4 := Aside0.mk A40
  clear A40
  by_cases c5 : t248 = 0
  · rw [if_pos c5] at H
    have c5b0 : (t248 == 0) = true := beq_iff_eq.mpr c5
    have c5b1 : (t248 != 0) = false := bne_eq_false_iff_eq.mpr c5
    clear c5
    by_cases c6 : t246 < 0
    · rw [if_pos c6] at H
      exact absurd H (by simp)
    · rw [if_neg c6] at H
      have c6b0 : decide (t246 < 0) = false := decide_eq_false c6
      clear c6
      by_cases c7 : t246 > a2
      · rw [if_pos c7] at H
        exact absurd H (by simp)
      · rw [if_neg c7] at H
        have c7b0 : decide (a2 < t246) = false := decide_eq_false c7
        clear c7
        simp only [Option.some.injEq, Prod.mk.injEq] at H
        obtain ⟨rfl, rfl, rfl⟩ := H
        go_enter Try.func67, Try.ntmps67
        go_wp2_with (((with_reducible refine gate_callee (f := 49) rfl ?_); refine goesL_ (some 14) rfl rfl Try.func49 (by kernel_rfl) rfl #[.string a0, .int .i64 a1] rfl (by ((simp only [List.map_toArray, List.map_cons, List.map_nil])); (rfl)) ?_; (with_reducible refine (wire_Int.calls k a0 a1 t246 t247 t248 _ A4.out).mono ?_); rintro e w' ⟨rfl, ⟨nd, rfl⟩⟩; refine ⟨_, rfl, ?_⟩))
        go_ret3
        exact ⟨by (rfl), by repeat (first | exact Drawn0.refl _ | apply Drawn0.step)⟩
  · rw [if_neg c5] at H
    exact absurd H (by simp)

end Go.Proofs.Ythfddndmhjkeiaa.L
end
