/- Texts of this claim, put together by a small program of the session's own: F50, F27, F28, F16, E41, MSane, MSomeA, MSome, MStrA, MStr, MStrW, PA, PI1, PI2. -/
import Derived.Test.YthfddndmhjkeiaaJ0
import Derived.Test.YthfddndmhjkeiaaJ3
import Derived.Test.YthfddndmhjkeiaaJ2
import Derived.Deep.RegionLaw
import Derived.Deep.Upon
import Derived.Test.YthfddndmhjkeiaaJ1
section
-- Printed for this claim by a small program of the session's own, drv.py, round the kit's print.py. Lean checks it.
namespace Go.Proofs.Ythfddndmhjkeiaa.L
open Go.RowKit Go.Proofs.YthfddndmhjkeiaaW.PrintWords Go.Proofs.YthfddndmhjkeiaaW.PrintLast Go.Proofs.YthfddndmhjkeiaaW.PrintMore
attribute [local go_sem] max2_int min2_int max_two min_two max_three min_three max_four min_four   -- for this text's walks alone
set_option linter.unusedVariables false
set_option linter.unusedSimpArgs false

/-! ### wire_Text: function 50 -/
def wire_Text.f (k : Nat) (a0 : ByteArray) (a1 : Int) (a2 : Int) : Option (ByteArray × Int × Int) := (wire_count.f k a0 a1 a2).bind fun bt249 => (if bt249.2.2 = 0 then (if bt249.1 > (wrap64 ((a0.size : Int) - bt249.2.1)) then (none) else (if 0 ≤ bt249.2.1 then (if bt249.2.1 ≤ (wrap64 (bt249.2.1 + bt249.1)) then (if (wrap64 (bt249.2.1 + bt249.1)) ≤ (a0.size : Int) then (some (a0.extract (bt249.2.1 : Int).toNat ((wrap64 (bt249.2.1 + bt249.1)) : Int).toNat, wrap64 (bt249.2.1 + bt249.1), 0)) else (none)) else (none)) else (none))) else (none))
theorem wire_Text.mono : ∀ a0 a1 a2 k, LeO (wire_Text.f k a0 a1 a2) (wire_Text.f (k + 1) a0 a1 a2) := by
  intro a0 a1 a2 k
  unfold wire_Text.f
  repeat' first | (with_reducible exact wire_count.mono _ _ _ _) | (with_reducible exact LeO.refl _) | (with_reducible refine LeO.bind ?_ (fun _ => ?_))
set_option maxHeartbeats 8000000 in
set_option maxRecDepth 100000 in
theorem wire_Text.calls (k : Nat) (a0 : ByteArray) (a1 : Int) (a2 : Int) (r1 : ByteArray) (r2 : Int) (r3 : Int) (w : World) (h : wire_Text.f k a0 a1 a2 = some (r1, r2, r3)) :
    Calls Try.prog 50 #[.string a0, .int .i64 a1, .int .i64 a2] w fun e w' => e = .returned (.tuple #[.string r1, .int .i64 r2, .int .i64 r3]) ∧ Drawn0 w w' := by
  have H : ((wire_count.f k a0 a1 a2).bind fun bt249 => (if bt249.2.2 = 0 then (if bt249.1 > (wrap64 ((a0.size : Int) - bt249.2.1)) then (none) else (if 0 ≤ bt249.2.1 then (if bt249.2.1 ≤ (wrap64 (bt249.2.1 + bt249.1)) then (if (wrap64 (bt249.2.1 + bt249.1)) ≤ (a0.size : Int) then (some (a0.extract (bt249.2.1 : Int).toNat ((wrap64 (bt249.2.1 + bt249.1)) : Int).toNat, wrap64 (bt249.2.1 + bt249.1), 0)) else (none)) else (none)) else (none))) else (none))) = some (r1, r2, r3) := h
  clear h
  replace H := Option.bind_eq_some_iff.mp H
  obtain ⟨⟨t249, t250, t251⟩, A40, H⟩ := H
  replace H : (if t251 = 0 then (if t249 > (wrap64 ((a0.size : Int) - t250)) then (none) else (if 0 ≤ t250 then (if t250 ≤ (wrap64 (t250 + t249)) then (if (wrap64 (t250 + t249)) ≤ (a0.size : Int) then (some (a0.extract (t250 : Int).toNat ((wrap64 (t250 + t249)) : Int).toNat, wrap64 (t250 + t249), 0)) else (none)) else (none)) else (none))) else (none)) = some (r1, r2, r3) := H
  have A4 := Aside0.mk A40
  clear A40
  by_cases c5 : t251 = 0
  · rw [if_pos c5] at H
    have c5b0 : (t251 == 0) = true := beq_iff_eq.mpr c5
    have c5b1 : (t251 != 0) = false := bne_eq_false_iff_eq.mpr c5
    clear c5
    by_cases c6 : t249 > (wrap64 ((a0.size : Int) - t250))
    · rw [if_pos c6] at H
      exact absurd H (by simp)
    · rw [if_neg c6] at H
      have c6b0 : decide ((wrap64 ((a0.size : Int) - t250)) < t249) = false := decide_eq_false c6
      clear c6
      by_cases c7 : 0 ≤ t250
      · rw [if_pos c7] at H
        have c7b0 := eq_true c7
        have c7b1 : decide (0 ≤ t250) = true := decide_eq_true c7
        clear c7
        by_cases c8 : t250 ≤ (wrap64 (t250 + t249))
        · rw [if_pos c8] at H
          have c8b0 := eq_true c8
          have c8b1 : decide (t250 ≤ (wrap64 (t250 + t249))) = true := decide_eq_true c8
          by_cases c9 : (wrap64 (t250 + t249)) ≤ (a0.size : Int)
          · rw [if_pos c9] at H
            have c9b0 := eq_true c9
            have c9b1 : decide ((wrap64 (t250 + t249)) ≤ (a0.size : Int)) = true := decide_eq_true c9
            simp only [Option.some.injEq, Prod.mk.injEq] at H
            obtain ⟨rfl, rfl, rfl⟩ := H
            go_enter Try.func50, Try.ntmps50
            go_wp2_with (((with_reducible refine gate_callee (f := 67) rfl ?_); refine goesL_ (some 15) rfl rfl Try.func67 (by kernel_rfl) rfl #[.string a0, .int .i64 a1, .int .i64 a2] rfl (by ((simp only [List.map_toArray, List.map_cons, List.map_nil])); (rfl)) ?_; (with_reducible refine (wire_count.calls k a0 a1 a2 t249 t250 t251 _ A4.out).mono ?_); rintro e w' ⟨rfl, ⟨nd, rfl⟩⟩; refine ⟨_, rfl, ?_⟩))
            go_ret3
            exact ⟨by (rfl), by repeat (first | exact Drawn0.refl _ | apply Drawn0.step)⟩
          · rw [if_neg c9] at H
            exact absurd H (by simp)
        · rw [if_neg c8] at H
          exact absurd H (by simp)
      · rw [if_neg c7] at H
        exact absurd H (by simp)
  · rw [if_neg c5] at H
    exact absurd H (by simp)

end Go.Proofs.Ythfddndmhjkeiaa.L
end
section
-- Printed for this claim by a small program of the session's own, drv.py, round the kit's print.py. Lean checks it.
namespace Go.Proofs.Ythfddndmhjkeiaa.L
open Go.RowKit Go.Proofs.YthfddndmhjkeiaaW.PrintWords Go.Proofs.YthfddndmhjkeiaaW.PrintLast Go.Proofs.YthfddndmhjkeiaaW.PrintMore
attribute [local go_sem] max2_int min2_int max_two min_two max_three min_three max_four min_four   -- for this text's walks alone
set_option linter.unusedVariables false
set_option linter.unusedSimpArgs false

/-! ### seal_Decode: function 27 -/
def seal_Decode.f (k : Nat) (a0 : ByteArray) (a1 : Int) : Option (Int × ByteArray × Int × Int) := (wire_Int.f k a0 a1).bind fun bt253 => (if bt253.2.2 = 0 then ((wire_Text.f k a0 bt253.2.1 16384).bind fun bt256 => (if bt256.2.2 = 0 then ((seal_valid.f bt253.1 bt256.1).bind fun t260 => (if t260 = true then (some (bt253.1, bt256.1, bt256.2.1, 0)) else (none))) else (none))) else (none))
theorem seal_Decode.mono : ∀ a0 a1 k, LeO (seal_Decode.f k a0 a1) (seal_Decode.f (k + 1) a0 a1) := by
  intro a0 a1 k
  unfold seal_Decode.f
  repeat' first | (with_reducible exact wire_Int.mono _ _ _) | (with_reducible exact wire_Text.mono _ _ _ _) | (with_reducible exact LeO.refl _) | (with_reducible refine LeO.ite ?_ ?_) | (with_reducible refine LeO.bind ?_ (fun _ => ?_))
set_option maxHeartbeats 8000000 in
set_option maxRecDepth 100000 in
theorem seal_Decode.calls (k : Nat) (a0 : ByteArray) (a1 : Int) (r1 : Int) (r2 : ByteArray) (r3 : Int) (r4 : Int) (w : World) (h : seal_Decode.f k a0 a1 = some (r1, r2, r3, r4)) :
    Calls Try.prog 27 #[.string a0, .int .i64 a1] w fun e w' => e = .returned (.tuple #[.agg #[.int .i64 r1, .string r2], .int .i64 r3, .int .i64 r4]) ∧ Below w.heap.size w w' := by
  have hu55 := Try.underlying55
  have HB := Aside0.mk (Below.refl w.heap.size w)
  have H : ((wire_Int.f k a0 a1).bind fun bt253 => (if bt253.2.2 = 0 then ((wire_Text.f k a0 bt253.2.1 16384).bind fun bt256 => (if bt256.2.2 = 0 then ((seal_valid.f bt253.1 bt256.1).bind fun t260 => (if t260 = true then (some (bt253.1, bt256.1, bt256.2.1, 0)) else (none))) else (none))) else (none))) = some (r1, r2, r3, r4) := h
  clear h
  replace H := Option.bind_eq_some_iff.mp H
  obtain ⟨⟨t253, t254, t255⟩, A30, H⟩ := H
  replace H : (if t255 = 0 then ((wire_Text.f k a0 t254 16384).bind fun bt256 => (if bt256.2.2 = 0 then ((seal_valid.f t253 bt256.1).bind fun t260 => (if t260 = true then (some (t253, bt256.1, bt256.2.1, 0)) else (none))) else (none))) else (none)) = some (r1, r2, r3, r4) := H
  have A3 := Aside0.mk A30
  clear A30
  by_cases c4 : t255 = 0
  · rw [if_pos c4] at H
    have c4b0 : (t255 == 0) = true := beq_iff_eq.mpr c4
    have c4b1 : (t255 != 0) = false := bne_eq_false_iff_eq.mpr c4
    clear c4
    replace H := Option.bind_eq_some_iff.mp H
    obtain ⟨⟨t256, t257, t258⟩, A50, H⟩ := H
    replace H : (if t258 = 0 then ((seal_valid.f t253 t256).bind fun t260 => (if t260 = true then (some (t253, t256, t257, 0)) else (none))) else (none)) = some (r1, r2, r3, r4) := H
    have A5 := Aside0.mk A50
    clear A50
    by_cases c6 : t258 = 0
    · rw [if_pos c6] at H
      have c6b0 : (t258 == 0) = true := beq_iff_eq.mpr c6
      have c6b1 : (t258 != 0) = false := bne_eq_false_iff_eq.mpr c6
      clear c6
      replace H := Option.bind_eq_some_iff.mp H
      obtain ⟨t260, A70, H⟩ := H
      replace H : (if t260 = true then (some (t253, t256, t257, 0)) else (none)) = some (r1, r2, r3, r4) := H
      have A7 := Aside0.mk A70
      clear A70
      by_cases c8 : t260 = true
      · subst c8
        have H1 : (some (t253, t256, t257, 0)) = some (r1, r2, r3, r4) := by rw [if_pos rfl] at H; exact H
        clear H
        have H := H1
        clear H1
        simp only [Option.some.injEq, Prod.mk.injEq] at H
        obtain ⟨rfl, rfl, rfl, rfl⟩ := H
        go_enter Try.func27, Try.ntmps27
        go_wp2_with (first | ((with_reducible refine gate_dst (N := 4) rfl ?_); refine box_event ?hg (N := 4) ?hd (cs := #[.int .i64 0, .string (⟨#[]⟩ : ByteArray)]) (t := 55) ?hr ?_; (case hd => rfl); (case hg => rfl); (case hr => (go_simp; done)); intro gb252 hg w9 hbox hb; have n0_ := Aside0.mk (below_step HB.out hb); have n1_ := Aside0.mk (hbox); have n2_ := Aside0.mk ((by rw [hg]; exact (below_size HB.out) : w.heap.size ≤ gb252)); have n3_ := Aside0.mk ((by rw [hg]; exact (below_size HB.out) : w.heap.size ≤ gb252)); clear HB; have HB := n0_; have BK252 := n1_; have GW252 := n2_; have GE252 := n3_; clear n0_ n1_ n2_ n3_; clear hb hbox hg) | ((with_reducible refine gate_callee (f := 49) rfl ?_); refine goesL_ (some 14) rfl rfl Try.func49 (by kernel_rfl) rfl #[.string a0, .int .i64 a1] rfl (by ((simp only [List.map_toArray, List.map_cons, List.map_nil])); (rfl)) ?_; (with_reducible refine (wire_Int.calls k a0 a1 t253 t254 t255 _ A3.out).mono ?_); rintro e w' ⟨rfl, ⟨nd, rfl⟩⟩; refine ⟨_, rfl, ?_⟩; ((rw [drewN_self w9]; generalize hq_ : World.drewN w9 _ = w9; have n0_ : Aside0 (w9.heap[gb252]? = some (.cells #[.int .i64 0, .string (⟨#[]⟩ : ByteArray)] 55 (0, 0))) := ⟨by rw [← hq_]; exact (by (with_reducible repeat ((refine blk_drewN ?_ _))); exact BK252.out)⟩; have n1_ : Aside0 (Below w.heap.size w w9) := ⟨by rw [← hq_]; exact (by repeat ((with_reducible first | exact HB.out | apply pw_below_drewN)))⟩; clear BK252 HB hq_; have BK252 := n0_; have HB := n1_; clear n0_ n1_))) | ((with_reducible refine gate_callee (f := 50) rfl ?_); refine goesL_ (some 25) rfl rfl Try.func50 (by kernel_rfl) rfl #[.string a0, .int .i64 t254, .int .i64 16384] rfl (by ((simp only [List.map_toArray, List.map_cons, List.map_nil])); (rfl)) ?_; (with_reducible refine (wire_Text.calls k a0 t254 16384 t256 t257 t258 _ A5.out).mono ?_); rintro e w' ⟨rfl, ⟨nd, rfl⟩⟩; refine ⟨_, rfl, ?_⟩; ((rw [drewN_self w9]; generalize hq_ : World.drewN w9 _ = w9; have n0_ : Aside0 (w9.heap[gb252]? = some (.cells #[.int .i64 0, .string (⟨#[]⟩ : ByteArray)] 55 (0, 0))) := ⟨by rw [← hq_]; exact (by (with_reducible repeat ((refine blk_drewN ?_ _))); exact BK252.out)⟩; have n1_ : Aside0 (Below w.heap.size w w9) := ⟨by rw [← hq_]; exact (by repeat ((with_reducible first | exact HB.out | apply pw_below_drewN)))⟩; clear BK252 HB hq_; have BK252 := n0_; have HB := n1_; clear n0_ n1_))) | ((with_reducible refine gate_dst (N := 10) rfl ?_); refine box_event ?hg (N := 10) ?hd (cs := #[.int .i64 0, .string (⟨#[]⟩ : ByteArray)]) (t := 55) ?hr ?_; (case hd => rfl); (case hg => rfl); (case hr => (go_simp; done)); intro gb259 hg w10 hbox hb; have n0_ := Aside0.mk (blk_below (g := gb252) (o := .cells #[.int .i64 0, .string (⟨#[]⟩ : ByteArray)] 55 (0, 0)) (by exact BK252.out) hb); have n1_ := Aside0.mk (below_step HB.out hb); have n2_ := Aside0.mk (hbox); have n3_ := Aside0.mk ((by rw [hg]; exact (below_size HB.out) : w.heap.size ≤ gb259)); have n4_ := Aside0.mk ((by rw [hg]; exact (below_size HB.out) : w.heap.size ≤ gb259)); have n5_ := Aside0.mk ((by rw [hg]; exact Nat.ne_of_lt (blk_lt (g := gb252) (o := .cells #[.int .i64 0, .string (⟨#[]⟩ : ByteArray)] 55 (0, 0)) (by exact BK252.out)) : gb252 ≠ gb259)); have n6_ := Aside0.mk ((by rw [hg]; exact Nat.ne_of_gt (blk_lt (g := gb252) (o := .cells #[.int .i64 0, .string (⟨#[]⟩ : ByteArray)] 55 (0, 0)) (by exact BK252.out)) : gb259 ≠ gb252)); clear BK252 HB; have BK252 := n0_; have HB := n1_; have BK259 := n2_; have GW259 := n3_; have GE259 := n4_; have NB252_259 := n5_; have NB259_252 := n6_; clear n0_ n1_ n2_ n3_ n4_ n5_ n6_; clear hb hbox hg; have hnb11 := NB259_252.out; have hnc11 := NB252_259.out; have hcz12_0 : w10.cell? ⟨gb259, 0, none⟩ = some (.int .i64 0) := (blk_cell BK259.out 0).trans rfl; have hcz12_1 : w10.cell? ⟨gb259, 1, none⟩ = some (.string (⟨#[]⟩ : ByteArray)) := (blk_cell BK259.out 1).trans rfl; have hfz12_0 := blk_frozen BK259.out 0; have hfz12_1 := blk_frozen BK259.out 1) | ((with_reducible refine gate_callee (f := 35) rfl ?_); refine goesL_ (some 37) rfl rfl Try.func35 (by kernel_rfl) rfl #[.agg #[.int .i64 t253, .string t256]] rfl (by ((simp only [List.map_toArray, List.map_cons, List.map_nil])); (rfl)) ?_; (with_reducible refine (seal_valid.calls t253 t256 true _ A7.out).mono ?_); rintro e w13 ⟨rfl, hb⟩; refine ⟨_, rfl, ?_⟩; have n0_ := Aside0.mk (blk_below (g := gb252) (o := .cells #[.int .i64 0, .string (⟨#[]⟩ : ByteArray)] 55 (0, 0)) (by refine blk_far ?_ NB252_259.out _; refine blk_far ?_ NB252_259.out _; exact BK252.out) hb); have n1_ := Aside0.mk (blk_below (g := gb259) (o := .cells #[.int .i64 t253, .string t256] 55 (0, 0)) (by refine blk_put (cs := #[.int .i64 t253, .string (⟨#[]⟩ : ByteArray)]) ?_ 1 _ rfl; refine blk_put (cs := #[.int .i64 0, .string (⟨#[]⟩ : ByteArray)]) ?_ 0 _ rfl; exact BK259.out) hb); have n2_ := Aside0.mk (below_step (by repeat ((with_reducible first | exact HB.out | refine below_set ?_ GE259.out))) hb); clear BK252 BK259 HB; have BK252 := n0_; have BK259 := n1_; have HB := n2_; clear n0_ n1_ n2_; clear hb; have hcz14_0 : w13.cell? ⟨gb259, 0, none⟩ = some (.int .i64 t253) := (blk_cell BK259.out 0).trans rfl; have hcz14_1 : w13.cell? ⟨gb259, 1, none⟩ = some (.string t256) := (blk_cell BK259.out 1).trans rfl; have hfz14_0 := blk_frozen BK259.out 0; have hfz14_1 := blk_frozen BK259.out 1; have hcz15_0 : w13.cell? ⟨gb252, 0, none⟩ = some (.int .i64 0) := (blk_cell BK252.out 0).trans rfl; have hcz15_1 : w13.cell? ⟨gb252, 1, none⟩ = some (.string (⟨#[]⟩ : ByteArray)) := (blk_cell BK252.out 1).trans rfl; have hfz15_0 := blk_frozen BK252.out 0; have hfz15_1 := blk_frozen BK252.out 1))
        refine bodyPost_ret (results_ctt rfl _ _ gb252 55 #[.int .i64 t253, .string t256] (0, 0) _ rfl (by refine blk_put (cs := #[.int .i64 t253, .string (⟨#[]⟩ : ByteArray)]) ?_ 1 _ rfl; refine blk_put (cs := #[.int .i64 0, .string (⟨#[]⟩ : ByteArray)]) ?_ 0 _ rfl; exact BK252.out) Try.underlying55 rfl (by kernel_rfl)) rfl ?_
        exact ⟨by (rfl), by repeat ((with_reducible first | exact HB.out | refine below_set ?_ GE252.out))⟩
      · replace c8 := Bool.eq_false_iff.mpr c8
        subst c8
        have H1 : (none) = some (r1, r2, r3, r4) := by rw [if_neg (show ¬ (false = true) by decide)] at H; exact H
        clear H
        have H := H1
        clear H1
        exact absurd H (by simp)
    · rw [if_neg c6] at H
      have c6b0 : (t258 == 0) = false := beq_eq_false_iff_ne.mpr c6
      have c6b1 : (t258 != 0) = true := bne_iff_ne.mpr c6
      exact absurd H (by simp)
  · rw [if_neg c4] at H
    have c4b0 : (t255 == 0) = false := beq_eq_false_iff_ne.mpr c4
    have c4b1 : (t255 != 0) = true := bne_iff_ne.mpr c4
    exact absurd H (by simp)

end Go.Proofs.Ythfddndmhjkeiaa.L
end
section
-- Printed for this claim by a small program of the session's own, drv.py, round the kit's print.py. Lean checks it.
namespace Go.Proofs.Ythfddndmhjkeiaa.L
open Go.RowKit Go.Proofs.YthfddndmhjkeiaaW.PrintWords Go.Proofs.YthfddndmhjkeiaaW.PrintLast Go.Proofs.YthfddndmhjkeiaaW.PrintMore
attribute [local go_sem] max2_int min2_int max_two min_two max_three min_three max_four min_four   -- for this text's walks alone
set_option linter.unusedVariables false
set_option linter.unusedSimpArgs false

/-! ### seal_Open: function 28 -/
def seal_Open.f (a0_0 : Int) (a0_1 : ByteArray) (a1 : Int) : Option (ByteArray × Int) := (seal_valid.f a0_0 a0_1).bind fun t262 => (if t262 = true then ((seal_key_valid.f a1).bind fun t263 => (if t263 = true then ((seal_key_lock.f a1).bind fun t264 => (if a0_0 = t264 then (some (a0_1, 0)) else (some ((⟨#[]⟩ : ByteArray), 9)))) else (none))) else (none))
set_option maxHeartbeats 8000000 in
set_option maxRecDepth 100000 in
theorem seal_Open.calls (a0_0 : Int) (a0_1 : ByteArray) (a1 : Int) (r1 : ByteArray) (r2 : Int) (w : World) (h : seal_Open.f a0_0 a0_1 a1 = some (r1, r2)) :
    Calls Try.prog 28 #[.agg #[.int .i64 a0_0, .string a0_1], .int .i64 a1] w fun e w' => e = .returned (.tuple #[.string r1, .int .i64 r2]) ∧ Below w.heap.size w w' := by
  have hu55 := Try.underlying55
  have HB := Aside0.mk (Below.refl w.heap.size w)
  have H : ((seal_valid.f a0_0 a0_1).bind fun t262 => (if t262 = true then ((seal_key_valid.f a1).bind fun t263 => (if t263 = true then ((seal_key_lock.f a1).bind fun t264 => (if a0_0 = t264 then (some (a0_1, 0)) else (some ((⟨#[]⟩ : ByteArray), 9)))) else (none))) else (none))) = some (r1, r2) := h
  clear h
  replace H := Option.bind_eq_some_iff.mp H
  obtain ⟨t262, A30, H⟩ := H
  replace H : (if t262 = true then ((seal_key_valid.f a1).bind fun t263 => (if t263 = true then ((seal_key_lock.f a1).bind fun t264 => (if a0_0 = t264 then (some (a0_1, 0)) else (some ((⟨#[]⟩ : ByteArray), 9)))) else (none))) else (none)) = some (r1, r2) := H
  have A3 := Aside0.mk A30
  clear A30
  by_cases c4 : t262 = true
  · subst c4
    have H1 : ((seal_key_valid.f a1).bind fun t263 => (if t263 = true then ((seal_key_lock.f a1).bind fun t264 => (if a0_0 = t264 then (some (a0_1, 0)) else (some ((⟨#[]⟩ : ByteArray), 9)))) else (none))) = some (r1, r2) := by rw [if_pos rfl] at H; exact H
    clear H
    have H := H1
    clear H1
    replace H := Option.bind_eq_some_iff.mp H
    obtain ⟨t263, A50, H⟩ := H
    replace H : (if t263 = true then ((seal_key_lock.f a1).bind fun t264 => (if a0_0 = t264 then (some (a0_1, 0)) else (some ((⟨#[]⟩ : ByteArray), 9)))) else (none)) = some (r1, r2) := H
    have A5 := Aside0.mk A50
    clear A50
    by_cases c6 : t263 = true
    · subst c6
      have H1 : ((seal_key_lock.f a1).bind fun t264 => (if a0_0 = t264 then (some (a0_1, 0)) else (some ((⟨#[]⟩ : ByteArray), 9)))) = some (r1, r2) := by rw [if_pos rfl] at H; exact H
      clear H
      have H := H1
      clear H1
      replace H := Option.bind_eq_some_iff.mp H
      obtain ⟨t264, A70, H⟩ := H
      replace H : (if a0_0 = t264 then (some (a0_1, 0)) else (some ((⟨#[]⟩ : ByteArray), 9))) = some (r1, r2) := H
      have A7 := Aside0.mk A70
      clear A70
      by_cases c8 : a0_0 = t264
      · rw [if_pos c8] at H
        have c8b0 : (a0_0 == t264) = true := beq_iff_eq.mpr c8
        have c8b1 : (a0_0 != t264) = false := bne_eq_false_iff_eq.mpr c8
        clear c8
        simp only [Option.some.injEq, Prod.mk.injEq] at H
        obtain ⟨rfl, rfl⟩ := H
        go_enter Try.func28, Try.ntmps28
        go_wp2_with (first | ((with_reducible refine gate_dst (N := 2) rfl ?_); refine box_event ?hg (N := 2) ?hd (cs := #[.int .i64 a0_0, .string a0_1]) (t := 55) ?hr ?_; (case hd => rfl); (case hg => rfl); (case hr => (go_simp; done)); intro gb261 hg w9 hbox hb; have n0_ := Aside0.mk (below_step HB.out hb); have n1_ := Aside0.mk (hbox); have n2_ := Aside0.mk ((by rw [hg]; exact (below_size HB.out) : w.heap.size ≤ gb261)); have n3_ := Aside0.mk ((by rw [hg]; exact (below_size HB.out) : w.heap.size ≤ gb261)); clear HB; have HB := n0_; have BK261 := n1_; have GW261 := n2_; have GE261 := n3_; clear n0_ n1_ n2_ n3_; clear hb hbox hg; have hcz10_0 : w9.cell? ⟨gb261, 0, none⟩ = some (.int .i64 a0_0) := (blk_cell BK261.out 0).trans rfl; have hcz10_1 : w9.cell? ⟨gb261, 1, none⟩ = some (.string a0_1) := (blk_cell BK261.out 1).trans rfl; have hfz10_0 := blk_frozen BK261.out 0; have hfz10_1 := blk_frozen BK261.out 1) | (go_at_call 35; (with_reducible refine (seal_valid.calls a0_0 a0_1 true _ A3.out).mono ?_); rintro e w11 ⟨rfl, hb⟩; have n0_ := Aside0.mk (blk_below (g := gb261) (o := .cells #[.int .i64 a0_0, .string a0_1] 55 (0, 0)) (by exact BK261.out) hb); have n1_ := Aside0.mk (below_step HB.out hb); clear BK261 HB; have BK261 := n0_; have HB := n1_; clear n0_ n1_; clear hb) | (go_at_call 33; (with_reducible refine (seal_key_valid.calls a1 true _ A5.out).mono ?_); rintro e w' ⟨rfl, ⟨nd, rfl⟩⟩; have hcz12_0 : w11.cell? ⟨gb261, 0, none⟩ = some (.int .i64 a0_0) := (blk_cell BK261.out 0).trans rfl; have hcz12_1 : w11.cell? ⟨gb261, 1, none⟩ = some (.string a0_1) := (blk_cell BK261.out 1).trans rfl; have hfz12_0 := blk_frozen BK261.out 0; have hfz12_1 := blk_frozen BK261.out 1))
        repeat (go_quiet ((go_at_call 34; (with_reducible refine (seal_key_lock.calls a1 t264 _ A7.out).mono ?_); rintro e w' ⟨rfl, ⟨nd, rfl⟩⟩; ((exact ⟨rfl, _, Eq.trans (World.drewN_drewN _ _ _) (congrArg (World.drewN _) (Nat.add_assoc _ _ _))⟩)))); (go_wp2_with (fail)))
        go_ret2
        exact ⟨by (rfl), by repeat ((with_reducible first | exact HB.out | apply pw_below_drewN))⟩
      · rw [if_neg c8] at H
        have c8b0 : (a0_0 == t264) = false := beq_eq_false_iff_ne.mpr c8
        have c8b1 : (a0_0 != t264) = true := bne_iff_ne.mpr c8
        simp only [Option.some.injEq, Prod.mk.injEq] at H
        obtain ⟨rfl, rfl⟩ := H
        go_enter Try.func28, Try.ntmps28
        go_wp2_with (first | ((with_reducible refine gate_dst (N := 2) rfl ?_); refine box_event ?hg (N := 2) ?hd (cs := #[.int .i64 a0_0, .string a0_1]) (t := 55) ?hr ?_; (case hd => rfl); (case hg => rfl); (case hr => (go_simp; done)); intro gb261 hg w13 hbox hb; have n0_ := Aside0.mk (below_step HB.out hb); have n1_ := Aside0.mk (hbox); have n2_ := Aside0.mk ((by rw [hg]; exact (below_size HB.out) : w.heap.size ≤ gb261)); have n3_ := Aside0.mk ((by rw [hg]; exact (below_size HB.out) : w.heap.size ≤ gb261)); clear HB; have HB := n0_; have BK261 := n1_; have GW261 := n2_; have GE261 := n3_; clear n0_ n1_ n2_ n3_; clear hb hbox hg; have hcz14_0 : w13.cell? ⟨gb261, 0, none⟩ = some (.int .i64 a0_0) := (blk_cell BK261.out 0).trans rfl; have hcz14_1 : w13.cell? ⟨gb261, 1, none⟩ = some (.string a0_1) := (blk_cell BK261.out 1).trans rfl; have hfz14_0 := blk_frozen BK261.out 0; have hfz14_1 := blk_frozen BK261.out 1) | (go_at_call 35; (with_reducible refine (seal_valid.calls a0_0 a0_1 true _ A3.out).mono ?_); rintro e w15 ⟨rfl, hb⟩; have n0_ := Aside0.mk (blk_below (g := gb261) (o := .cells #[.int .i64 a0_0, .string a0_1] 55 (0, 0)) (by exact BK261.out) hb); have n1_ := Aside0.mk (below_step HB.out hb); clear BK261 HB; have BK261 := n0_; have HB := n1_; clear n0_ n1_; clear hb) | (go_at_call 33; (with_reducible refine (seal_key_valid.calls a1 true _ A5.out).mono ?_); rintro e w' ⟨rfl, ⟨nd, rfl⟩⟩; have hcz16_0 : w15.cell? ⟨gb261, 0, none⟩ = some (.int .i64 a0_0) := (blk_cell BK261.out 0).trans rfl; have hcz16_1 : w15.cell? ⟨gb261, 1, none⟩ = some (.string a0_1) := (blk_cell BK261.out 1).trans rfl; have hfz16_0 := blk_frozen BK261.out 0; have hfz16_1 := blk_frozen BK261.out 1))
        repeat (go_quiet ((go_at_call 34; (with_reducible refine (seal_key_lock.calls a1 t264 _ A7.out).mono ?_); rintro e w' ⟨rfl, ⟨nd, rfl⟩⟩; ((exact ⟨rfl, _, Eq.trans (World.drewN_drewN _ _ _) (congrArg (World.drewN _) (Nat.add_assoc _ _ _))⟩)))); (go_wp2_with (fail)))
        go_ret2
        exact ⟨by (rfl), by repeat ((with_reducible first | exact HB.out | apply pw_below_drewN))⟩
    · replace c6 := Bool.eq_false_iff.mpr c6
      subst c6
      have H1 : (none) = some (r1, r2) := by rw [if_neg (show ¬ (false = true) by decide)] at H; exact H
      clear H
      have H := H1
      clear H1
      exact absurd H (by simp)
  · replace c4 := Bool.eq_false_iff.mpr c4
    subst c4
    have H1 : (none) = some (r1, r2) := by rw [if_neg (show ¬ (false = true) by decide)] at H; exact H
    clear H
    have H := H1
    clear H1
    exact absurd H (by simp)

end Go.Proofs.Ythfddndmhjkeiaa.L
end
section
-- Printed for this claim by a small program of the session's own, drv.py, round the kit's print.py. Lean checks it.
namespace Go.Proofs.Ythfddndmhjkeiaa.L
open Go.RowKit Go.Proofs.YthfddndmhjkeiaaW.PrintWords Go.Proofs.YthfddndmhjkeiaaW.PrintLast Go.Proofs.YthfddndmhjkeiaaW.PrintMore
attribute [local go_sem] max2_int min2_int max_two min_two max_three min_three max_four min_four   -- for this text's walks alone
set_option linter.unusedVariables false
set_option linter.unusedSimpArgs false

/-! ### stripe_Read: function 16 -/
def stripe_Read.f (k : Nat) (a0_0 : Int) (a0_1 : Int) (a0_2 : Int) (l0_3 : List Int) (l1 : List (S41)) (a2 : Int) : Option (ByteArray × Int) := (stripe_Check.f a0_0 a0_1 a0_2 l0_3).bind fun t266 => (if t266 = 0 then ((stripe_kept.f a0_0 a0_1 a0_2 l0_3 l1).bind fun t267 => ((erasure_Decode.f a0_0 a0_1 a0_2 t267).bind fun bt270 => (if bt270.2 = 0 then ((seal_Decode.f k bt270.1 0).bind fun bt272 => (if bt272.2.2.2 = 0 then (if bt272.2.2.1 < (bt270.1.size : Int) then (none) else ((seal_Open.f bt272.1 bt272.2.1 a2).bind fun bt277 => (some (bt277.1, bt277.2)))) else (none))) else (some ((⟨#[]⟩ : ByteArray), bt270.2))))) else (none))
theorem stripe_Read.mono : ∀ a0 a1 a2 a3 a4 a5 k, LeO (stripe_Read.f k a0 a1 a2 a3 a4 a5) (stripe_Read.f (k + 1) a0 a1 a2 a3 a4 a5) := by
  intro a0 a1 a2 a3 a4 a5 k
  unfold stripe_Read.f
  repeat' first | (with_reducible exact seal_Decode.mono _ _ _) | (with_reducible exact LeO.refl _) | (with_reducible refine LeO.ite ?_ ?_) | (with_reducible refine LeO.bind ?_ (fun _ => ?_))
def stripe_Read.T4 : Bool × List (List Nat × List Nat) := (true, [([], []), ([0], [0]), ([], []), ([2], [2]), ([], []), ([], []), ([4, 5], [4, 5]), ([1, 3, 6, 6], [1, 3, 6]), ([7], [7]), ([8], [8]), ([8], [8]), ([9, 7, 0, 1, 2, 3, 4, 5, 6, 7, 8, 9], [9]), ([10, 11, 0, 1, 2, 3, 4, 5, 6, 7, 8, 9, 10, 11], [10])])
def stripe_Read.B4 : List Nat := [0, 1, 0, 4, 0, 0, 48, 127, 255, 511, 511, 1023, 4095]
theorem stripe_Read.tab4 : rtab .any (opsOf Try.f16 4) = stripe_Read.T4 := by kernel_rfl
theorem stripe_Read.bits4 : waitsOk stripe_Read.T4.2 stripe_Read.B4 = true := by kernel_rfl
set_option maxHeartbeats 8000000 in
set_option maxRecDepth 100000 in
theorem stripe_Read.calls (k : Nat) (a0_0 : Int) (a0_1 : Int) (a0_2 : Int) (A0_3 : Option Addr) (c0_3 : Nat) (l0_3 : List Int) (A1 : Option Addr) (c1 : Nat) (l1 : List (S41)) (a2 : Int) (r1 : ByteArray) (r2 : Int) (w : World) (hr0_3 : Kd.C (Kd.int .i64) w A0_3 l0_3.length l0_3) (hc0_3 : l0_3.length ≤ c0_3) (hr1 : Kd.C k41 w A1 l1.length l1) (hc1 : l1.length ≤ c1) (h : stripe_Read.f k a0_0 a0_1 a0_2 l0_3 l1 a2 = some (r1, r2)) :
    Calls Try.prog 16 #[.agg #[.int .i64 a0_0, .int .i64 a0_1, .int .i64 a0_2, .slice A0_3 l0_3.length c0_3], .slice A1 l1.length c1, .int .i64 a2] w fun e w' => e = .returned (.tuple #[.string r1, .int .i64 r2]) ∧ Below w.heap.size w w' := by
  have hu34 := Try.underlying34
  have hu30 := Try.underlying30
  have hu55 := Try.underlying55
  have HR0_3 := Aside0.mk hr0_3
  have HC0_3 := Aside0.mk hc0_3
  clear hr0_3 hc0_3
  have HR1 := Aside0.mk hr1
  have HC1 := Aside0.mk hc1
  clear hr1 hc1
  have HB := Aside0.mk (Below.refl w.heap.size w)
  have H : ((stripe_Check.f a0_0 a0_1 a0_2 l0_3).bind fun t266 => (if t266 = 0 then ((stripe_kept.f a0_0 a0_1 a0_2 l0_3 l1).bind fun t267 => ((erasure_Decode.f a0_0 a0_1 a0_2 t267).bind fun bt270 => (if bt270.2 = 0 then ((seal_Decode.f k bt270.1 0).bind fun bt272 => (if bt272.2.2.2 = 0 then (if bt272.2.2.1 < (bt270.1.size : Int) then (none) else ((seal_Open.f bt272.1 bt272.2.1 a2).bind fun bt277 => (some (bt277.1, bt277.2)))) else (none))) else (some ((⟨#[]⟩ : ByteArray), bt270.2))))) else (none))) = some (r1, r2) := h
  clear h
  replace H := Option.bind_eq_some_iff.mp H
  obtain ⟨t266, A40, H⟩ := H
  replace H : (if t266 = 0 then ((stripe_kept.f a0_0 a0_1 a0_2 l0_3 l1).bind fun t267 => ((erasure_Decode.f a0_0 a0_1 a0_2 t267).bind fun bt270 => (if bt270.2 = 0 then ((seal_Decode.f k bt270.1 0).bind fun bt272 => (if bt272.2.2.2 = 0 then (if bt272.2.2.1 < (bt270.1.size : Int) then (none) else ((seal_Open.f bt272.1 bt272.2.1 a2).bind fun bt277 => (some (bt277.1, bt277.2)))) else (none))) else (some ((⟨#[]⟩ : ByteArray), bt270.2))))) else (none)) = some (r1, r2) := H
  have A4 := Aside0.mk A40
  clear A40
  by_cases c5 : t266 = 0
  · rw [if_pos c5] at H
    have c5b0 : (t266 == 0) = true := beq_iff_eq.mpr c5
    have c5b1 : (t266 != 0) = false := bne_eq_false_iff_eq.mpr c5
    clear c5
    replace H := Option.bind_eq_some_iff.mp H
    obtain ⟨t267, A60, H⟩ := H
    replace H : ((erasure_Decode.f a0_0 a0_1 a0_2 t267).bind fun bt270 => (if bt270.2 = 0 then ((seal_Decode.f k bt270.1 0).bind fun bt272 => (if bt272.2.2.2 = 0 then (if bt272.2.2.1 < (bt270.1.size : Int) then (none) else ((seal_Open.f bt272.1 bt272.2.1 a2).bind fun bt277 => (some (bt277.1, bt277.2)))) else (none))) else (some ((⟨#[]⟩ : ByteArray), bt270.2)))) = some (r1, r2) := H
    have A6 := Aside0.mk A60
    clear A60
    replace H := Option.bind_eq_some_iff.mp H
    obtain ⟨⟨t270, t271⟩, A70, H⟩ := H
    replace H : (if t271 = 0 then ((seal_Decode.f k t270 0).bind fun bt272 => (if bt272.2.2.2 = 0 then (if bt272.2.2.1 < (t270.size : Int) then (none) else ((seal_Open.f bt272.1 bt272.2.1 a2).bind fun bt277 => (some (bt277.1, bt277.2)))) else (none))) else (some ((⟨#[]⟩ : ByteArray), t271))) = some (r1, r2) := H
    have A7 := Aside0.mk A70
    clear A70
    by_cases c8 : t271 = 0
    · rw [if_pos c8] at H
      have c8b0 : (t271 == 0) = true := beq_iff_eq.mpr c8
      have c8b1 : (t271 != 0) = false := bne_eq_false_iff_eq.mpr c8
      clear c8
      replace H := Option.bind_eq_some_iff.mp H
      obtain ⟨⟨t272, t273, t274, t275⟩, A90, H⟩ := H
      replace H : (if t275 = 0 then (if t274 < (t270.size : Int) then (none) else ((seal_Open.f t272 t273 a2).bind fun bt277 => (some (bt277.1, bt277.2)))) else (none)) = some (r1, r2) := H
      have A9 := Aside0.mk A90
      clear A90
      by_cases c10 : t275 = 0
      · rw [if_pos c10] at H
        have c10b0 : (t275 == 0) = true := beq_iff_eq.mpr c10
        have c10b1 : (t275 != 0) = false := bne_eq_false_iff_eq.mpr c10
        clear c10
        by_cases c11 : t274 < (t270.size : Int)
        · rw [if_pos c11] at H
          exact absurd H (by simp)
        · rw [if_neg c11] at H
          have c11b0 : decide (t274 < (t270.size : Int)) = false := decide_eq_false c11
          clear c11
          replace H := Option.bind_eq_some_iff.mp H
          obtain ⟨⟨t277, t278⟩, A120, H⟩ := H
          replace H : (some (t277, t278)) = some (r1, r2) := H
          have A12 := Aside0.mk A120
          clear A120
          simp only [Option.some.injEq, Prod.mk.injEq] at H
          obtain ⟨rfl, rfl⟩ := H
          go_enter Try.func16, Try.ntmps16
          (go_wp2_with (first | ((with_reducible refine gate_dst (N := 3) rfl ?_); ((refine gate_guard (by rfl) ?_; dsimp only)); refine box_event ?hg (N := 3) ?hd (cs := #[.int .i64 a0_0, .int .i64 a0_1, .int .i64 a0_2, .slice A0_3 l0_3.length c0_3]) (t := 34) ?hr ?_; (case hd => rfl); (case hg => rfl); (case hr => (go_simp; done)); intro gb265 hg w13 hbox hb; have n0_ := Aside0.mk (below_step HB.out hb); have n1_ := Aside0.mk (hbox); have n2_ := Aside0.mk ((by rw [hg]; exact (below_size HB.out) : w.heap.size ≤ gb265)); have n3_ := Aside0.mk ((by rw [hg]; exact (below_size HB.out) : w.heap.size ≤ gb265)); clear HB; have HB := n0_; have BK265 := n1_; have GW265 := n2_; have GE265 := n3_; clear n0_ n1_ n2_ n3_; clear hb hbox hg; have hcz14_0 : w13.cell? ⟨gb265, 0, none⟩ = some (.int .i64 a0_0) := (blk_cell BK265.out 0).trans rfl; have hcz14_1 : w13.cell? ⟨gb265, 1, none⟩ = some (.int .i64 a0_1) := (blk_cell BK265.out 1).trans rfl; have hcz14_2 : w13.cell? ⟨gb265, 2, none⟩ = some (.int .i64 a0_2) := (blk_cell BK265.out 2).trans rfl; have hcz14_3 : w13.cell? ⟨gb265, 3, none⟩ = some (.slice A0_3 l0_3.length c0_3) := (blk_cell BK265.out 3).trans rfl; have hfz14_0 := blk_frozen BK265.out 0; have hfz14_1 := blk_frozen BK265.out 1; have hfz14_2 := blk_frozen BK265.out 2; have hfz14_3 := blk_frozen BK265.out 3) | ((with_reducible refine gate_callee (f := 18) rfl ?_); refine goesL_ (some 14) rfl rfl Try.func18 (by kernel_rfl) rfl #[.agg #[.int .i64 a0_0, .int .i64 a0_1, .int .i64 a0_2, .slice A0_3 l0_3.length c0_3]] rfl (by ((simp only [List.map_toArray, List.map_cons, List.map_nil])); (rfl)) ?_; (with_reducible refine (stripe_Check.calls a0_0 a0_1 a0_2 _ _ l0_3 t266 _ ?side1 ?side2 A4.out).mono ?_); (case side1 => repeat ((exact (Kd.C_below HR0_3.out HB.out)))); (case side2 => exact HC0_3.out); rintro e w15 ⟨rfl, hb⟩; refine ⟨_, rfl, ?_⟩; have n0_ := Aside0.mk (blk_below (g := gb265) (o := .cells #[.int .i64 a0_0, .int .i64 a0_1, .int .i64 a0_2, .slice A0_3 l0_3.length c0_3] 34 (0, 0)) (by exact BK265.out) hb); have n1_ := Aside0.mk (below_step HB.out hb); clear BK265 HB; have BK265 := n0_; have HB := n1_; clear n0_ n1_; clear hb)))
          have n0_ := Aside0.mk (blk_drew BK265.out)
          have n1_ := Aside0.mk (below_drew1 HB.out)
          clear BK265 HB
          have BK265 := n0_
          have HB := n1_
          clear n0_ n1_
          refine start_ (n := 13) (S := fun w' => w'.cell? ⟨gb265, 0, none⟩ = some (.int .i64 a0_0) ∧ w'.cell? ⟨gb265, 1, none⟩ = some (.int .i64 a0_1) ∧ w'.cell? ⟨gb265, 2, none⟩ = some (.int .i64 a0_2) ∧ w'.cell? ⟨gb265, 3, none⟩ = some (.slice A0_3 l0_3.length c0_3)) (ds := []) #[false, false, false, false, false, false, false, false, false, false, false, false, false] (by kernel_rfl) rfl rfl ⟨(blk_cell BK265.out 0).trans rfl, (blk_cell BK265.out 1).trans rfl, (blk_cell BK265.out 2).trans rfl, (blk_cell BK265.out 3).trans rfl⟩ (fun hHeld => ?_); refine with_tabW stripe_Read.tab4 stripe_Read.bits4 (fun HT_ HW_ => ?_)
          generalize w15.drew = w16 at BK265 HB hHeld ⊢
          refine pure_ (i := 0) (N := some 19) (v := ?_) (a' := ?_) #[true, false, false, false, false, false, false, false, false, false, false, false, false] rfl rfl (any_of HT_.out (by kernel_rfl)) (fun _ _ _ h => h) (Or.inl ⟨by rfl, ?_⟩) ?_ ?_
          rotate_left
          · intro w'
            go_simp
            with_reducible rfl
          rotate_left
          · simp only [Act.put, List.setIfInBounds_toArray, List.set_cons_zero, List.set_cons_succ, i64_w, i32_w]
            rfl
          refine pure_ (i := 2) (N := some 21) (v := ?_) (a' := ?_) #[true, false, true, false, false, false, false, false, false, false, false, false, false] rfl rfl (any_of HT_.out (by kernel_rfl)) (fun _ _ _ h => h) (Or.inl ⟨by rfl, ?_⟩) ?_ ?_
          rotate_left
          · intro w'
            go_simp
            with_reducible rfl
          rotate_left
          · simp only [Act.put, List.setIfInBounds_toArray, List.set_cons_zero, List.set_cons_succ, i64_w, i32_w]
            rfl
          refine pure_ (i := 5) (N := some 24) (v := ?_) (a' := ?_) #[true, false, true, false, false, true, false, false, false, false, false, false, false] rfl rfl (any_of HT_.out (by kernel_rfl)) (fun _ _ _ h => h) (Or.inl ⟨by rfl, ?_⟩) ?_ ?_
          rotate_left
          · intro w'
            go_simp
            with_reducible rfl
          rotate_left
          · simp only [Act.put, List.setIfInBounds_toArray, List.set_cons_zero, List.set_cons_succ, i64_w, i32_w]
            rfl
          refine take_ (i := 1) (N := some 20) (v := ?_) (a' := ?_) #[true, true, true, false, false, true, false, false, false, false, false, false, false] rfl rfl (take_ofW HT_.out HW_.out (by kernel_rfl)) (fun _ _ _ h => h) (Or.inl ⟨by rfl, ?_⟩) hHeld ?_ ?_
          rotate_left
          · rintro w' ⟨s0, s1, s2, s3⟩
            go_simp
            with_reducible rfl
          rotate_left
          · simp only [Act.put, List.setIfInBounds_toArray, List.set_cons_zero, List.set_cons_succ, i64_w, i32_w]
            rfl
          refine take_ (i := 3) (N := some 22) (v := ?_) (a' := ?_) #[true, true, true, true, false, true, false, false, false, false, false, false, false] rfl rfl (take_ofW HT_.out HW_.out (by kernel_rfl)) (fun _ _ _ h => h) (Or.inl ⟨by rfl, ?_⟩) hHeld ?_ ?_
          rotate_left
          · rintro w' ⟨s0, s1, s2, s3⟩
            go_simp
            with_reducible rfl
          rotate_left
          · simp only [Act.put, List.setIfInBounds_toArray, List.set_cons_zero, List.set_cons_succ, i64_w, i32_w]
            rfl
          refine take_ (i := 4) (N := some 23) (v := ?_) (a' := ?_) #[true, true, true, true, true, true, false, false, false, false, false, false, false] rfl rfl (take_ofW HT_.out HW_.out (by kernel_rfl)) (fun _ _ _ h => h) (Or.inl ⟨by rfl, ?_⟩) hHeld ?_ ?_
          rotate_left
          · rintro w' ⟨s0, s1, s2, s3⟩
            go_simp
            with_reducible rfl
          rotate_left
          · simp only [Act.put, List.setIfInBounds_toArray, List.set_cons_zero, List.set_cons_succ, i64_w, i32_w]
            rfl
          refine one_ (i := 6) (N := some 25) #[true, true, true, true, true, true, true, false, false, false, false, false, false] rfl rfl (one_of HT_.out (by kernel_rfl)) (by decide) (fun K hK => ?_)
          refine goes_ Try.func26 (by kernel_rfl) rfl #[.agg #[.int .i64 a0_0, .int .i64 a0_1, .int .i64 a0_2, .slice A0_3 l0_3.length c0_3], .slice A1 l1.length c1] (by rfl) rfl rfl (by ((simp only [List.map_toArray, List.map_cons, List.map_nil])); (rfl)) ?_
          with_reducible refine (stripe_kept.calls a0_0 a0_1 a0_2 _ _ l0_3 _ _ l1 t267 _ ?side1 ?side2 ?side3 ?side4 A6.out).mono ?_
          (case side1 => repeat ((exact (Kd.C_below HR0_3.out HB.out))))
          (case side2 => exact HC0_3.out)
          (case side3 => repeat ((exact (Kd.C_below HR1.out HB.out))))
          (case side4 => exact HC1.out)
          rintro e w17 ⟨v268, rfl, ho0, hb⟩
          refine ⟨_, rfl, ?_⟩
          have n0_ := Aside0.mk (Kd.R_lower ho0 (below_size HB.out))
          have n1_ := Aside0.mk (blk_below (g := gb265) (o := .cells #[.int .i64 a0_0, .int .i64 a0_1, .int .i64 a0_2, .slice A0_3 l0_3.length c0_3] 34 (0, 0)) (by exact BK265.out) hb)
          have n2_ := Aside0.mk (below_step HB.out hb)
          clear BK265 HB
          have HO269 := n0_
          have BK265 := n1_
          have HB := n2_
          clear n0_ n1_ n2_
          ((clear hb))
          ((clear ho0))
          obtain ⟨Ao18, co18, eo18⟩ := Kd.R_slice HO269.out
          ((subst eo18))
          refine hK.out _ _ ⟨(blk_cell BK265.out 0).trans rfl, (blk_cell BK265.out 1).trans rfl, (blk_cell BK265.out 2).trans rfl, (blk_cell BK265.out 3).trans rfl⟩ (fun hHeld => ?_)
          clear hK K
          refine norm_ (a' := ?_) ?_ ?_
          rotate_left
          · show Act.put _ (some 25) _ = _
            simp only [Act.put, List.setIfInBounds_toArray, List.set_cons_zero, List.set_cons_succ, i64_w, i32_w]
            rfl
          refine one_ (i := 7) (N := some 26) #[true, true, true, true, true, true, true, true, false, false, false, false, false] rfl rfl (one_of HT_.out (by kernel_rfl)) (by decide) (fun K hK => ?_)
          refine goes_ Try.func25 (by kernel_rfl) rfl #[.agg #[.int .i64 a0_0, .int .i64 a0_1], .int .i64 a0_2, .slice Ao18 t267.length co18] (by rfl) rfl rfl (by ((simp only [List.map_toArray, List.map_cons, List.map_nil])); (rfl)) ?_
          with_reducible refine (erasure_Decode.calls a0_0 a0_1 a0_2 _ _ t267 t270 t271 _ ?side1 ?side2 A7.out).mono ?_
          (case side1 => repeat ((exact (Kd.R_reads' HO269.out).2.2)))
          (case side2 => exact (Kd.R_reads' HO269.out).2.1)
          rintro e w19 ⟨rfl, hb⟩
          refine ⟨_, rfl, ?_⟩
          have n0_ := Aside0.mk (Kd.R_below (by exact HO269.out) hb)
          have n1_ := Aside0.mk (blk_below (g := gb265) (o := .cells #[.int .i64 a0_0, .int .i64 a0_1, .int .i64 a0_2, .slice A0_3 l0_3.length c0_3] 34 (0, 0)) (by exact BK265.out) hb)
          have n2_ := Aside0.mk (below_step HB.out hb)
          clear HO269 BK265 HB
          have HO269 := n0_
          have BK265 := n1_
          have HB := n2_
          clear n0_ n1_ n2_
          ((clear hb))
          refine hK.out _ _ ⟨(blk_cell BK265.out 0).trans rfl, (blk_cell BK265.out 1).trans rfl, (blk_cell BK265.out 2).trans rfl, (blk_cell BK265.out 3).trans rfl⟩ (fun hHeld => ?_)
          clear hK K
          refine norm_ (a' := ?_) ?_ ?_
          rotate_left
          · show Act.put _ (some 26) _ = _
            simp only [Act.put, List.setIfInBounds_toArray, List.set_cons_zero, List.set_cons_succ, i64_w, i32_w]
            rfl
          refine pure_ (i := 8) (N := some 18) (v := ?_) (a' := ?_) #[true, true, true, true, true, true, true, true, true, false, false, false, false] rfl rfl (any_of HT_.out (by kernel_rfl)) (fun _ _ _ h => h) (Or.inl ⟨by rfl, ?_⟩) ?_ ?_
          rotate_left
          · intro w'
            go_simp
            with_reducible rfl
          rotate_left
          · simp only [Act.put, List.setIfInBounds_toArray, List.set_cons_zero, List.set_cons_succ, i64_w, i32_w]
            rfl
          refine pure_ (i := 9) (N := some 27) (v := ?_) (a' := ?_) #[true, true, true, true, true, true, true, true, true, true, false, false, false] rfl rfl (any_of HT_.out (by kernel_rfl)) (fun _ _ _ h => h) (Or.inl ⟨by rfl, ?_⟩) ?_ ?_
          rotate_left
          · intro w'
            go_simp
            with_reducible rfl
          rotate_left
          · simp only [Act.put, List.setIfInBounds_toArray, List.set_cons_zero, List.set_cons_succ, i64_w, i32_w]
            rfl
          refine pure_ (i := 10) (N := some 28) (v := ?_) (a' := ?_) #[true, true, true, true, true, true, true, true, true, true, true, false, false] rfl rfl (any_of HT_.out (by kernel_rfl)) (fun _ _ _ h => h) (Or.inl ⟨by rfl, ?_⟩) ?_ ?_
          rotate_left
          · intro w'
            go_simp
            with_reducible rfl
          rotate_left
          · simp only [Act.put, List.setIfInBounds_toArray, List.set_cons_zero, List.set_cons_succ, i64_w, i32_w]
            rfl
          refine pure_ (i := 11) (N := some 9) (v := ?_) (a' := ?_) #[true, true, true, true, true, true, true, true, true, true, true, true, false] rfl rfl (any_of HT_.out (by kernel_rfl)) (fun _ _ _ h => h) (Or.inl ⟨by rfl, ?_⟩) ?_ ?_
          rotate_left
          · intro w'
            go_simp
            with_reducible rfl
          rotate_left
          · simp only [Act.put, List.setIfInBounds_toArray, List.set_cons_zero, List.set_cons_succ, i64_w, i32_w]
            rfl
          refine pure_ (i := 12) (N := some 10) (v := ?_) (a' := ?_) #[true, true, true, true, true, true, true, true, true, true, true, true, true] rfl rfl (any_of HT_.out (by kernel_rfl)) (fun _ _ _ h => h) (Or.inl ⟨by rfl, ?_⟩) ?_ ?_
          rotate_left
          · intro w'
            go_simp
            with_reducible rfl
          rotate_left
          · simp only [Act.put, List.setIfInBounds_toArray, List.set_cons_zero, List.set_cons_succ, i64_w, i32_w]
            rfl
          refine done_ (done_of HT_.out (by kernel_rfl)) ?_
          (go_wp2_with (first | ((with_reducible refine gate_callee (f := 27) rfl ?_); refine goesL_ (some 34) rfl rfl Try.func27 (by kernel_rfl) rfl #[.string t270, .int .i64 0] rfl (by ((simp only [List.map_toArray, List.map_cons, List.map_nil])); (rfl)) ?_; (with_reducible refine (seal_Decode.calls k t270 0 t272 t273 t274 t275 _ A9.out).mono ?_); rintro e w20 ⟨rfl, hb⟩; refine ⟨_, rfl, ?_⟩; have n0_ := Aside0.mk (Kd.R_below (by exact HO269.out) hb); have n1_ := Aside0.mk (blk_below (g := gb265) (o := .cells #[.int .i64 a0_0, .int .i64 a0_1, .int .i64 a0_2, .slice A0_3 l0_3.length c0_3] 34 (0, 0)) (by exact BK265.out) hb); have n2_ := Aside0.mk (below_step HB.out hb); clear HO269 BK265 HB; have HO269 := n0_; have BK265 := n1_; have HB := n2_; clear n0_ n1_ n2_; clear hb) | ((with_reducible refine gate_dst (N := 11) rfl ?_); ((refine gate_guard (by rfl) ?_; dsimp only)); refine box_event ?hg (N := 11) ?hd (cs := #[.int .i64 0, .string (⟨#[]⟩ : ByteArray)]) (t := 55) ?hr ?_; (case hd => rfl); (case hg => rfl); (case hr => (go_simp; done)); intro gb276 hg w21 hbox hb; have n0_ := Aside0.mk (Kd.R_below (by exact HO269.out) hb); have n1_ := Aside0.mk (blk_below (g := gb265) (o := .cells #[.int .i64 a0_0, .int .i64 a0_1, .int .i64 a0_2, .slice A0_3 l0_3.length c0_3] 34 (0, 0)) (by exact BK265.out) hb); have n2_ := Aside0.mk (below_step HB.out hb); have n3_ := Aside0.mk (hbox); have n4_ := Aside0.mk ((by rw [hg]; exact (below_size HB.out) : w.heap.size ≤ gb276)); have n5_ := Aside0.mk ((by rw [hg]; exact (below_size HB.out) : w.heap.size ≤ gb276)); have n6_ := Aside0.mk ((by rw [hg]; exact Nat.ne_of_lt (blk_lt (g := gb265) (o := .cells #[.int .i64 a0_0, .int .i64 a0_1, .int .i64 a0_2, .slice A0_3 l0_3.length c0_3] 34 (0, 0)) (by exact BK265.out)) : gb265 ≠ gb276)); have n7_ := Aside0.mk ((by rw [hg]; exact Nat.ne_of_gt (blk_lt (g := gb265) (o := .cells #[.int .i64 a0_0, .int .i64 a0_1, .int .i64 a0_2, .slice A0_3 l0_3.length c0_3] 34 (0, 0)) (by exact BK265.out)) : gb276 ≠ gb265)); clear HO269 BK265 HB; have HO269 := n0_; have BK265 := n1_; have HB := n2_; have BK276 := n3_; have GW276 := n4_; have GE276 := n5_; have NB265_276 := n6_; have NB276_265 := n7_; clear n0_ n1_ n2_ n3_ n4_ n5_ n6_ n7_; clear hb hbox hg; have hnb22 := NB276_265.out; have hnc22 := NB265_276.out; have hcz23_0 : w21.cell? ⟨gb276, 0, none⟩ = some (.int .i64 0) := (blk_cell BK276.out 0).trans rfl; have hcz23_1 : w21.cell? ⟨gb276, 1, none⟩ = some (.string (⟨#[]⟩ : ByteArray)) := (blk_cell BK276.out 1).trans rfl; have hfz23_0 := blk_frozen BK276.out 0; have hfz23_1 := blk_frozen BK276.out 1) | ((with_reducible refine gate_callee (f := 28) rfl ?_); refine goesL_ (some 48) rfl rfl Try.func28 (by kernel_rfl) rfl #[.agg #[.int .i64 t272, .string t273], .int .i64 a2] rfl (by ((simp only [List.map_toArray, List.map_cons, List.map_nil])); (rfl)) ?_; (with_reducible refine (seal_Open.calls t272 t273 a2 t277 t278 _ A12.out).mono ?_); rintro e w24 ⟨rfl, hb⟩; refine ⟨_, rfl, ?_⟩; have n0_ := Aside0.mk (Kd.R_below (by exact (Kd.R_mono (Kd.R_far (p := ⟨gb276, 1, none⟩) (Kd.R_far (p := ⟨gb276, 0, none⟩) (Kd.R_types HO269.out BK276.out (by decide)) (fun _ hk => hk.2) (.int .i64 t272)) (fun _ hk => hk.2) (.string t273)) (fun _ h_ => h_.1))) hb); have n1_ := Aside0.mk (blk_below (g := gb265) (o := .cells #[.int .i64 a0_0, .int .i64 a0_1, .int .i64 a0_2, .slice A0_3 l0_3.length c0_3] 34 (0, 0)) (by refine blk_far ?_ NB265_276.out _; refine blk_far ?_ NB265_276.out _; exact BK265.out) hb); have n2_ := Aside0.mk (blk_below (g := gb276) (o := .cells #[.int .i64 t272, .string t273] 55 (0, 0)) (by refine blk_put (cs := #[.int .i64 t272, .string (⟨#[]⟩ : ByteArray)]) ?_ 1 _ rfl; refine blk_put (cs := #[.int .i64 0, .string (⟨#[]⟩ : ByteArray)]) ?_ 0 _ rfl; exact BK276.out) hb); have n3_ := Aside0.mk (below_step (by repeat ((with_reducible first | exact HB.out | refine below_set ?_ GE276.out))) hb); clear HO269 BK265 BK276 HB; have HO269 := n0_; have BK265 := n1_; have BK276 := n2_; have HB := n3_; clear n0_ n1_ n2_ n3_; clear hb)))
          go_ret2
          exact ⟨by (rfl), HB.out⟩
      · rw [if_neg c10] at H
        exact absurd H (by simp)
    · rw [if_neg c8] at H
      have c8b0 : (t271 == 0) = false := beq_eq_false_iff_ne.mpr c8
      have c8b1 : (t271 != 0) = true := bne_iff_ne.mpr c8
      simp only [Option.some.injEq, Prod.mk.injEq] at H
      obtain ⟨rfl, rfl⟩ := H
      go_enter Try.func16, Try.ntmps16
      (go_wp2_with (first | ((with_reducible refine gate_dst (N := 3) rfl ?_); ((refine gate_guard (by rfl) ?_; dsimp only)); refine box_event ?hg (N := 3) ?hd (cs := #[.int .i64 a0_0, .int .i64 a0_1, .int .i64 a0_2, .slice A0_3 l0_3.length c0_3]) (t := 34) ?hr ?_; (case hd => rfl); (case hg => rfl); (case hr => (go_simp; done)); intro gb265 hg w25 hbox hb; have n0_ := Aside0.mk (below_step HB.out hb); have n1_ := Aside0.mk (hbox); have n2_ := Aside0.mk ((by rw [hg]; exact (below_size HB.out) : w.heap.size ≤ gb265)); have n3_ := Aside0.mk ((by rw [hg]; exact (below_size HB.out) : w.heap.size ≤ gb265)); clear HB; have HB := n0_; have BK265 := n1_; have GW265 := n2_; have GE265 := n3_; clear n0_ n1_ n2_ n3_; clear hb hbox hg; have hcz26_0 : w25.cell? ⟨gb265, 0, none⟩ = some (.int .i64 a0_0) := (blk_cell BK265.out 0).trans rfl; have hcz26_1 : w25.cell? ⟨gb265, 1, none⟩ = some (.int .i64 a0_1) := (blk_cell BK265.out 1).trans rfl; have hcz26_2 : w25.cell? ⟨gb265, 2, none⟩ = some (.int .i64 a0_2) := (blk_cell BK265.out 2).trans rfl; have hcz26_3 : w25.cell? ⟨gb265, 3, none⟩ = some (.slice A0_3 l0_3.length c0_3) := (blk_cell BK265.out 3).trans rfl; have hfz26_0 := blk_frozen BK265.out 0; have hfz26_1 := blk_frozen BK265.out 1; have hfz26_2 := blk_frozen BK265.out 2; have hfz26_3 := blk_frozen BK265.out 3) | ((with_reducible refine gate_callee (f := 18) rfl ?_); refine goesL_ (some 14) rfl rfl Try.func18 (by kernel_rfl) rfl #[.agg #[.int .i64 a0_0, .int .i64 a0_1, .int .i64 a0_2, .slice A0_3 l0_3.length c0_3]] rfl (by ((simp only [List.map_toArray, List.map_cons, List.map_nil])); (rfl)) ?_; (with_reducible refine (stripe_Check.calls a0_0 a0_1 a0_2 _ _ l0_3 t266 _ ?side1 ?side2 A4.out).mono ?_); (case side1 => repeat ((exact (Kd.C_below HR0_3.out HB.out)))); (case side2 => exact HC0_3.out); rintro e w27 ⟨rfl, hb⟩; refine ⟨_, rfl, ?_⟩; have n0_ := Aside0.mk (blk_below (g := gb265) (o := .cells #[.int .i64 a0_0, .int .i64 a0_1, .int .i64 a0_2, .slice A0_3 l0_3.length c0_3] 34 (0, 0)) (by exact BK265.out) hb); have n1_ := Aside0.mk (below_step HB.out hb); clear BK265 HB; have BK265 := n0_; have HB := n1_; clear n0_ n1_; clear hb)))
      have n0_ := Aside0.mk (blk_drew BK265.out)
      have n1_ := Aside0.mk (below_drew1 HB.out)
      clear BK265 HB
      have BK265 := n0_
      have HB := n1_
      clear n0_ n1_
      refine start_ (n := 13) (S := fun w' => w'.cell? ⟨gb265, 0, none⟩ = some (.int .i64 a0_0) ∧ w'.cell? ⟨gb265, 1, none⟩ = some (.int .i64 a0_1) ∧ w'.cell? ⟨gb265, 2, none⟩ = some (.int .i64 a0_2) ∧ w'.cell? ⟨gb265, 3, none⟩ = some (.slice A0_3 l0_3.length c0_3)) (ds := []) #[false, false, false, false, false, false, false, false, false, false, false, false, false] (by kernel_rfl) rfl rfl ⟨(blk_cell BK265.out 0).trans rfl, (blk_cell BK265.out 1).trans rfl, (blk_cell BK265.out 2).trans rfl, (blk_cell BK265.out 3).trans rfl⟩ (fun hHeld => ?_); refine with_tabW stripe_Read.tab4 stripe_Read.bits4 (fun HT_ HW_ => ?_)
      generalize w27.drew = w28 at BK265 HB hHeld ⊢
      refine pure_ (i := 0) (N := some 19) (v := ?_) (a' := ?_) #[true, false, false, false, false, false, false, false, false, false, false, false, false] rfl rfl (any_of HT_.out (by kernel_rfl)) (fun _ _ _ h => h) (Or.inl ⟨by rfl, ?_⟩) ?_ ?_
      rotate_left
      · intro w'
        go_simp
        with_reducible rfl
      rotate_left
      · simp only [Act.put, List.setIfInBounds_toArray, List.set_cons_zero, List.set_cons_succ, i64_w, i32_w]
        rfl
      refine pure_ (i := 2) (N := some 21) (v := ?_) (a' := ?_) #[true, false, true, false, false, false, false, false, false, false, false, false, false] rfl rfl (any_of HT_.out (by kernel_rfl)) (fun _ _ _ h => h) (Or.inl ⟨by rfl, ?_⟩) ?_ ?_
      rotate_left
      · intro w'
        go_simp
        with_reducible rfl
      rotate_left
      · simp only [Act.put, List.setIfInBounds_toArray, List.set_cons_zero, List.set_cons_succ, i64_w, i32_w]
        rfl
      refine pure_ (i := 5) (N := some 24) (v := ?_) (a' := ?_) #[true, false, true, false, false, true, false, false, false, false, false, false, false] rfl rfl (any_of HT_.out (by kernel_rfl)) (fun _ _ _ h => h) (Or.inl ⟨by rfl, ?_⟩) ?_ ?_
      rotate_left
      · intro w'
        go_simp
        with_reducible rfl
      rotate_left
      · simp only [Act.put, List.setIfInBounds_toArray, List.set_cons_zero, List.set_cons_succ, i64_w, i32_w]
        rfl
      refine take_ (i := 1) (N := some 20) (v := ?_) (a' := ?_) #[true, true, true, false, false, true, false, false, false, false, false, false, false] rfl rfl (take_ofW HT_.out HW_.out (by kernel_rfl)) (fun _ _ _ h => h) (Or.inl ⟨by rfl, ?_⟩) hHeld ?_ ?_
      rotate_left
      · rintro w' ⟨s0, s1, s2, s3⟩
        go_simp
        with_reducible rfl
      rotate_left
      · simp only [Act.put, List.setIfInBounds_toArray, List.set_cons_zero, List.set_cons_succ, i64_w, i32_w]
        rfl
      refine take_ (i := 3) (N := some 22) (v := ?_) (a' := ?_) #[true, true, true, true, false, true, false, false, false, false, false, false, false] rfl rfl (take_ofW HT_.out HW_.out (by kernel_rfl)) (fun _ _ _ h => h) (Or.inl ⟨by rfl, ?_⟩) hHeld ?_ ?_
      rotate_left
      · rintro w' ⟨s0, s1, s2, s3⟩
        go_simp
        with_reducible rfl
      rotate_left
      · simp only [Act.put, List.setIfInBounds_toArray, List.set_cons_zero, List.set_cons_succ, i64_w, i32_w]
        rfl
      refine take_ (i := 4) (N := some 23) (v := ?_) (a' := ?_) #[true, true, true, true, true, true, false, false, false, false, false, false, false] rfl rfl (take_ofW HT_.out HW_.out (by kernel_rfl)) (fun _ _ _ h => h) (Or.inl ⟨by rfl, ?_⟩) hHeld ?_ ?_
      rotate_left
      · rintro w' ⟨s0, s1, s2, s3⟩
        go_simp
        with_reducible rfl
      rotate_left
      · simp only [Act.put, List.setIfInBounds_toArray, List.set_cons_zero, List.set_cons_succ, i64_w, i32_w]
        rfl
      refine one_ (i := 6) (N := some 25) #[true, true, true, true, true, true, true, false, false, false, false, false, false] rfl rfl (one_of HT_.out (by kernel_rfl)) (by decide) (fun K hK => ?_)
      refine goes_ Try.func26 (by kernel_rfl) rfl #[.agg #[.int .i64 a0_0, .int .i64 a0_1, .int .i64 a0_2, .slice A0_3 l0_3.length c0_3], .slice A1 l1.length c1] (by rfl) rfl rfl (by ((simp only [List.map_toArray, List.map_cons, List.map_nil])); (rfl)) ?_
      with_reducible refine (stripe_kept.calls a0_0 a0_1 a0_2 _ _ l0_3 _ _ l1 t267 _ ?side1 ?side2 ?side3 ?side4 A6.out).mono ?_
      (case side1 => repeat ((exact (Kd.C_below HR0_3.out HB.out))))
      (case side2 => exact HC0_3.out)
      (case side3 => repeat ((exact (Kd.C_below HR1.out HB.out))))
      (case side4 => exact HC1.out)
      rintro e w29 ⟨v268, rfl, ho0, hb⟩
      refine ⟨_, rfl, ?_⟩
      have n0_ := Aside0.mk (Kd.R_lower ho0 (below_size HB.out))
      have n1_ := Aside0.mk (blk_below (g := gb265) (o := .cells #[.int .i64 a0_0, .int .i64 a0_1, .int .i64 a0_2, .slice A0_3 l0_3.length c0_3] 34 (0, 0)) (by exact BK265.out) hb)
      have n2_ := Aside0.mk (below_step HB.out hb)
      clear BK265 HB
      have HO269 := n0_
      have BK265 := n1_
      have HB := n2_
      clear n0_ n1_ n2_
      ((clear hb))
      ((clear ho0))
      obtain ⟨Ao30, co30, eo30⟩ := Kd.R_slice HO269.out
      ((subst eo30))
      refine hK.out _ _ ⟨(blk_cell BK265.out 0).trans rfl, (blk_cell BK265.out 1).trans rfl, (blk_cell BK265.out 2).trans rfl, (blk_cell BK265.out 3).trans rfl⟩ (fun hHeld => ?_)
      clear hK K
      refine norm_ (a' := ?_) ?_ ?_
      rotate_left
      · show Act.put _ (some 25) _ = _
        simp only [Act.put, List.setIfInBounds_toArray, List.set_cons_zero, List.set_cons_succ, i64_w, i32_w]
        rfl
      refine one_ (i := 7) (N := some 26) #[true, true, true, true, true, true, true, true, false, false, false, false, false] rfl rfl (one_of HT_.out (by kernel_rfl)) (by decide) (fun K hK => ?_)
      refine goes_ Try.func25 (by kernel_rfl) rfl #[.agg #[.int .i64 a0_0, .int .i64 a0_1], .int .i64 a0_2, .slice Ao30 t267.length co30] (by rfl) rfl rfl (by ((simp only [List.map_toArray, List.map_cons, List.map_nil])); (rfl)) ?_
      with_reducible refine (erasure_Decode.calls a0_0 a0_1 a0_2 _ _ t267 t270 t271 _ ?side1 ?side2 A7.out).mono ?_
      (case side1 => repeat ((exact (Kd.R_reads' HO269.out).2.2)))
      (case side2 => exact (Kd.R_reads' HO269.out).2.1)
      rintro e w31 ⟨rfl, hb⟩
      refine ⟨_, rfl, ?_⟩
      have n0_ := Aside0.mk (Kd.R_below (by exact HO269.out) hb)
      have n1_ := Aside0.mk (blk_below (g := gb265) (o := .cells #[.int .i64 a0_0, .int .i64 a0_1, .int .i64 a0_2, .slice A0_3 l0_3.length c0_3] 34 (0, 0)) (by exact BK265.out) hb)
      have n2_ := Aside0.mk (below_step HB.out hb)
      clear HO269 BK265 HB
      have HO269 := n0_
      have BK265 := n1_
      have HB := n2_
      clear n0_ n1_ n2_
      ((clear hb))
      refine hK.out _ _ ⟨(blk_cell BK265.out 0).trans rfl, (blk_cell BK265.out 1).trans rfl, (blk_cell BK265.out 2).trans rfl, (blk_cell BK265.out 3).trans rfl⟩ (fun hHeld => ?_)
      clear hK K
      refine norm_ (a' := ?_) ?_ ?_
      rotate_left
      · show Act.put _ (some 26) _ = _
        simp only [Act.put, List.setIfInBounds_toArray, List.set_cons_zero, List.set_cons_succ, i64_w, i32_w]
        rfl
      refine pure_ (i := 8) (N := some 18) (v := ?_) (a' := ?_) #[true, true, true, true, true, true, true, true, true, false, false, false, false] rfl rfl (any_of HT_.out (by kernel_rfl)) (fun _ _ _ h => h) (Or.inl ⟨by rfl, ?_⟩) ?_ ?_
      rotate_left
      · intro w'
        go_simp
        with_reducible rfl
      rotate_left
      · simp only [Act.put, List.setIfInBounds_toArray, List.set_cons_zero, List.set_cons_succ, i64_w, i32_w]
        rfl
      refine pure_ (i := 9) (N := some 27) (v := ?_) (a' := ?_) #[true, true, true, true, true, true, true, true, true, true, false, false, false] rfl rfl (any_of HT_.out (by kernel_rfl)) (fun _ _ _ h => h) (Or.inl ⟨by rfl, ?_⟩) ?_ ?_
      rotate_left
      · intro w'
        go_simp
        with_reducible rfl
      rotate_left
      · simp only [Act.put, List.setIfInBounds_toArray, List.set_cons_zero, List.set_cons_succ, i64_w, i32_w]
        rfl
      refine pure_ (i := 10) (N := some 28) (v := ?_) (a' := ?_) #[true, true, true, true, true, true, true, true, true, true, true, false, false] rfl rfl (any_of HT_.out (by kernel_rfl)) (fun _ _ _ h => h) (Or.inl ⟨by rfl, ?_⟩) ?_ ?_
      rotate_left
      · intro w'
        go_simp
        with_reducible rfl
      rotate_left
      · simp only [Act.put, List.setIfInBounds_toArray, List.set_cons_zero, List.set_cons_succ, i64_w, i32_w]
        rfl
      refine pure_ (i := 11) (N := some 9) (v := ?_) (a' := ?_) #[true, true, true, true, true, true, true, true, true, true, true, true, false] rfl rfl (any_of HT_.out (by kernel_rfl)) (fun _ _ _ h => h) (Or.inl ⟨by rfl, ?_⟩) ?_ ?_
      rotate_left
      · intro w'
        go_simp
        with_reducible rfl
      rotate_left
      · simp only [Act.put, List.setIfInBounds_toArray, List.set_cons_zero, List.set_cons_succ, i64_w, i32_w]
        rfl
      refine pure_ (i := 12) (N := some 10) (v := ?_) (a' := ?_) #[true, true, true, true, true, true, true, true, true, true, true, true, true] rfl rfl (any_of HT_.out (by kernel_rfl)) (fun _ _ _ h => h) (Or.inl ⟨by rfl, ?_⟩) ?_ ?_
      rotate_left
      · intro w'
        go_simp
        with_reducible rfl
      rotate_left
      · simp only [Act.put, List.setIfInBounds_toArray, List.set_cons_zero, List.set_cons_succ, i64_w, i32_w]
        rfl
      refine done_ (done_of HT_.out (by kernel_rfl)) ?_
      (go_wp2)
      go_ret2
      exact ⟨by (rfl), HB.out⟩
  · rw [if_neg c5] at H
    exact absurd H (by simp)

end Go.Proofs.Ythfddndmhjkeiaa.L
end
section
/- Two shards compared. -/
namespace Go.Proofs.Ythfddndmhjkeiaa.L
open Go.RowKit Go.Proofs.YthfddndmhjkeiaaW.PrintWords Go.Proofs.YthfddndmhjkeiaaW.PrintLast Go.Proofs.YthfddndmhjkeiaaW.PrintMore
set_option linter.unusedVariables false
set_option linter.unusedSimpArgs false
theorem eqA41 (d : Nat) (w : World) (x0 y0 : Int) (x1 y1 : ByteArray) :
    (Op.equalIn (d + 2) 41 (.agg #[.int .i64 x0, .string x1]) (.agg #[.int .i64 y0, .string y1])).run Try.prog w = .ok (x0 == y0 && (x1.toList == y1.toList)) w := by
  refine eqA_of Try.underlying41 (by kernel_rfl) ?_
  refine eqf_cons (by rfl) (by go_simp; rfl) (by go_simp; rfl) (by go_simp) ?_
  exact eqf_last (by rfl) (by go_simp; rfl) (by go_simp; rfl) (by go_simp)
end Go.Proofs.Ythfddndmhjkeiaa.L
end
section
/- law13's sane: its one way. -/
namespace Go.Proofs.Ythfddndmhjkeiaa.L
open Go.RowKit Go.Proofs.YthfddndmhjkeiaaW.PrintWords Go.Proofs.YthfddndmhjkeiaaW.PrintLast Go.Proofs.YthfddndmhjkeiaaW.PrintMore
set_option linter.unusedVariables false
set_option linter.unusedSimpArgs false
attribute [local go_sem high] eqA41
def abc5 : ByteArray := ⟨#[32, 6, 97, 98, 99]⟩
theorem sane_make : stripe_Make.f 40 1 2 (ByteArray.mk #[97, 98, 99]) 5 = some (1, 2, 5, [244816472, 244816472], [⟨0, abc5⟩, ⟨1, abc5⟩], 0) := by kernel_rfl
theorem sane_read : stripe_Read.f 40 1 2 5 [244816472, 244816472] [⟨1, abc5⟩] 5 = some ((ByteArray.mk #[97, 98, 99]), 0) := by kernel_rfl
theorem sane_check : stripe_Check.f 1 2 5 [244816472, 244816472] = some 0 := by kernel_rfl
theorem sane_kept : stripe_kept.f 1 2 5 [244816472, 244816472] [⟨0, abc5⟩, ⟨1, abc5⟩] = some [⟨0, abc5⟩, ⟨1, abc5⟩] := by kernel_rfl
theorem sane_sort : sortS [⟨0, abc5⟩, ⟨1, abc5⟩] = [⟨0, abc5⟩, ⟨1, abc5⟩] := by
  unfold sortS
  exact List.mergeSort_of_pairwise (by simp)
theorem sane_used : usedS [⟨0, abc5⟩, ⟨1, abc5⟩] (1 : Int).toNat = [⟨0, abc5⟩] := by
  unfold usedS
  rw [sane_sort]
  rfl
theorem sane_decode : erasure_Decode.f 1 2 5 [⟨0, abc5⟩, ⟨1, abc5⟩] = some (abc5, 0) := by
  unfold erasure_Decode.f
  rw [sane_used]
  kernel_rfl
theorem sane_not : stripe_Read.f 40 1 2 5 [244816472, 244816472] [⟨0, abc5⟩, ⟨1, abc5⟩] 7 = some (⟨#[]⟩, 9) := by
  unfold stripe_Read.f
  rw [sane_check, Option.bind_some, if_pos rfl, sane_kept, Option.bind_some, sane_decode]
  kernel_rfl
theorem sane_repair : stripe_Repair.f 40 1 2 5 [244816472, 244816472] [⟨0, abc5⟩] 1 = some (1, abc5, 0) := by kernel_rfl
set_option maxHeartbeats 1000000 in
set_option maxRecDepth 100000 in
theorem storagebarterlaw13_sane.holds (w : World) : Calls Try.prog 6 #[] w fun e w' => e = .returned (.bool true) ∧ Below w.heap.size w w' := by
  have hu30 := Try.underlying30
  have hu34 := Try.underlying34
  have hu41 := Try.underlying41
  have hu23 := Try.underlying23
  go_enter Try.func6, Try.ntmps6
  go_wp2_with fail
  refine (stripe_Make.calls 40 1 2 (ByteArray.mk #[97, 98, 99]) 5 _ _ _ _ _ _ _ sane_make).mono ?_
  rintro e w1 ⟨v3, v4, rfl, hO3, hO4, hb1⟩
  obtain ⟨A3, c3, rfl⟩ := Kd.R_slice hO3
  obtain ⟨gr, c4, rfl, hgr0, hgr1, _⟩ := Kd.R_form hO4 (by decide)
  have hC3 := (Kd.R_reads' hO3).2.2
  have hL3 := (Kd.R_reads' hO3).2.1
  have hC4 := (Kd.R_reads' hO4).2.2
  have hL4 : 2 ≤ c4 := (Kd.R_reads' hO4).2.1
  have HB1 := Aside0.mk hb1
  clear hO3 hO4 hb1
  obtain ⟨W2, hW2⟩ : ∃ W2, w1.alloc (.cells #[.int .i64 1, .int .i64 2, .int .i64 5, .slice A3 2 c3] 34) = W2 := ⟨_, rfl⟩
  have KB2 : Aside0 (W2.heap[w1.heap.size]? = some (.cells #[.int .i64 1, .int .i64 2, .int .i64 5, .slice A3 2 c3] 34 (0, 0))) := ⟨by rw [← hW2]; exact blk_new w1 _⟩
  have HC3 : Aside0 (Kd.C (Kd.int .i64) W2 A3 2 [244816472, 244816472]) := ⟨by rw [← hW2]; exact Kd.C_alloc hC3 _⟩
  have HC4 : Aside0 (Kd.C k41 W2 (some ⟨gr, 0, none⟩) 2 [⟨0, abc5⟩, ⟨1, abc5⟩]) := ⟨by rw [← hW2]; exact Kd.C_alloc hC4 _⟩
  have HB2 : Aside0 (Below w.heap.size w W2) := ⟨by rw [← hW2]; exact below_alloc HB1.out _⟩
  clear hC3 hC4
  have y0 := blk_cell KB2.out 0
  have y1 := blk_cell KB2.out 1
  have y2 := blk_cell KB2.out 2
  have y3 := blk_cell KB2.out 3
  have hD1 : Kd.C k41 W2 (some ⟨gr, 2, none⟩) 1 [⟨1, abc5⟩] := by
    have := Kd.C_mid (lo := 1) (hi := 2) (c := c4) HC4.out (by decide) (by decide) hL4
    rw [if_neg (by omega)] at this
    exact this
  have hcall : Calls Try.prog 16 #[.agg #[.int .i64 1, .int .i64 2, .int .i64 5, .slice A3 2 c3], .slice (some ⟨gr, 2, none⟩) 1 (c4 - 1), .int .i64 5] W2.drew fun e w' => e = .returned (.tuple #[.string (ByteArray.mk #[97, 98, 99]), .int .i64 0]) ∧ Below W2.heap.size W2 w' := (stripe_Read.calls 40 1 2 5 A3 c3 [244816472, 244816472] (some ⟨gr, 2, none⟩) (c4 - 1) [⟨1, abc5⟩] 5 (ByteArray.mk #[97, 98, 99]) 0 W2.drew (Kd.C_drew HC3.out) hL3 (Kd.C_drew hD1) (by show 1 ≤ c4 - 1; omega) sane_read).mono (fun e w' h => ⟨h.1, (below_drew1 (Below.refl _ W2)).trans h.2⟩)
  clear hD1
  have hc41 : (c4 = 1) = False := eq_false (by omega)
  have hc42 : (1 : Int) ≤ (c4 : Int) := by omega
  go_wp2_with fail
  go_region_held3 (fun w' => w'.cell? ⟨w1.heap.size, 0, none⟩ = some (.int .i64 1) ∧ w'.cell? ⟨w1.heap.size, 1, none⟩ = some (.int .i64 2) ∧ w'.cell? ⟨w1.heap.size, 2, none⟩ = some (.int .i64 5) ∧ w'.cell? ⟨w1.heap.size, 3, none⟩ = some (.slice A3 2 c3)) (first | exact ⟨y0, y1, y2, y3⟩ | exact ⟨z0, z1, z2, z3⟩) (first | ((with_reducible refine hcall.mono ?_); rintro e w5 ⟨rfl, hb5⟩; have KB5 := blk_below KB2.out hb5; have z0 := blk_cell KB5 0; have z1 := blk_cell KB5 1; have z2 := blk_cell KB5 2; have z3 := blk_cell KB5 3))
  have HC35 : Aside0 (Kd.C (Kd.int .i64) w5 A3 2 [244816472, 244816472]) := ⟨Kd.C_below HC3.out hb5⟩
  have HC45 : Aside0 (Kd.C k41 w5 (some ⟨gr, 0, none⟩) 2 [⟨0, abc5⟩, ⟨1, abc5⟩]) := ⟨Kd.C_below HC4.out hb5⟩
  have HB5 : Aside0 (Below w.heap.size w w5) := ⟨below_step HB2.out hb5⟩
  clear HC3 HC4 KB2 y0 y1 y2 y3 hcall hb5 HB2
  have hcall2 : Calls Try.prog 16 #[.agg #[.int .i64 1, .int .i64 2, .int .i64 5, .slice A3 2 c3], .slice (some ⟨gr, 0, none⟩) 2 c4, .int .i64 7] w5 fun e w' => e = .returned (.tuple #[.string ⟨#[]⟩, .int .i64 9]) ∧ Below w5.heap.size w5 w' := (stripe_Read.calls 40 1 2 5 A3 c3 [244816472, 244816472] (some ⟨gr, 0, none⟩) c4 [⟨0, abc5⟩, ⟨1, abc5⟩] 7 _ 9 w5 HC35.out hL3 HC45.out hL4 sane_not)
  go_wp2_with fail
  refine hcall2.mono ?_
  rintro e w6 ⟨rfl, hb6⟩
  have KB6 := blk_below KB5 hb6
  have q0 := blk_cell KB6 0
  have q1 := blk_cell KB6 1
  have q2 := blk_cell KB6 2
  have q3 := blk_cell KB6 3
  have HC36 : Aside0 (Kd.C (Kd.int .i64) w6 A3 2 [244816472, 244816472]) := ⟨Kd.C_below HC35.out hb6⟩
  have HC46 : Aside0 (Kd.C k41 w6 (some ⟨gr, 0, none⟩) 2 [⟨0, abc5⟩, ⟨1, abc5⟩]) := ⟨Kd.C_below HC45.out hb6⟩
  have HB6 : Aside0 (Below w.heap.size w w6) := ⟨below_step HB5.out hb6⟩
  clear HC35 HC45 KB5 z0 z1 z2 z3 hcall2 hb6 HB5
  have hcall3 : ∀ W', Below w6.heap.size w6 W' → Calls Try.prog 17 #[.agg #[.int .i64 1, .int .i64 2, .int .i64 5, .slice A3 2 c3], .slice (some ⟨gr, 0, none⟩) 1 c4, .int .i64 1] W' fun e w' => e = .returned (.tuple #[.agg #[.int .i64 1, .string abc5], .int .i64 0]) ∧ Below W'.heap.size W' w' := fun W' hb => stripe_Repair.calls 40 1 2 5 A3 c3 [244816472, 244816472] (some ⟨gr, 0, none⟩) c4 [⟨0, abc5⟩] 1 _ _ 0 W' (Kd.C_below HC36.out hb) hL3 (Kd.C_below (Kd.C_take HC46.out (m := 1) (by decide)) hb) (by show 1 ≤ c4; omega) sane_repair
  go_wp2_with fail
  have h6a : Below w6.heap.size w6 ((w6.alloc (.cells #[.int .i64 0, .string ⟨#[]⟩] 41)).drew) := below_drew1 (below_alloc (Below.refl _ _) _)
  have KB6a := blk_below KB6 h6a
  have hne6 : w1.heap.size ≠ w6.heap.size := Nat.ne_of_lt (blk_lt KB6)
  have KX6 : ((w6.alloc (.cells #[.int .i64 0, .string ⟨#[]⟩] 41)).drew).heap[w6.heap.size]? = some (.cells #[.int .i64 0, .string ⟨#[]⟩] 41 (0, 0)) := blk_new w6 _
  have h6b : Below w6.heap.size w6 w6.drew := below_drew1 (Below.refl _ _)
  have KB6b := blk_below KB6 h6b
  go_region_held3 (fun w' => w'.cell? ⟨w1.heap.size, 0, none⟩ = some (.int .i64 1) ∧ w'.cell? ⟨w1.heap.size, 1, none⟩ = some (.int .i64 2) ∧ w'.cell? ⟨w1.heap.size, 2, none⟩ = some (.int .i64 5) ∧ w'.cell? ⟨w1.heap.size, 3, none⟩ = some (.slice A3 2 c3)) (first | exact ⟨q0, q1, q2, q3⟩ | exact ⟨blk_cell KB6a 0, blk_cell KB6a 1, blk_cell KB6a 2, blk_cell KB6a 3⟩ | exact ⟨r0, r1, r2, r3⟩ | exact ⟨blk_cell (blk_alloc KB7 _) 0, blk_cell (blk_alloc KB7 _) 1, blk_cell (blk_alloc KB7 _) 2, blk_cell (blk_alloc KB7 _) 3⟩ | exact ⟨blk_cell (blk_far (blk_far KB7 hne6 _) hne6 _) 0, blk_cell (blk_far (blk_far KB7 hne6 _) hne6 _) 1, blk_cell (blk_far (blk_far KB7 hne6 _) hne6 _) 2, blk_cell (blk_far (blk_far KB7 hne6 _) hne6 _) 3⟩ | exact ⟨blk_cell (blk_far (blk_far (blk_alloc KB7 _) (Nat.ne_of_lt (blk_lt KB7)) _) (Nat.ne_of_lt (blk_lt KB7)) _) 0, blk_cell (blk_far (blk_far (blk_alloc KB7 _) (Nat.ne_of_lt (blk_lt KB7)) _) (Nat.ne_of_lt (blk_lt KB7)) _) 1, blk_cell (blk_far (blk_far (blk_alloc KB7 _) (Nat.ne_of_lt (blk_lt KB7)) _) (Nat.ne_of_lt (blk_lt KB7)) _) 2, blk_cell (blk_far (blk_far (blk_alloc KB7 _) (Nat.ne_of_lt (blk_lt KB7)) _) (Nat.ne_of_lt (blk_lt KB7)) _) 3⟩) (first | ((with_reducible refine (hcall3 _ h6a).mono ?_); rintro e w7 ⟨rfl, hb7⟩; have KB7 := blk_below KB6a hb7; have KX7 := blk_below KX6 hb7; have kx0 := blk_cell KX7 0; have kx1 := blk_cell KX7 1; have kf0 := blk_frozen KX7 0; have kf1 := blk_frozen KX7 1; have r0 := blk_cell KB7 0; have r1 := blk_cell KB7 1; have r2 := blk_cell KB7 2; have r3 := blk_cell KB7 3) | ((with_reducible refine (hcall3 _ h6b).mono ?_); rintro e w7 ⟨rfl, hb7⟩; have KB7 := blk_below KB6b hb7; have r0 := blk_cell KB7 0; have r1 := blk_cell KB7 1; have r2 := blk_cell KB7 2; have r3 := blk_cell KB7 3))
  all_goals first
    | (
      have h67 : Below w6.heap.size w6 w7 := h6b.trans hb7
      have h68 : Below w6.heap.size w6 (w7.alloc (.cells #[.int .i64 1, .string abc5] 41)) := below_alloc h67 _
      have KX8 := blk_new w7 (.cells #[.int .i64 1, .string abc5] 41)
      have KB8 := blk_alloc KB7 (.cells #[.int .i64 1, .string abc5] 41)
      generalize w7.alloc (.cells #[.int .i64 1, .string abc5] 41) = W8 at h68 KX8 KB8 ⊢
      generalize w7.heap.size = xb at KX8 ⊢)
    | (
      have h67 : Below w6.heap.size w6 w7 := h6a.trans (hb7.mono (below_size h6a))
      have h68 : Below w6.heap.size w6 ((w7.setCell ⟨w6.heap.size, 0, none⟩ (.int .i64 1)).setCell ⟨w6.heap.size, 1, none⟩ (.string abc5)) := (h67.setCell (p := ⟨w6.heap.size, 0, none⟩) (Nat.le_refl _) _).setCell (p := ⟨w6.heap.size, 1, none⟩) (Nat.le_refl _) _
      have KX8 := blk_set (blk_set KX7 0 (.int .i64 1)) 1 (.string abc5)
      have KB8 := blk_far (p := ⟨w6.heap.size, 1, none⟩) (blk_far (p := ⟨w6.heap.size, 0, none⟩) KB7 hne6 (.int .i64 1)) hne6 (.string abc5)
      generalize (w7.setCell ⟨w6.heap.size, 0, none⟩ (.int .i64 1)).setCell ⟨w6.heap.size, 1, none⟩ (.string abc5) = W8 at h68 KX8 KB8 ⊢
      generalize w6.heap.size = xb at KX8 ⊢
      clear KX6 KX7 kx0 kx1 kf0 kf1)
  all_goals
    have HC38 : Aside0 (Kd.C (Kd.int .i64) W8 A3 2 [244816472, 244816472]) := ⟨Kd.C_below HC36.out h68⟩
    have HC48 : Aside0 (Kd.C k41 W8 (some ⟨gr, 0, none⟩) 2 [⟨0, abc5⟩, ⟨1, abc5⟩]) := ⟨Kd.C_below HC46.out h68⟩
    have HB8 : Aside0 (Below w.heap.size w W8) := ⟨below_step HB6.out h68⟩
    clear HC36 HC46 KB6 KB6a KB6b KB7 q0 q1 q2 q3 r0 r1 r2 r3 hcall3 hb7 HB6 h67 h68 h6a h6b
    have u0 := blk_cell KB8 0
    have u1 := blk_cell KB8 1
    have u2 := blk_cell KB8 2
    have u3 := blk_cell KB8 3
    have v0 := (blk_cell KX8 0).trans (show _ = some (Value.int .i64 1) from rfl)
    have v1 := (blk_cell KX8 1).trans (show _ = some (Value.string abc5) from rfl)
    have hc0 : W8.cell? ⟨gr, 2, none⟩ = some (.int .i64 1) := by obtain ⟨ad, e, hc0, hc1⟩ := at_T41 HC48.out 1 (by decide) (by decide); cases e; exact hc0
    have hc1 : W8.cell? ⟨gr, 3, none⟩ = some (.string abc5) := by obtain ⟨ad, e, hc0, hc1⟩ := at_T41 HC48.out 1 (by decide) (by decide); cases e; exact hc1
    have hcc : Calls Try.prog 18 #[.agg #[.int .i64 1, .int .i64 2, .int .i64 5, .slice A3 2 c3]] W8.drew fun e w' => e = .returned (.int .i64 0) ∧ Below W8.heap.size W8 w' := (stripe_Check.calls 1 2 5 A3 c3 [244816472, 244816472] 0 W8.drew (Kd.C_drew HC38.out) hL3 sane_check).mono (fun e w' h => ⟨h.1, (below_drew1 (Below.refl _ W8)).trans h.2⟩)
    go_wp2_with fail
    go_region_held3 (fun w' => w'.cell? ⟨w1.heap.size, 0, none⟩ = some (.int .i64 1) ∧ w'.cell? ⟨w1.heap.size, 1, none⟩ = some (.int .i64 2) ∧ w'.cell? ⟨w1.heap.size, 2, none⟩ = some (.int .i64 5) ∧ w'.cell? ⟨w1.heap.size, 3, none⟩ = some (.slice A3 2 c3) ∧ w'.cell? ⟨gr, 2, none⟩ = some (.int .i64 1) ∧ w'.cell? ⟨gr, 3, none⟩ = some (.string abc5) ∧ w'.cell? ⟨xb, 0, none⟩ = some (.int .i64 1) ∧ w'.cell? ⟨xb, 1, none⟩ = some (.string abc5)) (first | exact ⟨u0, u1, u2, u3, hc0, hc1, v0, v1⟩ | exact ⟨s0, s1, s2, s3, s4, s5, s6, s7⟩) (first | ((with_reducible refine hcc.mono ?_); rintro e w9 ⟨rfl, hb9⟩; have KB9 := blk_below KB8 hb9; have s0 := blk_cell KB9 0; have s1 := blk_cell KB9 1; have s2 := blk_cell KB9 2; have s3 := blk_cell KB9 3; have s4 := pw_cell_below hb9 hc0; have s5 := pw_cell_below hb9 hc1; have s6 := pw_cell_below hb9 v0; have s7 := pw_cell_below hb9 v1))
    go_wp2_with fail
    go_ret
    exact ⟨rfl, below_step HB8.out hb9⟩
end Go.Proofs.Ythfddndmhjkeiaa.L
end
section
/- law07's some: what it returns, and what its append of a cut row gives. -/
namespace Go.Proofs.Ythfddndmhjkeiaa.L
open Go.RowKit Go.Proofs.YthfddndmhjkeiaaW.PrintWords Go.Proofs.YthfddndmhjkeiaaW.PrintLast Go.Proofs.YthfddndmhjkeiaaW.PrintMore
set_option linter.unusedVariables false
set_option linter.unusedSimpArgs false

theorem w64' {x : Int} (h0 : -9223372036854775808 ≤ x) (h1 : x ≤ 9223372036854775807) : wrap64 x = x := IntWalk.wrap64_in _ ⟨h0, h1⟩
theorem w64s {k : Nat} (h : k ≤ 1000000) : wrap64 ((k : Int) + 1) = ((k + 1 : Nat) : Int) := by rw [w64'] <;> omega
theorem i64s {k lo : Nat} (h : k ≤ 1000000) (e : lo = k + 1) : IntKind.i64.wrap ((k : Int) + 1) = (lo : Int) := by rw [e, ← w64s h]; exact i64_w _
theorem i64t {k m c : Nat} (h : k ≤ 1000000) (hm : k + 1 < m) (hc : k + 1 < c) : IntKind.i64.wrap ((k : Int) + 1) = (k : Int) + 1 ∧ (0 : Int) ≤ (k : Int) + 1 ∧ (k : Int) + 1 ≤ (m : Int) ∧ ((c = k + 1) = False) ∧ ((k : Int) + 1).toNat = k + 1 := by
  have h1 := i64s h rfl
  refine ⟨h1.trans rfl, by omega, by omega, eq_false (by omega), by omega⟩
theorem i64u {k m : Nat} (h : k ≤ 1000000) (hm : k + 1 = m) : IntKind.i64.wrap ((k : Int) + 1) = (k : Int) + 1 ∧ (0 : Int) ≤ (k : Int) + 1 ∧ (k : Int) + 1 ≤ (m : Int) ∧ ((k : Int) + 1).toNat = k + 1 := by
  have h1 := i64s h rfl
  exact ⟨h1.trans rfl, by omega, by omega, by omega⟩
theorem len_step {a b n k w : Nat} (h : a + b = n) (hw : w = a - 1) (hk : k < a) : w + (b + 1) = n := by omega
theorem below_of_grown {W W' : World} (hg : W.drew.grownBy W' none) : Below W.heap.size W W' := ⟨hg.os, hg.tape, hg.output, hg.size, fun i hi => hg.block i hi (by simp)⟩
/-- The row without its element i. -/
def without (l : List S41) (i : Nat) : List S41 := l.take i ++ l.drop (i + 1)
def someAt (s0_0 : List Int) (n : Int) : Nat → List S41 → List S41 → Int → Option (List S41 × Int)
  | 0, _, _, _ => none
  | k + 1, rest, out, s => if (out.length : Int) < n ∧ 0 < rest.length then
      ((storagebartermake_Deck_Next.f s0_0 s (rest.length : Int)).bind fun t => if 0 ≤ t.1 ∧ t.1 < (rest.length : Int) then someAt s0_0 n k (without rest t.1.toNat) (out ++ [rd_T41 rest t.1]) t.2 else none)
    else some (out, s)
def storagebarterlaw13_some.f (s0_0 : List Int) (s0_1 : Int) (l : List S41) (n : Int) : Option (List S41 × Int) :=
  if l.length ≤ 1000000 then someAt s0_0 n (l.length + 1) l [] s0_1 else none

theorem without_length {l : List S41} {i : Nat} (h : i < l.length) : (without l i).length = l.length - 1 := by
  unfold without
  rw [List.length_append, List.length_take, List.length_drop]
  omega
def cells37 : List S41 → List Value
  | [] => []
  | x :: l => .int .i64 x.f0 :: .string x.f1 :: cells37 l
theorem cells37_length : ∀ l, (cells37 l).length = l.length * 2
  | [] => rfl
  | x :: l => by simp only [cells37, List.length_cons, cells37_length l]; omega
theorem cells37_one : ∀ l, ∀ u ∈ cells37 l, u.oneCell' = true
  | [], u, h => absurd h (by simp [cells37])
  | x :: l, u, h => by
    simp only [cells37, List.mem_cons] at h
    rcases h with rfl | rfl | h
    · rfl
    · rfl
    · exact cells37_one l u h
theorem cells37_append : ∀ a b, cells37 (a ++ b) = cells37 a ++ cells37 b
  | [], b => rfl
  | x :: a, b => by simp only [cells37, List.cons_append, cells37_append a b]
theorem cells37_get : ∀ (l : List S41) (q : Nat), (cells37 l)[q * 2]? = (l[q]?.map fun x => Value.int .i64 x.f0) ∧ (cells37 l)[q * 2 + 1]? = (l[q]?.map fun x => Value.string x.f1)
  | [], q => by simp [cells37]
  | x :: l, 0 => by simp [cells37]
  | x :: l, q + 1 => by
    have h := cells37_get l q
    have e : (q + 1) * 2 = q * 2 + 1 + 1 := by omega
    rw [e]
    simp only [cells37, List.getElem?_cons_succ]
    exact h
theorem C37_of_cells {W : World} {ad : Addr} {l : List S41} (hl : l.length ≤ 1000000) (h : ∀ j u, (cells37 l)[j]? = some u → W.cell? (ad.add j) = some u) : Kd.C k41 W (some ad) l.length l :=
  ⟨rfl, by omega, fun _ => ⟨ad, rfl, fun j p hj => ⟨[.int .i64 p.f0, .string p.f1], rfl, k41.K_of_M (k41_mkM W 0 (fun _ => True) p), fun i u hu => by
    have hg := cells37_get l j
    rw [hj] at hg
    match i, hu with
    | 0, hu => exact h _ _ (by rw [show j * k41.sz + 0 = j * 2 from rfl, hg.1]; exact hu)
    | 1, hu => exact h _ _ (by rw [show j * k41.sz + 1 = j * 2 + 1 from rfl, hg.2]; exact hu)
    | i + 2, hu => exact absurd hu (by simp)⟩⟩⟩
theorem cells_of_C37 {W : World} {ad : Addr} {n : Nat} {l : List S41} (h : Kd.C k41 W (some ad) n l) : ∀ j u, (cells37 l)[j]? = some u → W.cell? (ad.add j) = some u := by
  intro j u hj
  have hlt := (List.getElem?_eq_some_iff.1 hj).1
  rw [cells37_length] at hlt
  obtain ⟨ad', e, hc⟩ := h.2.2 (by have := h.1; omega)
  cases e
  have hq : j / 2 < l.length := by omega
  have hg := cells37_get l (j / 2)
  rw [List.getElem?_eq_getElem hq] at hg
  obtain ⟨cs, h1, h2, h3⟩ := hc (j / 2) _ (List.getElem?_eq_getElem hq)
  obtain rfl := k41_open h2
  rcases Nat.mod_two_eq_zero_or_one j with hm | hm
  · have e1 : j / 2 * 2 = j := by omega
    rw [e1] at hg
    have := hj.symm.trans hg.1
    injection this with this
    subst this
    have h4 := h3 0 _ rfl
    rwa [show j / 2 * k41.sz + 0 = j from by show j / 2 * 2 + 0 = j; omega] at h4
  · have e1 : j / 2 * 2 + 1 = j := by omega
    rw [e1] at hg
    have := hj.symm.trans hg.2
    injection this with this
    subst this
    have h4 := h3 1 _ rfl
    rwa [show j / 2 * k41.sz + 1 = j from by show j / 2 * 2 + 1 = j; omega] at h4
theorem add_off (g o j : Nat) : (⟨g, o, none⟩ : Addr).add j = ⟨g, o + j, none⟩ := by
  unfold Addr.add
  split <;> simp_all
/-- What an append of all behind element k onto all ahead of it gives. -/
theorem cut_append {W : World} {gr k c : Nat} {rest : List S41} {u : Value} (hk : k < rest.length) (hcap : rest.length ≤ c) (hl : rest.length ≤ 1000000)
    (hC : Kd.C k41 W (some ⟨gr, 0, none⟩) rest.length rest) (hu1 : k + 1 < rest.length → u = .slice (some ⟨gr, (k + 1) * 2, none⟩) (rest.length - (k + 1)) (c - (k + 1))) (hu2 : k + 1 = rest.length → ∃ A' c', u = .slice A' 0 c') :
    ∃ A1 c1 w1, (Builtin.append_ #[23, 23] 23 #[.slice (some ⟨gr, 0, none⟩) k k, u]).run Try.prog W = .ok (.slice A1 (without rest k).length c1) w1 ∧ (without rest k).length ≤ c1 ∧ (0 < (without rest k).length → ∃ gr1, A1 = some ⟨gr1, 0, none⟩ ∧ (gr1 = gr ∨ W.heap.size ≤ gr1)) ∧ Kd.C k41 w1 A1 (without rest k).length (without rest k) ∧ W.grownBy w1 none := by
  obtain ⟨i0, hi, hzz⟩ := Option.map_eq_some_iff.1 info41
  simp only [Prod.mk.injEq] at hzz
  obtain ⟨hz0, hz1, hz2⟩ := hzz
  have hcs := cells_of_C37 hC
  simp only [add_plain] at hcs
  have hsplit : rest = rest.take k ++ rest.drop k := (List.take_append_drop _ _).symm
  have hsplit2 : rest = rest.take (k + 1) ++ rest.drop (k + 1) := (List.take_append_drop _ _).symm
  have hol : (cells37 (rest.take k)).length = k * 2 := by rw [cells37_length, List.length_take]; omega
  have holds : ∀ j u, (cells37 (rest.take k))[j]? = some u → W.cell? ⟨gr, j, none⟩ = some u := by
    intro j u hj
    refine hcs j u ?_
    have hlt := (List.getElem?_eq_some_iff.1 hj).1
    rw [hsplit, cells37_append, List.getElem?_append_left hlt]
    exact hj
  by_cases hlast : k + 1 = rest.length
  · obtain ⟨A', c', rfl⟩ := hu2 hlast
    have hw : without rest k = rest.take k := by
      unfold without
      rw [hlast, List.drop_length, List.append_nil]
    have hwl : (without rest k).length = k := by rw [without_length hk]; omega
    have hrun := run_append_nothing (P := Try.prog) W 23 23 23 41 i0 Try.underlying23 hi (some ⟨gr, 0, none⟩) k k (Nat.le_refl _) (.slice A' 0 c') (by
      cases A' with
      | none => exact Src.ofNil W Try.underlying23 c'
      | some ad => exact Src.ofSlice W Try.underlying23 ad 0 c' [] (by simp) (by intro j u hj; simp at hj) (by intro u hu; cases hu))
    refine ⟨some ⟨gr, 0, none⟩, k, W, by rw [hwl]; exact hrun, by omega, fun _ => ⟨gr, rfl, .inl rfl⟩, ?_, World.grownBy.refl W _⟩
    refine C37_of_cells (by omega) ?_
    intro j u hj
    rw [hw] at hj
    rw [add_plain]
    exact holds j u hj
  · have hlt : k + 1 < rest.length := by omega
    obtain rfl := hu1 hlt
    have hnl : (cells37 (rest.drop (k + 1))).length = (rest.length - (k + 1)) * 2 := by rw [cells37_length, List.length_drop]
    have hsrc : Src Try.prog i0.size 23 (.slice (some ⟨gr, (k + 1) * 2, none⟩) (rest.length - (k + 1)) (c - (k + 1))) (rest.length - (k + 1)) (cells37 (rest.drop (k + 1))) W := by
      rw [hz1]
      refine Src.ofSlice W Try.underlying23 _ _ _ _ hnl ?_ (cells37_one _)
      intro j u hj
      rw [add_off]
      refine hcs _ u ?_
      rw [hsplit2, cells37_append, List.getElem?_append_right (by rw [cells37_length, List.length_take]; omega), cells37_length, List.length_take]
      rw [show (k + 1) * 2 + j - min (k + 1) rest.length * 2 = j by rw [Nat.min_eq_left (Nat.le_of_lt hlt)]; omega]
      exact hj
    have hold : (Builtin.firstCells i0.size k (.slice (some ⟨gr, 0, none⟩) k k)).run Try.prog W.drew = .ok (cells37 (rest.take k)).toArray W.drew := by
      rw [hz1]
      refine run_firstCells_some W.drew 2 k _ _ _ _ hol ?_
      intro j u hj
      rw [add_plain]
      exact holds j u hj
    have hrun := run_append_grow_src (P := Try.prog) W 23 23 23 41 i0 _ Try.underlying23 hi hz0 (some ⟨gr, 0, none⟩) k k _ hold _ _ _ hsrc (by omega) (by omega) (growslice_fits (by omega) (by rw [hz2]; omega))
    have hge := grownCap_ge W (k + (rest.length - (k + 1))) k 41
    have hwl : (without rest k).length = k + (rest.length - (k + 1)) := by rw [without_length hk]; omega
    refine ⟨_, _, _, by rw [hwl]; exact hrun, by rw [hwl]; exact hge, fun _ => ⟨_, rfl, .inr (Nat.le_refl _)⟩, ?_, ?_⟩
    · refine C37_of_cells (by omega) ?_
      intro j u hj
      rw [add_plain]
      refine (World.cell?_alloc_new W.drew _ _ j).trans ?_
      unfold without at hj
      rw [cells37_append] at hj
      have hjl := (List.getElem?_eq_some_iff.1 hj).1
      rw [Array.getElem?_append_left (by rw [List.size_toArray]; exact hjl), List.getElem?_toArray]
      exact hj
    · exact grown_of_below ((Below.refl _ _).trans (below_alloc (below_drew1 (Below.refl _ _)) _)) none
/-- The row that is drawn from: it lies neither in the deck's block nor in the block of what was drawn. -/
def RestOk (g : Nat) (v8 : Value) (W : World) (A : Option Addr) (rest : List S41) : Prop :=
  rest.length ≤ 1000000 ∧ (0 < rest.length → ∃ gr, A = some ⟨gr, 0, none⟩ ∧ gr ≠ g ∧ some gr ≠ v8.ownBlock ∧ gr < W.heap.size) ∧ Kd.C k41 W A rest.length rest
theorem C_empty (W : World) (A : Option Addr) {l : List S41} (h : ¬ 0 < l.length) : Kd.C k41 W A l.length l := ⟨rfl, by omega, fun h' => absurd h' h⟩
theorem C_block {W W' : World} {gr : Nat} {l : List S41} (hl : l.length ≤ 1000000) (h : Kd.C k41 W (some ⟨gr, 0, none⟩) l.length l) (he : W'.heap[gr]? = W.heap[gr]?) : Kd.C k41 W' (some ⟨gr, 0, none⟩) l.length l := by
  refine C37_of_cells hl fun j u hj => ?_
  have h1 := cells_of_C37 h j u hj
  rw [add_plain] at h1 ⊢
  exact (World.cell?_of_block (a := ⟨gr, j, none⟩) he).trans h1
theorem RestOk.keep {g : Nat} {v8 : Value} {W W' : World} {A : Option Addr} {rest : List S41} (h : RestOk g v8 W A rest) (hk : KeepBut W W' g none) : RestOk g v8 W' A rest := by
  obtain ⟨h0, h1, h2⟩ := h
  by_cases hr : 0 < rest.length
  · obtain ⟨gr, rfl, a1, a2, a3⟩ := h1 hr
    exact ⟨h0, fun _ => ⟨gr, rfl, a1, a2, Nat.lt_of_lt_of_le a3 hk.1⟩, C_block h0 h2 (hk.2 gr a3 a1 (by simp))⟩
  · exact ⟨h0, fun h => absurd h hr, C_empty _ _ hr⟩
theorem RestOk.grown {g : Nat} {v8 v1 : Value} {W W' : World} {A : Option Addr} {rest : List S41} (h : RestOk g v8 W A rest) (hg : W.grownBy W' v8.ownBlock) (hat : v1.ownBlock = v8.ownBlock ∨ ∃ b, v1.ownBlock = some b ∧ W.heap.size ≤ b) : RestOk g v1 W' A rest := by
  obtain ⟨h0, h1, h2⟩ := h
  by_cases hr : 0 < rest.length
  · obtain ⟨gr, rfl, a1, a2, a3⟩ := h1 hr
    refine ⟨h0, fun _ => ⟨gr, rfl, a1, ?_, Nat.lt_of_lt_of_le a3 hg.size⟩, C_block h0 h2 (hg.block gr a3 a2)⟩
    rcases hat with e | ⟨b, e, hb⟩
    · rw [e]
      exact a2
    · rw [e]
      intro he
      injection he with he
      omega
  · exact ⟨h0, fun h => absurd h hr, C_empty _ _ hr⟩
theorem R_start {W : World} {base g : Nat} {ok : Nat → Prop} {v : Value} {xs : List S41} (hl : xs.length ≤ 1000000) (h : Kd.R k41 41 W base ok v xs) (hg : g < base) : ∃ A c, v = .slice A xs.length c ∧ xs.length ≤ c ∧ RestOk g (.slice none 0 0) W A xs := by
  obtain ⟨A, c, rfl, hlc, hC⟩ := Kd.R_reads h
  refine ⟨A, c, rfl, hlc, hl, fun hp => ?_, hC⟩
  obtain ⟨gr, cap, e, h1, h2, _⟩ := Kd.R_form h hp
  injection e with e
  exact ⟨gr, e, by omega, by simp [Value.ownBlock], h2⟩
/-- The append of the cut row, seen from the loop. -/
theorem rest_append {W : World} {g k c : Nat} {v8 : Value} {A : Option Addr} {rest : List S41} (hk : k < rest.length) (hcap : rest.length ≤ c) (h : RestOk g v8 W A rest) (hg : g < W.heap.size) (hv : ∀ b, v8.ownBlock = some b → b < W.heap.size) :
    ∃ gr, A = some ⟨gr, 0, none⟩ ∧ ∀ u, (k + 1 < rest.length → u = .slice (some ⟨gr, (k + 1) * 2, none⟩) (rest.length - (k + 1)) (c - (k + 1))) → (k + 1 = rest.length → ∃ A' c', u = .slice A' 0 c') →
      ∃ A1 c1 w1, (Builtin.append_ #[23, 23] 23 #[.slice (some ⟨gr, 0, none⟩) k k, u]).run Try.prog W = .ok (.slice A1 (without rest k).length c1) w1 ∧ (without rest k).length ≤ c1 ∧ RestOk g v8 w1 A1 (without rest k) ∧ W.grownBy w1 none := by
  obtain ⟨h0, h1, h2⟩ := h
  obtain ⟨gr, rfl, a1, a2, a3⟩ := h1 (by omega)
  refine ⟨gr, rfl, fun u hu1 hu2 => ?_⟩
  obtain ⟨A1, c1, w1, b1, b2, b3, b4, b5⟩ := cut_append hk hcap h0 h2 hu1 hu2
  refine ⟨A1, c1, w1, b1, b2, ⟨by rw [without_length hk]; omega, fun hp => ?_, b4⟩, b5⟩
  obtain ⟨gr1, e, hgr⟩ := b3 hp
  subst e
  have hlt : gr1 < w1.heap.size := Kd.C_lt b4 hp (by decide)
  refine ⟨gr1, rfl, ?_, ?_, hlt⟩
  · rcases hgr with rfl | hgr
    · exact a1
    · omega
  · rcases hgr with rfl | hgr
    · exact a2
    · intro e
      have := hv gr1 e.symm
      omega
theorem keep_then {w W W' : World} {g : Nat} (h : KeepBut w W g none) (hb : Below w.heap.size W W') : KeepBut w W' g none :=
  ⟨Nat.le_trans h.1 hb.size, fun i hi h1 h2 => (hb.block i hi).trans (h.2 i hi h1 h2)⟩
section
variable {P : Program} {ops : Array Oper} {Q : Exit → Act → World → Prop} {rest : List Oper} {a : Act} {o : Oper} {W : World}
/-- An append whose run is known. -/
theorem append_run (hgd : o.guard = none) (s x : Operand) (t : TypeId) (ho : o.op = .call { callee := .builtin .append, args := #[s, x], argTypes := #[t, t] }) {v u v1 : Value} {w1 : World} (hs : a.eval s = v) (hx : a.eval x = u)
    (hr : (Builtin.append_ #[t, t] o.type #[v, u]).run P W = .ok v1 w1) (h : wpList P ops Q rest (a.put o.dst v1) w1) : wpList P ops Q (o :: rest) a W := by
  refine wpList_plain hgd fun K hK => ?_
  unfold Oper.wp execOp
  simp only [ho, resolve, invoke, builtin, Sem.run_bind, Sem.run_pure, Result.andThen_ok, List.map_toArray, List.map_cons, List.map_nil, hs, hx, hr]
  exact hK _ _ h
theorem append_run_step {Kc : Act → World → Prop} (hw : Region.wanted o (yielded ops a.tmps) = true) (s x : Operand) (t : TypeId) (ho : o.op = .call { callee := .builtin .append, args := #[s, x], argTypes := #[t, t] }) {v u v1 : Value} {w1 : World} (hs : a.eval s = v) (hx : a.eval x = u)
    (hr : (Builtin.append_ #[t, t] o.type #[v, u]).run P W = .ok v1 w1) (h : Kc (a.put o.dst v1) w1) : if Region.wanted o (yielded ops a.tmps) = true then Oper.wp P o a W Kc Q else Kc (a.put o.dst undef) W := by
  rw [if_pos hw]
  unfold Oper.wp execOp
  simp only [ho, resolve, invoke, builtin, Sem.run_bind, Sem.run_pure, Result.andThen_ok, List.map_toArray, List.map_cons, List.map_nil, hs, hx, hr]
  exact h
end
end Go.Proofs.Ythfddndmhjkeiaa.L
end
section
/- law07's some. -/
namespace Go.Proofs.Ythfddndmhjkeiaa.L
open Go.RowKit Go.Proofs.YthfddndmhjkeiaaW.PrintWords Go.Proofs.YthfddndmhjkeiaaW.PrintLast Go.Proofs.YthfddndmhjkeiaaW.PrintMore
set_option linter.unusedVariables false
set_option linter.unusedSimpArgs false
set_option maxHeartbeats 2000000 in
set_option maxRecDepth 100000 in
theorem storagebarterlaw13_some.calls (g : Nat) (s0_0 : List Int) (s0_1 : Int) (A1 : Option Addr) (c1 : Nat) (l1 : List S41) (a2 : Int) (r1 : List S41) (r2 : Int) (w0 w : World) (hI : IsS52 w0 w g s0_0 s0_1) (hB : Below w0.heap.size w0 w) (hr1 : ∀ W_, KeepBut w W_ g none → Kd.C k41 W_ A1 l1.length l1) (hc1 : l1.length ≤ c1) (h : storagebarterlaw13_some.f s0_0 s0_1 l1 a2 = some (r1, r2)) :
    Calls Try.prog 13 #[.pointer (some ⟨g, 0, none⟩), .slice A1 l1.length c1, .int .i64 a2] w fun e w' => ∃ v0_ : Value, e = .returned v0_ ∧ Kd.R k41 41 w' w.heap.size (fun _ => True) v0_ r1 ∧ IsS52 w0 w' g s0_0 r2 ∧ Below w0.heap.size w0 w' ∧ KeepBut w w' g none := by
  have hl : l1.length ≤ 1000000 := by
    unfold storagebarterlaw13_some.f at h
    split at h
    · assumption
    · cases h
  unfold storagebarterlaw13_some.f at h
  rw [if_pos hl] at h
  have HI := Aside0.mk hI
  have HB := Aside0.mk hB
  have HR1 := Aside0.mk (hr1 w (KeepBut.refl w g none))
  have HC1 := Aside0.mk hc1
  have H := Aside0.mk h
  have HG := Aside0.mk hI.lt
  have HW := Aside0.mk hB.size
  clear hI hB hr1 hc1 h
  go_enter Try.func13, Try.ntmps13
  go_wp2_with (at_builtin; refine Kd.R_append_rows k41 (Rr := k41.K w) (w0 := w) w.heap.size (by rfl) (.const (.slice none 0 0)) (.tmp 10) 23 41 (.agg #[.int .i64 0, .string ⟨#[]⟩]) 24 rfl Try.underlying23 info41 rfl (by decide) (by omega) (.slice none 0 0) [] l1 A1 l1.length c1 (fun _ => True) (fun _ => False) rfl rfl (Kd.R_nil _ _ _ _ _) HR1.out (fun _ _ h => k41_KM h) (fun _ h => h.elim) (fun _ _ => trivial) (Below.refl _ _) (Nat.le_refl _) ?aL ?_)
  case aL => simp only [List.length_nil]; omega
  intro v1 w1 ho hb hg hat
  replace ho : Kd.R k41 41 w1 w.heap.size (fun _ => True) v1 l1 := ho
  obtain ⟨A7, c7, rfl, h7c, h7⟩ := R_start hl ho HG.out
  have HS := Aside0.mk h7
  have HB1 := Aside0.mk hb
  clear ho hb hg hat h7
  go_wp2_with fail
  go_loopg [7, 8] (l1.length + 1) (fun kq v7 v8 wr => ∃ (rest out : List S41) (s : Int) (A : Option Addr) (c : Nat), v7 = .slice A rest.length c ∧ rest.length ≤ c ∧ Aside0 (rest.length + out.length = l1.length) ∧ Aside0 (someAt s0_0 a2 kq rest out s = some (r1, r2)) ∧ Aside0 (Kd.R k41 41 wr w.heap.size (fun _ => True) v8 out) ∧ Aside0 (RestOk g v8 wr A rest) ∧ Aside0 (IsS52 w0 wr g s0_0 s) ∧ Aside0 (Below w0.heap.size w0 wr) ∧ Aside0 (KeepBut w wr g none) ∧ Aside0 (kq ≤ l1.length + 1))
  case atStart => exact ⟨l1, [], s0_1, A7, c7, rfl, h7c, ⟨rfl⟩, H, ⟨Kd.R_nil _ _ _ _ _⟩, HS, ⟨HI.out.below HB1.out⟩, ⟨HB.out.trans (HB1.out.mono HW.out)⟩, ⟨keep_then (KeepBut.refl w g none) HB1.out⟩, ⟨Nat.le_refl _⟩⟩
  case round =>
    obtain ⟨rest, out, s, A, c, rfl, hrc, HL, HA, HO, HS2, HI2, HB2, HK2, HKQ⟩ := hrel
    cases gk with
    | zero => exact absurd HA.out (by simp [someAt])
    | succ k1 =>
      have hA := HA.out
      unfold someAt at hA
      have ho8 := Kd.R_slice HO.out
      obtain ⟨A8, c8, rfl⟩ := ho8
      by_cases hc : (out.length : Int) < a2 ∧ 0 < rest.length
      · rw [if_pos hc] at hA
        replace hA := Option.bind_eq_some_iff.mp hA
        obtain ⟨⟨t1, t2⟩, hD, hA⟩ := hA
        simp only at hA
        split at hA
        case isFalse => cases hA
        rename_i ht
        obtain ⟨kk, rfl⟩ : ∃ kk : Nat, t1 = (kk : Int) := ⟨t1.toNat, by omega⟩
        rw [Int.toNat_natCast] at hA
        have hkk : kk < rest.length := by omega
        have hrl := HS2.out.1
        have hol : out.length ≤ 1000000 := by have := HL.out; omega
        have d1 : decide ((out.length : Int) < a2) = true := decide_eq_true hc.1
        have d2 : decide (0 < (rest.length : Int)) = true := decide_eq_true (by omega)
        have hD' := Aside0.mk hD
        have hA' := Aside0.mk hA
        clear hD hA hc ht HA
        go_wp2_with fail
        refine (storagebartermake_Deck_Next.calls g s0_0 s (rest.length : Int) (kk : Int) t2 w0 _ HI2.out HB2.out hD'.out).mono ?_
        rintro e w5 ⟨rfl, hi5, hb5, hk5⟩
        have HO5 := Aside0.mk (Kd.R_mono (Kd.R_oldK (IsS52.apart HI2.out HO.out (by decide)) hk5) (ok' := fun _ => True) (fun _ _ => trivial))
        have HS5 := Aside0.mk (HS2.out.keep hk5)
        have HI5 := Aside0.mk hi5
        have HB5 := Aside0.mk hb5
        have HK5 := Aside0.mk (HK2.out.trans hk5 (.inl rfl))
        clear hi5 hb5 hk5 HO HS2 HI2 HB2 HK2
        obtain ⟨ad, e, hcell0, hcell1⟩ := at_T41 HS5.out.2.2 (kk : Int) (by omega) (by omega)
        obtain ⟨gr, e2, _, _, _⟩ := HS5.out.2.1 (by omega)
        subst e2
        cases e
        rw [Int.toNat_natCast, add_plain] at hcell0 hcell1
        go_wp2_with (at_builtin; refine Kd.R_append k41 (w0 := w5) w.heap.size rfl (.tmp 25) (.tmp 30) 23 41 (.agg #[(.int .i64 0), (.string ⟨#[]⟩)]) 24 rfl Try.underlying23 info41 rfl (by decide) (by omega) (.slice A8 out.length c8) out (rd_T41 rest (kk : Int)) [.int .i64 (rd_T41 rest (kk : Int)).f0, .string (rd_T41 rest (kk : Int)).f1] (fun _ => True) (fun _ => False) rfl rfl (k41_mkM _ _ _ _) (fun _ h => h.elim) (fun _ _ => trivial) HO5.out (Below.refl _ _) HK5.out.1 (by omega) ?_)
        intro v6 w6 ho6 hb6 hg6 hat6
        go_wp2_with fail
        have HS6 := HS5.out.grown hg6 hat6
        have hg5 : g < w5.heap.size := HI5.out.lt
        obtain ⟨gr', e3, happ⟩ := rest_append (W := w6.drew) hkk hrc ⟨HS6.1, HS6.2.1, Kd.C_drew HS6.2.2⟩ (Nat.lt_of_lt_of_le hg5 hb6.size) (Kd.R_lt ho6)
        cases e3
        have HO6 := Aside0.mk ho6
        have HI6 := Aside0.mk (HI5.out.grown hg6 (IsS52.own_ne HI5.out HO5.out (by decide)))
        have HB6 := Aside0.mk (HB5.out.trans (hb6.mono HW.out))
        have HK6 := Aside0.mk (keep_then HK5.out hb6)
        clear ho6 hg6 hat6 hb6 HS5 HI5 HB5 HK5 HO5 hcell0 hcell1 d1 d2 HS6
        have hwl := without_length hkk
        have HWL := Aside0.mk hwl
        have hkc : kk < c := Nat.lt_of_lt_of_le hkk hrc
        have hkk0 : (kk : Int) ≤ (c : Int) := Int.ofNat_le.2 (Nat.le_of_lt hkc)
        clear hwl
        by_cases hlast : kk + 1 < rest.length
        · obtain ⟨A1', c1', w7, hrun, hle7, HS7, hg7⟩ := happ _ (fun _ => rfl) (fun e => absurd e (Nat.ne_of_lt hlast))
          have hkl : kk + 1 < c := Nat.lt_of_lt_of_le hlast hrc
          clear happ
          obtain ⟨hw1, hw2, hw3, hw4, hw5⟩ := i64t (Nat.le_trans (Nat.le_of_lt hkk) hrl) hlast hkl
          have hp1 : (0 : Int) ≤ (kk : Int) := Int.natCast_nonneg _
          have hp2 : (kk : Int) ≤ (rest.length : Int) := Int.ofNat_le.2 (Nat.le_of_lt hkk)
          clear hkl hrl hol hkc h7c hrc
          go_region_held3 (fun w' => True) (exact trivial) (refine append_run_step rfl (.tmp 35) (.tmp 39) 23 rfl rfl rfl hrun ?_)
          have hb7 := below_of_grown hg7
          go_wp2_with fail
          go_roundg k1
          case measure => exact Nat.lt_succ_self k1
          case rel => exact ⟨without rest kk, out ++ [rd_T41 rest (kk : Int)], t2, A1', c1', rfl, hle7, ⟨by rw [List.length_append, List.length_singleton]; exact len_step HL.out HWL.out hkk⟩, hA', ⟨Kd.R_below HO6.out hb7⟩, ⟨HS7⟩, ⟨HI6.out.below hb7⟩, ⟨HB6.out.trans (hb7.mono (Nat.le_trans HW.out HK6.out.1))⟩, ⟨keep_then HK6.out (hb7.mono HK6.out.1)⟩, ⟨Nat.le_of_succ_le HKQ.out⟩⟩
        · have hlast : kk + 1 = rest.length := Nat.le_antisymm hkk (Nat.le_of_not_lt hlast)
          obtain ⟨hw1, hw2, hw3, hw5⟩ := i64u (Nat.le_trans (Nat.le_of_lt hkk) hrl) hlast
          have hp1 : (0 : Int) ≤ (kk : Int) := Int.natCast_nonneg _
          have hp2 : (kk : Int) ≤ (rest.length : Int) := Int.ofNat_le.2 (Nat.le_of_lt hkk)
          by_cases hcc : c = rest.length
          · obtain ⟨A1', c1', w7, hrun, hle7, HS7, hg7⟩ := happ (.slice (some ⟨gr, 0, none⟩) 0 (c - rest.length)) (fun e => absurd e (by rw [hlast]; exact Nat.lt_irrefl _)) (fun e => ⟨_, _, rfl⟩)
            clear happ
            have hw4 : (c = rest.length) = True := eq_true hcc
            clear hcc hrl hol hkc h7c hrc
            go_region_held3 (fun w' => True) (exact trivial) (refine append_run_step rfl (.tmp 35) (.tmp 39) 23 rfl rfl rfl hrun ?_)
            have hb7 := below_of_grown hg7
            go_wp2_with fail
            go_roundg k1
            case measure => exact Nat.lt_succ_self k1
            case rel => exact ⟨without rest kk, out ++ [rd_T41 rest (kk : Int)], t2, A1', c1', rfl, hle7, ⟨by rw [List.length_append, List.length_singleton]; exact len_step HL.out HWL.out hkk⟩, hA', ⟨Kd.R_below HO6.out hb7⟩, ⟨HS7⟩, ⟨HI6.out.below hb7⟩, ⟨HB6.out.trans (hb7.mono (Nat.le_trans HW.out HK6.out.1))⟩, ⟨keep_then HK6.out (hb7.mono HK6.out.1)⟩, ⟨Nat.le_of_succ_le HKQ.out⟩⟩
          · obtain ⟨A1', c1', w7, hrun, hle7, HS7, hg7⟩ := happ (.slice (some ⟨gr, rest.length * 2, none⟩) 0 (c - rest.length)) (fun e => absurd e (by rw [hlast]; exact Nat.lt_irrefl _)) (fun e => ⟨_, _, rfl⟩)
            clear happ
            have hw4 : (c = rest.length) = False := eq_false hcc
            clear hcc hrl hol hkc h7c hrc
            go_region_held3 (fun w' => True) (exact trivial) (refine append_run_step rfl (.tmp 35) (.tmp 39) 23 rfl rfl rfl hrun ?_)
            have hb7 := below_of_grown hg7
            go_wp2_with fail
            go_roundg k1
            case measure => exact Nat.lt_succ_self k1
            case rel => exact ⟨without rest kk, out ++ [rd_T41 rest (kk : Int)], t2, A1', c1', rfl, hle7, ⟨by rw [List.length_append, List.length_singleton]; exact len_step HL.out HWL.out hkk⟩, hA', ⟨Kd.R_below HO6.out hb7⟩, ⟨HS7⟩, ⟨HI6.out.below hb7⟩, ⟨HB6.out.trans (hb7.mono (Nat.le_trans HW.out HK6.out.1))⟩, ⟨keep_then HK6.out (hb7.mono HK6.out.1)⟩, ⟨Nat.le_of_succ_le HKQ.out⟩⟩
      · rw [if_neg hc] at hA
        injection hA with hA
        injection hA with hA1 hA2
        subst hA1 hA2
        by_cases d1 : (out.length : Int) < a2
        · have hr0 : rest.length = 0 := by omega
          have d1' : decide ((out.length : Int) < a2) = true := decide_eq_true d1
          have d2 : decide (0 < (rest.length : Int)) = false := decide_eq_false (by omega)
          go_wp2_with fail
          go_ret
          exact ⟨_, rfl, HO.out, HI2.out, HB2.out, HK2.out⟩
        · have d1' : decide ((out.length : Int) < a2) = false := decide_eq_false d1
          go_wp2_with fail
          go_ret
          exact ⟨_, rfl, HO.out, HI2.out, HB2.out, HK2.out⟩
#print axioms storagebarterlaw13_some.calls
end Go.Proofs.Ythfddndmhjkeiaa.L
end
section
/- law13's StripeRepairs: what holds at each world of its regions. -/
namespace Go.Proofs.Ythfddndmhjkeiaa.L
open Go.RowKit Go.Proofs.YthfddndmhjkeiaaW.PrintWords Go.Proofs.YthfddndmhjkeiaaW.PrintLast Go.Proofs.YthfddndmhjkeiaaW.PrintMore
set_option linter.unusedVariables false
set_option linter.unusedSimpArgs false
/-- The deck at g, the code at cb. -/
structure Jc (w W : World) (g cb : Nat) (l0 : List Int) (p n a : Int) : Prop where
  hi : IsS52 w W g l0 p
  hb : Below w.heap.size w W
  hc : W.heap[cb]? = some (.cells #[.int .i64 n, .int .i64 a] 30 (0, 0))
  hn : g < cb
section
variable {w W W' : World} {g cb : Nat} {l0 : List Int} {p p' n a : Int}
theorem Jc.alloc (h : Jc w W g cb l0 p n a) (o : Obj) : Jc w (W.alloc o) g cb l0 p n a := ⟨h.hi.alloc o, below_alloc h.hb o, blk_alloc h.hc o, h.hn⟩
theorem Jc.drew (h : Jc w W g cb l0 p n a) : Jc w W.drew g cb l0 p n a := ⟨h.hi.drew, below_drew1 h.hb, blk_drew h.hc, h.hn⟩
theorem Jc.below (h : Jc w W g cb l0 p n a) (hb : Below W.heap.size W W') : Jc w W' g cb l0 p n a := ⟨h.hi.below hb, below_step h.hb hb, blk_below h.hc hb, h.hn⟩
theorem Jc.c0 (h : Jc w W g cb l0 p n a) : W.cell? ⟨cb, 0, none⟩ = some (.int .i64 n) := blk_cell h.hc 0
theorem Jc.c1 (h : Jc w W g cb l0 p n a) : W.cell? ⟨cb, 1, none⟩ = some (.int .i64 a) := blk_cell h.hc 1
theorem Jc.lt (h : Jc w W g cb l0 p n a) : cb < W.heap.size := blk_lt h.hc
/-- A store into a block that is neither. -/
theorem Jc.far (h : Jc w W g cb l0 p n a) {q : Addr} (hq : cb < q.block) (u : Value) : Jc w (W.setCell q u) g cb l0 p n a :=
  ⟨h.hi.far (Nat.ne_of_lt (Nat.lt_trans h.hn hq)) u, h.hb.setCell (Nat.le_trans (IsS52.ge h.hi) (Nat.le_of_lt (Nat.lt_trans h.hn hq))) u, blk_far h.hc (Nat.ne_of_lt hq) u, h.hn⟩
theorem Jc.next {m r : Int} (h : Jc w W g cb l0 p n a) (hf : storagebartermake_Deck_Next.f l0 p m = some (r, p')) :
    Calls Try.prog 14 #[.pointer (some ⟨g, 0, none⟩), .int .i64 m] W fun e w' => e = .returned (.int .i64 r) ∧ Jc w w' g cb l0 p' n a ∧ KeepBut W w' g none :=
  (storagebartermake_Deck_Next.calls g l0 p m r p' w W h.hi h.hb hf).mono fun e w' ⟨e1, e2, e3, e4⟩ => ⟨e1, ⟨e2, e3, (e4.2 cb h.lt (Nat.ne_of_gt h.hn) (by simp)).trans h.hc, h.hn⟩, e4⟩
theorem Jc.make {k : Nat} {t : ByteArray} {key sz : Int} {dg : List Int} {l : List S41} (h : Jc w W g cb l0 p n a) (hf : stripe_Make.f k n a t key = some (n, a, sz, dg, l, 0)) :
    Calls Try.prog 12 #[.agg #[.int .i64 n, .int .i64 a], .string t, .int .i64 key] W fun e w' => ∃ A3 c3 A4 c4, e = .returned (.tuple #[.agg #[.int .i64 n, .int .i64 a, .int .i64 sz, .slice A3 dg.length c3], .slice A4 l.length c4, .int .i64 0]) ∧ Kd.R (Kd.int .i64) 3 w' W.heap.size (fun _ => True) (.slice A3 dg.length c3) dg ∧ Kd.R k41 41 w' W.heap.size (fun _ => True) (.slice A4 l.length c4) l ∧ Jc w w' g cb l0 p n a ∧ Below W.heap.size W w' :=
  (stripe_Make.calls k n a t key n a sz dg l 0 W hf).mono fun e w' ⟨v3, v4, e1, e2, e3, e4⟩ => by
    obtain ⟨A3, c3, rfl⟩ := Kd.R_slice e2
    obtain ⟨A4, c4, rfl⟩ := Kd.R_slice e3
    exact ⟨A3, c3, A4, c4, e1, e2, e3, h.below e4, e4⟩
end
/-- The code at cb, the stripe at sb. -/
structure Jm (W : World) (cb sb : Nat) (n a sz : Int) (A3 : Option Addr) (m3 c3 : Nat) : Prop where
  hc : W.heap[cb]? = some (.cells #[.int .i64 n, .int .i64 a] 30 (0, 0))
  hs : W.heap[sb]? = some (.cells #[.int .i64 n, .int .i64 a, .int .i64 sz, .slice A3 m3 c3] 34 (0, 0))
section
variable {W W' : World} {cb sb g : Nat} {n a sz : Int} {A3 : Option Addr} {m3 c3 : Nat}
theorem Jm.alloc (h : Jm W cb sb n a sz A3 m3 c3) (o : Obj) : Jm (W.alloc o) cb sb n a sz A3 m3 c3 := ⟨blk_alloc h.hc o, blk_alloc h.hs o⟩
theorem Jm.drew (h : Jm W cb sb n a sz A3 m3 c3) : Jm W.drew cb sb n a sz A3 m3 c3 := ⟨blk_drew h.hc, blk_drew h.hs⟩
theorem Jm.below (h : Jm W cb sb n a sz A3 m3 c3) (hb : Below W.heap.size W W') : Jm W' cb sb n a sz A3 m3 c3 := ⟨blk_below h.hc hb, blk_below h.hs hb⟩
theorem Jm.keep (h : Jm W cb sb n a sz A3 m3 c3) (hk : KeepBut W W' g none) (h1 : cb ≠ g) (h2 : sb ≠ g) : Jm W' cb sb n a sz A3 m3 c3 := ⟨hk.blk h.hc h1 (by simp), hk.blk h.hs h2 (by simp)⟩
theorem Jm.far (h : Jm W cb sb n a sz A3 m3 c3) {q : Addr} (h1 : cb ≠ q.block) (h2 : sb ≠ q.block) (u : Value) : Jm (W.setCell q u) cb sb n a sz A3 m3 c3 := ⟨blk_far h.hc h1 u, blk_far h.hs h2 u⟩
theorem Jm.five (h : Jm W cb sb n a sz A3 m3 c3) : W.cell? ⟨cb, 0, none⟩ = some (.int .i64 n) ∧ W.cell? ⟨sb, 0, none⟩ = some (.int .i64 n) ∧ W.cell? ⟨sb, 1, none⟩ = some (.int .i64 a) ∧ W.cell? ⟨sb, 2, none⟩ = some (.int .i64 sz) ∧ W.cell? ⟨sb, 3, none⟩ = some (.slice A3 m3 c3) :=
  ⟨blk_cell h.hc 0, blk_cell h.hs 0, blk_cell h.hs 1, blk_cell h.hs 2, blk_cell h.hs 3⟩
end
theorem R_off {α : Type} {d : Kd α} {e : Nat} {w W : World} {base g : Nat} {ok : Nat → Prop} {v : Value} {xs : List α} (h : d.R e W base ok v xs) (hg : g < base) (hb : w.heap.size ≤ base) : d.R e W w.heap.size (fun k => k ≠ g) v xs :=
  Kd.R_mono (Kd.R_lower (Kd.R_mono (Kd.R_bound h) (fun k hk => show k ≠ g from Nat.ne_of_gt (Nat.lt_of_lt_of_le hg hk.2.1))) hb) (fun _ hk => hk)
theorem R_keep {α : Type} {d : Kd α} {e : Nat} {W W' : World} {base g : Nat} {v : Value} {xs : List α} (h : d.R e W base (fun k => k ≠ g) v xs) (hk : KeepBut W W' g none) : d.R e W' base (fun k => k ≠ g) v xs :=
  Kd.R_step h (fun k ho hl => hk.2 k hl ho (by simp))
/-- All that region 12 needs of its world. -/
structure Js (w W : World) (g cb sb gr : Nat) (l0 : List Int) (p n a sz : Int) (A3 : Option Addr) (c3 c4 : Nat) (dg : List Int) (l : List S41) : Prop where
  jc : Jc w W g cb l0 p n a
  jm : Jm W cb sb n a sz A3 dg.length c3
  rd : Kd.R (Kd.int .i64) 3 W w.heap.size (fun k => k ≠ g) (.slice A3 dg.length c3) dg
  rl : Kd.C k41 W (some ⟨gr, 0, none⟩) l.length l
  lt : gr < W.heap.size
  l4 : l.length ≤ c4
  ll : l.length ≤ 1000000
  sg : sb ≠ g
  gg : gr ≠ g
section
variable {w W W' : World} {g cb sb gr : Nat} {l0 : List Int} {p p' n a sz : Int} {A3 : Option Addr} {c3 c4 : Nat} {dg : List Int} {l : List S41}
theorem Js.alloc (h : Js w W g cb sb gr l0 p n a sz A3 c3 c4 dg l) (o : Obj) : Js w (W.alloc o) g cb sb gr l0 p n a sz A3 c3 c4 dg l := ⟨h.jc.alloc o, h.jm.alloc o, Kd.R_alloc h.rd o, Kd.C_alloc h.rl o, Nat.lt_of_lt_of_le h.lt (by simp), h.l4, h.ll, h.sg, h.gg⟩
theorem Js.drew (h : Js w W g cb sb gr l0 p n a sz A3 c3 c4 dg l) : Js w W.drew g cb sb gr l0 p n a sz A3 c3 c4 dg l := ⟨h.jc.drew, h.jm.drew, Kd.R_drew h.rd, Kd.C_drew h.rl, h.lt, h.l4, h.ll, h.sg, h.gg⟩
theorem Js.below (h : Js w W g cb sb gr l0 p n a sz A3 c3 c4 dg l) (hb : Below W.heap.size W W') : Js w W' g cb sb gr l0 p n a sz A3 c3 c4 dg l := ⟨h.jc.below hb, h.jm.below hb, Kd.R_below h.rd hb, Kd.C_below h.rl hb, Nat.lt_of_lt_of_le h.lt hb.size, h.l4, h.ll, h.sg, h.gg⟩
theorem Js.lc (h : Js w W g cb sb gr l0 p n a sz A3 c3 c4 dg l) : Kd.C k41 W (some ⟨gr, 0, none⟩) l.length l ∧ l.length ≤ c4 := ⟨h.rl, h.l4⟩
theorem Js.dc (h : Js w W g cb sb gr l0 p n a sz A3 c3 c4 dg l) : Kd.C (Kd.int .i64) W A3 dg.length dg ∧ dg.length ≤ c3 := ⟨(Kd.R_reads' h.rd).2.2, (Kd.R_reads' h.rd).2.1⟩
theorem Js.new (h : Js w W g cb sb gr l0 p n a sz A3 c3 c4 dg l) : cb < W.heap.size ∧ sb ≠ W.heap.size ∧ gr ≠ W.heap.size ∧ W.heap.size ≠ g := ⟨h.jc.lt, Nat.ne_of_lt (blk_lt h.jm.hs), Nat.ne_of_lt h.lt, Nat.ne_of_gt (IsS52.lt h.jc.hi)⟩
theorem Js.far {xb j t : Nat} {cs : Array Value} (h : Js w W g cb sb gr l0 p n a sz A3 c3 c4 dg l) (hx : W.heap[xb]? = some (.cells cs t (0, 0))) (ht : t ≠ 3) (hq : cb < xb ∧ sb ≠ xb ∧ gr ≠ xb ∧ xb ≠ g) (u : Value) : Js w (W.setCell ⟨xb, j, none⟩ u) g cb sb gr l0 p n a sz A3 c3 c4 dg l :=
  ⟨h.jc.far hq.1 u, h.jm.far (Nat.ne_of_lt hq.1) hq.2.1 u, Kd.R_mono (Kd.R_far (p := ⟨xb, j, none⟩) (Kd.R_types h.rd hx (fun q hq => by
    rcases List.mem_cons.1 hq with e | e
    · rw [e]; exact fun e => ht e.symm
    · exact absurd (show q ∈ ([] : List Nat) from e) List.not_mem_nil)) (fun _ hk => hk.2) u) (fun _ hk => hk.1), C_block h.ll h.rl (Below.heap_setCell W ⟨xb, j, none⟩ u gr hq.2.2.1), Nat.lt_of_lt_of_le h.lt (by simp), h.l4, h.ll, h.sg, h.gg⟩
/-- .. and a row that the deck's callee may read. -/
def Jt (w W : World) (g cb sb gr : Nat) (l0 : List Int) (p n a sz : Int) (A3 : Option Addr) (c3 c4 : Nat) (dg : List Int) (l : List S41) (A1 : Option Addr) (m : List S41) : Prop :=
  Js w W g cb sb gr l0 p n a sz A3 c3 c4 dg l ∧ ∀ W_, KeepBut W W_ g none → Kd.C k41 W_ A1 m.length m
theorem Jt.alloc {A1 : Option Addr} {m : List S41} (h : Jt w W g cb sb gr l0 p n a sz A3 c3 c4 dg l A1 m) (o : Obj) : Jt w (W.alloc o) g cb sb gr l0 p n a sz A3 c3 c4 dg l A1 m :=
  ⟨h.1.alloc o, fun W_ hk => h.2 W_ (KeepBut.trans (KeepBut.of_below (below_alloc (Below.refl _ _) o) g none) hk (.inl rfl))⟩
theorem Js.cut {i : Nat} {u : Value} (h : Js w W g cb sb gr l0 p n a sz A3 c3 c4 dg l) (hi : i < l.length) (hu1 : i + 1 < l.length → u = .slice (some ⟨gr, (i + 1) * 2, none⟩) (l.length - (i + 1)) (c4 - (i + 1))) (hu2 : i + 1 = l.length → ∃ A' c', u = .slice A' 0 c') :
    ∃ A1 c1 w1, (Builtin.append_ #[23, 23] 23 #[.slice (some ⟨gr, 0, none⟩) i i, u]).run Try.prog W = .ok (.slice A1 (without l i).length c1) w1 ∧ (without l i).length ≤ c1 ∧ Below W.heap.size W w1 ∧ Jt w w1 g cb sb gr l0 p n a sz A3 c3 c4 dg l A1 (without l i) := by
  obtain ⟨A1, c1, w1, hrun, hle, hA, hC, hg⟩ := cut_append (W := W) hi h.l4 h.ll h.rl hu1 hu2
  have hb : Below W.heap.size W w1 := ⟨hg.os, hg.tape, hg.output, hg.size, fun i hi => hg.block i hi (by simp)⟩
  refine ⟨A1, c1, w1, hrun, hle, hb, h.below hb, fun W_ hk => ?_⟩
  by_cases hp : 0 < (without l i).length
  · obtain ⟨gr1, e, hgr⟩ := hA hp
    subst e
    have hlt := Kd.C_lt hC hp (by decide)
    refine C_block (by have := h.ll; rw [without_length hi]; omega) hC (hk.2 gr1 hlt ?_ (by simp))
    rcases hgr with rfl | hgr
    · exact h.gg
    · exact Nat.ne_of_gt (Nat.lt_of_lt_of_le (IsS52.lt h.jc.hi) hgr)
  · exact C_empty _ _ hp
/-- .. and a row that is drawn. -/
def Ju (w W : World) (g cb sb gr : Nat) (l0 : List Int) (p n a sz : Int) (A3 : Option Addr) (c3 c4 : Nat) (dg : List Int) (l : List S41) (A2 : Option Addr) (m : List S41) : Prop :=
  Js w W g cb sb gr l0 p n a sz A3 c3 c4 dg l ∧ Kd.C k41 W A2 m.length m
theorem Ju.alloc {A1 : Option Addr} {m : List S41} (h : Ju w W g cb sb gr l0 p n a sz A3 c3 c4 dg l A1 m) (o : Obj) : Ju w (W.alloc o) g cb sb gr l0 p n a sz A3 c3 c4 dg l A1 m :=
  ⟨h.1.alloc o, Kd.C_alloc h.2 o⟩
theorem Jt.some {A1 : Option Addr} {c1 : Nat} {m part : List S41} {q : Int} (h : Jt w W g cb sb gr l0 p n a sz A3 c3 c4 dg l A1 m) (hle : m.length ≤ c1) (hf : storagebarterlaw13_some.f l0 p m q = some (part, p')) :
    Calls Try.prog 13 #[.pointer (some ⟨g, 0, none⟩), .slice A1 m.length c1, .int .i64 q] W fun e w' => ∃ A2 c2, e = .returned (.slice A2 part.length c2) ∧ part.length ≤ c2 ∧ KeepBut W w' g none ∧ Ju w w' g cb sb gr l0 p' n a sz A3 c3 c4 dg l A2 part :=
  (storagebarterlaw13_some.calls g l0 p A1 c1 m q part p' w W h.1.jc.hi h.1.jc.hb h.2 hle hf).mono fun e w' ⟨v0, e1, e2, e3, e4, e5⟩ => by
    obtain ⟨A2, c2, rfl⟩ := Kd.R_slice e2
    have hr := Kd.R_reads' e2
    have hcg : cb ≠ g := Nat.ne_of_gt h.1.jc.hn
    exact ⟨A2, c2, e1, hr.2.1, e5, ⟨⟨e3, e4, e5.blk h.1.jc.hc hcg (by simp), h.1.jc.hn⟩, h.1.jm.keep e5 hcg h.1.sg, R_keep h.1.rd e5, C_block h.1.ll h.1.rl (e5.2 gr h.1.lt h.1.gg (by simp)), Nat.lt_of_lt_of_le h.1.lt e5.1, h.1.l4, h.1.ll, h.1.sg, h.1.gg⟩, hr.2.2⟩
theorem Ju.repair {A2 : Option Addr} {c2 k : Nat} {m : List S41} {q x0 : Int} {x1 : ByteArray} (h : Ju w W g cb sb gr l0 p n a sz A3 c3 c4 dg l A2 m) (hle : m.length ≤ c2) (hf : stripe_Repair.f k n a sz dg m q = some (x0, x1, 0)) :
    Calls Try.prog 17 #[.agg #[.int .i64 n, .int .i64 a, .int .i64 sz, .slice A3 dg.length c3], .slice A2 m.length c2, .int .i64 q] W fun e w' => e = .returned (.tuple #[.agg #[.int .i64 x0, .string x1], .int .i64 0]) ∧ Below W.heap.size W w' ∧ Js w w' g cb sb gr l0 p n a sz A3 c3 c4 dg l :=
  (stripe_Repair.calls k n a sz A3 c3 dg A2 c2 m q x0 x1 0 W h.1.dc.1 h.1.dc.2 h.2 hle hf).mono fun e w' ⟨e1, e2⟩ => ⟨e1, e2, h.1.below e2⟩
end
/-- The world at hand is W, as it is spelled. -/
theorem at_world (W : World) {P : Program} {o : Oper} {a : Act} {Kc : Act → World → Prop} {Q : Exit → Act → World → Prop} {c : Bool} (h : if c = true then Oper.wp P o a W Kc Q else Kc (a.put o.dst undef) W) : if c = true then Oper.wp P o a W Kc Q else Kc (a.put o.dst undef) W := h
end Go.Proofs.Ythfddndmhjkeiaa.L
end
section
/- law13's StripeRepairs: the walk along the way that the plain law tells. -/
namespace Go.Proofs.Ythfddndmhjkeiaa.L
open Go.RowKit Go.Proofs.YthfddndmhjkeiaaW.PrintWords Go.Proofs.YthfddndmhjkeiaaW.PrintLast Go.Proofs.YthfddndmhjkeiaaW.PrintMore
set_option linter.unusedVariables false
set_option linter.unusedSimpArgs false
attribute [local go_sem high] eqA41
theorem split3 {k m c : Nat} (h : k ≤ 1000000) (hk : k < m) (hm : m ≤ c) :
    (k + 1 < m ∧ IntKind.i64.wrap ((k : Int) + 1) = (k : Int) + 1 ∧ (0 : Int) ≤ (k : Int) + 1 ∧ (k : Int) + 1 ≤ (m : Int) ∧ ((c = k + 1) = False) ∧ ((k : Int) + 1).toNat = k + 1) ∨
    (k + 1 = m ∧ IntKind.i64.wrap ((k : Int) + 1) = (k : Int) + 1 ∧ (0 : Int) ≤ (k : Int) + 1 ∧ (k : Int) + 1 ≤ (m : Int) ∧ ((c = m) = True) ∧ ((k : Int) + 1).toNat = k + 1) ∨
    (k + 1 = m ∧ IntKind.i64.wrap ((k : Int) + 1) = (k : Int) + 1 ∧ (0 : Int) ≤ (k : Int) + 1 ∧ (k : Int) + 1 ≤ (m : Int) ∧ ((c = m) = False) ∧ ((k : Int) + 1).toNat = k + 1) := by
  by_cases h1 : k + 1 < m
  · obtain ⟨a, b, d, e, f⟩ := i64t h h1 (show k + 1 < c by omega)
    exact .inl ⟨h1, a, b, d, e, f⟩
  · have h2 : k + 1 = m := by omega
    obtain ⟨a, b, d, f⟩ := i64u h h2
    by_cases h3 : c = m
    · exact .inr (.inl ⟨h2, a, b, d, eq_true h3, f⟩)
    · exact .inr (.inr ⟨h2, a, b, d, eq_false h3, f⟩)
set_option maxHeartbeats 3000000 in
set_option maxRecDepth 100000 in
theorem storagebarterlaw13_StripeRepairs.main (k : Nat) (A0 : Option Addr) (c0 : Nat) (l0 : List Int) (a1 : ByteArray) (a2 : Int) (n a i : Nat) (p1 p2 p3 key sz : Int) (dg : List Int) (l part : List S41) (w : World)
    (hr0 : Kd.C (Kd.int .i64) w A0 l0.length l0) (hc0 : l0.length ≤ c0)
    (h20 : 0 ≤ a2) (h2 : a2 ≤ 255) (ha : 1 ≤ a) (ha9 : a ≤ 9) (hn : n ≤ a) (hi : a2.tmod ((a : Int) + 1) = (i : Int)) (hil : i < l.length)
    (hF : storagebartermake_Few.f l0 = some true) (hsz : a1.size ≤ 500)
    (hC : storagebartermake_Code.f l0 0 = some ((n : Int), (a : Int), p1))
    (hNx : storagebartermake_Deck_Next.f l0 p1 9 = some (key, p2))
    (hM : stripe_Make.f k n ((a : Int) + 1) a1 key = some ((n : Int), (a : Int) + 1, sz, dg, l, 0)) (hl : l.length = a + 1)
    (hso : storagebarterlaw13_some.f l0 p2 (without l i) n = some (part, p3)) (hpl2 : part.length ≤ 10)
    (hR : stripe_Repair.f k n ((a : Int) + 1) sz dg part i = some ((rd_T41 l (i : Int)).f0, (rd_T41 l (i : Int)).f1, 0))
    (hA : stripe_Right.f k n ((a : Int) + 1) sz dg (rd_T41 l (i : Int)).f0 (rd_T41 l (i : Int)).f1 = some true) :
    Calls Try.prog 4 #[.slice A0 l0.length c0, .string a1, .int .u8 a2] w fun e w' => e = .returned (.bool true) ∧ Below w.heap.size w w' := by
  have hu30 := Try.underlying30
  have hu34 := Try.underlying34
  have hu41 := Try.underlying41
  have HR0 := Aside0.mk hr0
  have HC0 := Aside0.mk hc0
  have HF := Aside0.mk hF
  have HC := Aside0.mk hC
  have HNX := Aside0.mk hNx
  have HM := Aside0.mk hM
  have HL := Aside0.mk hl
  have HI := Aside0.mk hi
  have HSO := Aside0.mk hso
  have HR := Aside0.mk hR
  have HA := Aside0.mk hA
  have HNW := Aside0.mk (show storagebartermake_New.f l0 = some (l0, 0) from rfl)
  have d1 : decide ((a1.size : Int) > 500) = false := decide_eq_false (by omega)
  clear hr0 hc0 hF hC hNx hM hl hi hso hR hA
  go_enter Try.func4, Try.ntmps4
  go_wp2_with fail
  refine (storagebarterlaw13_sane.holds w).mono ?_
  rintro e w1 ⟨rfl, hb1⟩
  have HB1 := Aside0.mk hb1
  clear hb1
  go_wp2_with fail
  refine (storagebartermake_Few.calls _ _ l0 true _ (Kd.C_below HR0.out HB1.out) HC0.out HF.out).mono ?_
  rintro e w2 ⟨rfl, ⟨nd, rfl⟩⟩
  go_wp2_with fail
  refine (storagebartermake_New.calls _ _ l0 l0 0 w _ (pw_below_drewN HB1.out _) HR0.out HC0.out HNW.out).mono ?_
  rintro e w3 ⟨g, rfl, hI3, hb3, _⟩
  have HI3 := Aside0.mk hI3
  have HB3 := Aside0.mk hb3
  clear hI3 hb3 HB1
  go_wp2_with fail
  refine (storagebartermake_Code.calls g l0 0 n a p1 w _ HI3.out HB3.out HC.out).mono ?_
  rintro e w4 ⟨rfl, hI4, hb4, hk4⟩
  have HI4 := Aside0.mk hI4
  have HB4 := Aside0.mk hb4
  clear hI4 hb4 hk4 HB3 HI3
  go_wp2_with fail
  have hgs4 : g < w4.heap.size := HI4.out.lt
  obtain ⟨W5, hW5⟩ : ∃ W5, w4.alloc (.cells #[.int .i64 (n : Int), .int .i64 ((a : Int) + 1)] 30) = W5 := ⟨_, rfl⟩
  have J5 : Jc w W5 g w4.heap.size l0 p1 n ((a : Int) + 1) := by
    rw [← hW5]
    exact ⟨HI4.out.alloc _, below_alloc HB4.out _, blk_new w4 _, hgs4⟩
  rw [hW5]
  have H5 : w4.heap.size < W5.heap.size := J5.lt
  clear HI4 HB4 hW5
  generalize w4.heap.size = cb at J5 H5 hgs4 ⊢
  have KX5 : ((W5.alloc (.cells #[.int .i64 0, .int .i64 0, .int .i64 0, .slice none 0 0] 34)).drew).heap[W5.heap.size]? = some (.cells #[.int .i64 0, .int .i64 0, .int .i64 0, .slice none 0 0] 34 (0, 0)) := blk_new W5 _
  have hx5 : W5.heap.size ≠ g := Nat.ne_of_gt (Nat.lt_trans hgs4 H5)
  have y0 := J5.c0
  have y1 := J5.c1
  go_cut [9, 10, 11] (fun v9 v10 v11 wc => ∃ (sb : Nat) (A3 : Option Addr) (c3 : Nat) (gr c4 : Nat), v9 = .pointer (some ⟨sb, 0, none⟩) ∧ v10 = .slice (some ⟨gr, 0, none⟩) l.length c4 ∧ v11 = .int .i64 0 ∧ Aside0 (Js w wc g cb sb gr l0 p2 n ((a : Int) + 1) sz A3 c3 c4 dg l))
  case first =>
    go_region_held3 (fun w' => w'.cell? ⟨cb, 0, none⟩ = some (.int .i64 (n : Int)) ∧ w'.cell? ⟨cb, 1, none⟩ = some (.int .i64 ((a : Int) + 1))) (first | (with_reducible exact ⟨y0, y1⟩) | (refine ⟨Jc.c0 (w := w) (g := g) (l0 := l0) (n := n) (a := (a : Int) + 1) (p := p1) ?_, Jc.c1 (w := w) (g := g) (l0 := l0) (n := n) (a := (a : Int) + 1) (p := p1) ?_⟩ <;> (repeat (first | with_reducible exact J5 | with_reducible apply Jc.alloc | with_reducible apply Jc.drew)); done) | (refine ⟨Jc.c0 (w := w) (g := g) (l0 := l0) (n := n) (a := (a : Int) + 1) (p := p2) ?_, Jc.c1 (w := w) (g := g) (l0 := l0) (n := n) (a := (a : Int) + 1) (p := p2) ?_⟩ <;> (repeat (first | with_reducible exact J6 | with_reducible exact J7 | with_reducible apply Jc.alloc | with_reducible apply Jc.drew | (with_reducible refine Jc.far ?_ (q := ⟨_, _, none⟩) hxb _))); done)) (first | ((with_reducible refine (Jc.next (w := w) (cb := cb) (n := n) (a := (a : Int) + 1) (p := p1) ?_ HNX.out).mono ?_); (case refine_1 => (repeat (first | with_reducible exact J5 | with_reducible apply Jc.alloc | with_reducible apply Jc.drew))); rintro e w6 ⟨rfl, J6, hk6⟩; have KX6 := (hk6.2 W5.heap.size (blk_lt KX5) hx5 (by simp)).trans KX5) | ((with_reducible refine (Jc.next (w := w) (cb := cb) (n := n) (a := (a : Int) + 1) (p := p1) ?_ HNX.out).mono ?_); (case refine_1 => (repeat (first | with_reducible exact J5 | with_reducible apply Jc.alloc | with_reducible apply Jc.drew))); rintro e w6 ⟨rfl, J6, hk6⟩) | ((with_reducible refine (Jc.make (w := w) (g := g) (cb := cb) (l0 := l0) (p := p2) ?_ HM.out).mono ?_); (case refine_1 => (repeat (first | with_reducible exact J6 | with_reducible apply Jc.alloc | with_reducible apply Jc.drew))); rintro e w7 ⟨A3, c3, A4, c4, rfl, hO3, hO4, J7, hb7⟩; have KX7 := blk_below KX6 hb7; have kx0 := blk_cell KX7 0; have kx1 := blk_cell KX7 1; have kx2 := blk_cell KX7 2; have kx3 := blk_cell KX7 3; have kf0 := blk_frozen KX7 0; have kf1 := blk_frozen KX7 1; have kf2 := blk_frozen KX7 2; have kf3 := blk_frozen KX7 3; have hxb := (H5 : cb < _); have hxs := blk_lt KX6; have hxz := Nat.le_refl w6.heap.size) | ((with_reducible refine (Jc.make (w := w) (g := g) (cb := cb) (l0 := l0) (p := p2) ?_ HM.out).mono ?_); (case refine_1 => (repeat (first | with_reducible exact J6 | with_reducible apply Jc.alloc | with_reducible apply Jc.drew))); rintro e w7 ⟨A3, c3, A4, c4, rfl, hO3, hO4, J7, hb7⟩; have KX7 := blk_below (blk_new w6 (.cells #[.int .i64 0, .int .i64 0, .int .i64 0, .slice none 0 0] 34)) hb7; have kx0 := blk_cell KX7 0; have kx1 := blk_cell KX7 1; have kx2 := blk_cell KX7 2; have kx3 := blk_cell KX7 3; have kf0 := blk_frozen KX7 0; have kf1 := blk_frozen KX7 1; have kf2 := blk_frozen KX7 2; have kf3 := blk_frozen KX7 3; have hxb := (J6.lt : cb < _); have hxs : w6.heap.size < (w6.alloc (.cells #[.int .i64 0, .int .i64 0, .int .i64 0, .slice none 0 0] 34)).heap.size := (by simp); have hxz := Nat.le_of_lt hxs) | ((with_reducible refine (Jc.make (w := w) (g := g) (cb := cb) (l0 := l0) (p := p2) ?_ HM.out).mono ?_); (case refine_1 => (repeat (first | with_reducible exact J6 | with_reducible apply Jc.alloc | with_reducible apply Jc.drew))); rintro e w7 ⟨A3, c3, A4, c4, rfl, hO3, hO4, J7, hb7⟩))
    all_goals
      have hlp : 0 < l.length := by have := HL.out; omega
      have hll : l.length ≤ 1000000 := by have := HL.out; omega
      have hg6 := Nat.lt_trans J6.hn J6.lt
      have hz6 := J6.hb.size
      first
        | (
          obtain ⟨gr, cp4, e4, hgr0, hgr1, _⟩ := Kd.R_form hO4 hlp
          cases e4
          have hrd4 := Kd.R_reads' hO4
          go_wp2_with fail
          go_meet
          case rel => exact ⟨_, A3, c3, gr, _, rfl, rfl, rfl, ⟨J7.alloc _, ⟨(J7.alloc _).hc, blk_new w7 _⟩, R_off (Kd.R_alloc hO3 _) hg6 hz6, Kd.C_alloc hrd4.2.2 _, Nat.lt_of_lt_of_le hgr1 (by simp), hrd4.2.1, hll, Nat.ne_of_gt (Nat.lt_trans J7.hn J7.lt), Nat.ne_of_gt (Nat.lt_of_lt_of_le hg6 hgr0)⟩⟩)
        | (
          obtain ⟨gr, cp4, e4, hgr0, hgr1, _⟩ := Kd.R_form hO4 hlp
          cases e4
          have hbs := Nat.le_of_lt hxs
          have hR3 := Kd.R_far (p := ⟨_, 3, none⟩) (Kd.R_far (p := ⟨_, 2, none⟩) (Kd.R_far (p := ⟨_, 1, none⟩) (Kd.R_far (p := ⟨_, 0, none⟩) (Kd.R_types hO3 KX7 (by decide)) (fun _ hk => hk.2) (.int .i64 n)) (fun _ hk => hk.2) (.int .i64 ((a : Int) + 1))) (fun _ hk => hk.2) (.int .i64 sz)) (fun _ hk => hk.2) (.slice A3 dg.length c3)
          have hR4 := Kd.R_far (p := ⟨_, 3, none⟩) (Kd.R_far (p := ⟨_, 2, none⟩) (Kd.R_far (p := ⟨_, 1, none⟩) (Kd.R_far (p := ⟨_, 0, none⟩) (Kd.R_types hO4 KX7 (by decide)) (fun _ hk => hk.2) (.int .i64 n)) (fun _ hk => hk.2) (.int .i64 ((a : Int) + 1))) (fun _ hk => hk.2) (.int .i64 sz)) (fun _ hk => hk.2) (.slice A3 dg.length c3)
          have hrd4 := Kd.R_reads' hR4
          have hgb := Nat.lt_trans (Nat.lt_trans J6.hn hxb) hxs
          have hJ := (((J7.far (q := ⟨_, 0, none⟩) hxb (.int .i64 n)).far (q := ⟨_, 1, none⟩) hxb (.int .i64 ((a : Int) + 1))).far (q := ⟨_, 2, none⟩) hxb (.int .i64 sz)).far (q := ⟨_, 3, none⟩) hxb (.slice A3 dg.length c3)
          have hzb := Nat.le_trans hz6 (show w6.heap.size ≤ _ from hxz)
          go_wp2_with fail
          go_meet
          case rel => exact ⟨_, A3, c3, gr, _, rfl, rfl, rfl, ⟨hJ, ⟨hJ.hc, blk_put (blk_put (blk_put (blk_put KX7 0 _ rfl) 1 _ rfl) 2 _ rfl) 3 _ rfl⟩, R_off hR3 hgb hzb, hrd4.2.2, Nat.lt_of_lt_of_le hgr1 (by simp), hrd4.2.1, hll, Nat.ne_of_gt (Nat.lt_trans J6.hn hxb), Nat.ne_of_gt (Nat.lt_of_lt_of_le hgb hgr0)⟩⟩)
  case rest =>
    clear J5 KX5 y0 y1 H5 hx5 HM HNX
    obtain ⟨sb, A3, c3, gr, c4, rfl, rfl, rfl, JC⟩ := hcut
    have hlb : ((l.length : Int) != ((a : Int) + 1)) = false := by rw [HL.out]; simp
    have x1 := JC.out.jc.c1
    have hi' : a2 % ((a : Int) + 1) = (i : Int) := by have := HI.out; rwa [Int.tmod_eq_emod_of_nonneg h20] at this
    go_upto_region 12 with (fail)
    rw [hi']
    clear hi' hlb x1
    have hcap := JC.out.l4
    have hll := JC.out.ll
    have hic : i < c4 := Nat.lt_of_lt_of_le hil hcap
    have hkk0 : (i : Int) ≤ (c4 : Int) := by omega
    have hp1 : (0 : Int) ≤ (i : Int) := Int.natCast_nonneg _
    have hp2 : (i : Int) ≤ (l.length : Int) := by omega
    have hs3 := split3 (k := i) (m := l.length) (c := c4) (by have := HL.out; omega) hil hcap
    have KXC : ((wc.alloc (.cells #[.int .i64 0, .string ⟨#[]⟩] 41)).drew).heap[wc.heap.size]? = some (.cells #[.int .i64 0, .string ⟨#[]⟩] 41 (0, 0)) := blk_new wc _
    have MC := JC.out.jm
    have y5 := MC.five
    obtain ⟨xf0, hx0⟩ : ∃ x, x = (rd_T41 l (i : Int)).f0 := ⟨_, rfl⟩
    obtain ⟨xf1, hx1'⟩ : ∃ x, x = (rd_T41 l (i : Int)).f1 := ⟨_, rfl⟩
    rw [← hx0, ← hx1'] at HR HA
    have HX0 := Aside0.mk hx0
    have HX1 := Aside0.mk hx1'
    clear hx0 hx1'
    go_cut [13, 14] (fun v13 v14 wd => ∃ xb, v13 = .pointer (some ⟨xb, 0, none⟩) ∧ v14 = .int .i64 0 ∧ Aside0 (Js w wd g cb sb gr l0 p3 n ((a : Int) + 1) sz A3 c3 c4 dg l) ∧ Aside0 (wd.heap[xb]? = some (.cells #[.int .i64 xf0, .string xf1] 41 (0, 0))))
    case first =>
      rcases hs3 with ⟨hlast, hw1, hw2, hw3, hw4, hw5⟩ | ⟨hlast, hw1, hw2, hw3, hw4, hw5⟩ | ⟨hlast, hw1, hw2, hw3, hw4, hw5⟩
      · go_region_held3 (fun w' => w'.cell? ⟨cb, 0, none⟩ = some (.int .i64 (n : Int)) ∧ w'.cell? ⟨sb, 0, none⟩ = some (.int .i64 (n : Int)) ∧ w'.cell? ⟨sb, 1, none⟩ = some (.int .i64 ((a : Int) + 1)) ∧ w'.cell? ⟨sb, 2, none⟩ = some (.int .i64 sz) ∧ w'.cell? ⟨sb, 3, none⟩ = some (.slice A3 dg.length c3)) (first | with_reducible exact y5 | (refine Jm.five (cb := cb) (sb := sb) (n := n) (a := (a : Int) + 1) (sz := sz) (A3 := A3) (m3 := dg.length) (c3 := c3) ?_; repeat (first | with_reducible exact MC | with_reducible exact M7 | with_reducible exact M8 | with_reducible exact M9 | with_reducible apply Jm.alloc | with_reducible apply Jm.drew | (with_reducible refine Jm.far (q := ⟨_, _, none⟩) ?_ hx1 hx2 _)))) (first | ((with_reducible refine at_world ((wc.alloc (.cells #[.int .i64 0, .string ⟨#[]⟩] 41)).drew) ?_); obtain ⟨A1, c1, w7, hrun, hle7, hb7, J7⟩ := Js.cut (W := ((wc.alloc (.cells #[.int .i64 0, .string ⟨#[]⟩] 41)).drew)) (u := .slice (some ⟨gr, (i + 1) * 2, none⟩) (l.length - (i + 1)) (c4 - (i + 1))) ((JC.out.alloc (.cells #[.int .i64 0, .string ⟨#[]⟩] 41)).drew) hil (fun _ => rfl) (fun h => absurd h (Nat.ne_of_lt hlast)); refine append_run_step rfl (.tmp 62) (.tmp 66) 23 rfl rfl rfl hrun ?_; have M7 := J7.1.jm; have KX7 := blk_below KXC hb7; have HX := JC.out.new) | ((with_reducible refine at_world (wc.drew) ?_); obtain ⟨A1, c1, w7, hrun, hle7, hb7, J7⟩ := Js.cut (W := (wc.drew)) (u := .slice (some ⟨gr, (i + 1) * 2, none⟩) (l.length - (i + 1)) (c4 - (i + 1))) (JC.out.drew) hil (fun _ => rfl) (fun h => absurd h (Nat.ne_of_lt hlast)); refine append_run_step rfl (.tmp 62) (.tmp 66) 23 rfl rfl rfl hrun ?_; have M7 := J7.1.jm) | ((with_reducible refine (Jt.some (w := w) (cb := cb) (sb := sb) (gr := gr) (n := n) (a := (a : Int) + 1) (sz := sz) (A3 := A3) (c3 := c3) (c4 := c4) (dg := dg) (l := l) (p' := p3) ?_ hle7 HSO.out).mono ?_); (case refine_1 => (repeat (first | with_reducible exact J7 | with_reducible apply Jt.alloc))); rintro e w8 ⟨A2, c2, rfl, hle8, hk8, J8⟩; have M8 := J8.1.jm; have KX8 := hk8.blk KX7 HX.2.2.2 (by simp)) | ((with_reducible refine (Jt.some (w := w) (cb := cb) (sb := sb) (gr := gr) (n := n) (a := (a : Int) + 1) (sz := sz) (A3 := A3) (c3 := c3) (c4 := c4) (dg := dg) (l := l) (p' := p3) ?_ hle7 HSO.out).mono ?_); (case refine_1 => (repeat (first | with_reducible exact J7 | with_reducible apply Jt.alloc))); rintro e w8 ⟨A2, c2, rfl, hle8, hk8, J8⟩; have M8 := J8.1.jm; have KX8 := hk8.blk (blk_new w7 (.cells #[.int .i64 0, .string ⟨#[]⟩] 41)) (Nat.ne_of_gt (IsS52.lt J7.1.jc.hi)) (by simp); have HX := J7.1.new) | ((with_reducible refine (Jt.some (w := w) (cb := cb) (sb := sb) (gr := gr) (n := n) (a := (a : Int) + 1) (sz := sz) (A3 := A3) (c3 := c3) (c4 := c4) (dg := dg) (l := l) (p' := p3) ?_ hle7 HSO.out).mono ?_); (case refine_1 => (repeat (first | with_reducible exact J7 | with_reducible apply Jt.alloc))); rintro e w8 ⟨A2, c2, rfl, hle8, hk8, J8⟩; have M8 := J8.1.jm) | ((with_reducible refine (Ju.repair (w := w) (g := g) (cb := cb) (sb := sb) (gr := gr) (l0 := l0) (p := p3) (c4 := c4) (l := l) ?_ hle8 HR.out).mono ?_); (case refine_1 => (repeat (first | with_reducible exact J8 | with_reducible apply Ju.alloc))); rintro e w9 ⟨rfl, hb9, J9⟩; have M9 := J9.jm; have KX9 := blk_below KX8 hb9; have kx0 := blk_cell KX9 0; have kx1 := blk_cell KX9 1; have kf0 := blk_frozen KX9 0; have kf1 := blk_frozen KX9 1; have hx1 := Nat.ne_of_lt HX.1; have hx2 := HX.2.1) | ((with_reducible refine (Ju.repair (w := w) (g := g) (cb := cb) (sb := sb) (gr := gr) (l0 := l0) (p := p3) (c4 := c4) (l := l) ?_ hle8 HR.out).mono ?_); (case refine_1 => (repeat (first | with_reducible exact J8 | with_reducible apply Ju.alloc))); rintro e w9 ⟨rfl, hb9, J9⟩; have M9 := J9.jm; have KX9 := blk_below (blk_new w8 (.cells #[.int .i64 0, .string ⟨#[]⟩] 41)) hb9; have HX := J8.1.new; have kx0 := blk_cell KX9 0; have kx1 := blk_cell KX9 1; have kf0 := blk_frozen KX9 0; have kf1 := blk_frozen KX9 1; have hx1 := Nat.ne_of_lt HX.1; have hx2 := HX.2.1) | ((with_reducible refine (Ju.repair (w := w) (g := g) (cb := cb) (sb := sb) (gr := gr) (l0 := l0) (p := p3) (c4 := c4) (l := l) ?_ hle8 HR.out).mono ?_); (case refine_1 => (repeat (first | with_reducible exact J8 | with_reducible apply Ju.alloc))); rintro e w9 ⟨rfl, hb9, J9⟩; have M9 := J9.jm))
        all_goals
          first
            | (
              go_wp2_with fail
              go_meet
              case rel => exact ⟨_, rfl, rfl, ⟨J9.alloc _⟩, ⟨blk_new w9 _⟩⟩)
            | (
              go_wp2_with fail
              go_meet
              case rel => exact ⟨_, rfl, rfl, ⟨(J9.far (j := 0) KX9 (by decide) HX (.int .i64 xf0)).far (j := 1) (blk_put KX9 0 _ rfl) (by decide) HX (.string xf1)⟩, ⟨blk_put (blk_put KX9 0 _ rfl) 1 _ rfl⟩⟩)
      · go_region_held3 (fun w' => w'.cell? ⟨cb, 0, none⟩ = some (.int .i64 (n : Int)) ∧ w'.cell? ⟨sb, 0, none⟩ = some (.int .i64 (n : Int)) ∧ w'.cell? ⟨sb, 1, none⟩ = some (.int .i64 ((a : Int) + 1)) ∧ w'.cell? ⟨sb, 2, none⟩ = some (.int .i64 sz) ∧ w'.cell? ⟨sb, 3, none⟩ = some (.slice A3 dg.length c3)) (first | with_reducible exact y5 | (refine Jm.five (cb := cb) (sb := sb) (n := n) (a := (a : Int) + 1) (sz := sz) (A3 := A3) (m3 := dg.length) (c3 := c3) ?_; repeat (first | with_reducible exact MC | with_reducible exact M7 | with_reducible exact M8 | with_reducible exact M9 | with_reducible apply Jm.alloc | with_reducible apply Jm.drew | (with_reducible refine Jm.far (q := ⟨_, _, none⟩) ?_ hx1 hx2 _)))) (first | ((with_reducible refine at_world ((wc.alloc (.cells #[.int .i64 0, .string ⟨#[]⟩] 41)).drew) ?_); obtain ⟨A1, c1, w7, hrun, hle7, hb7, J7⟩ := Js.cut (W := ((wc.alloc (.cells #[.int .i64 0, .string ⟨#[]⟩] 41)).drew)) (u := .slice (some ⟨gr, 0, none⟩) 0 (c4 - l.length)) ((JC.out.alloc (.cells #[.int .i64 0, .string ⟨#[]⟩] 41)).drew) hil (fun h => absurd h (hlast ▸ Nat.lt_irrefl _)) (fun _ => ⟨_, _, rfl⟩); refine append_run_step rfl (.tmp 62) (.tmp 66) 23 rfl rfl rfl hrun ?_; have M7 := J7.1.jm; have KX7 := blk_below KXC hb7; have HX := JC.out.new) | ((with_reducible refine at_world (wc.drew) ?_); obtain ⟨A1, c1, w7, hrun, hle7, hb7, J7⟩ := Js.cut (W := (wc.drew)) (u := .slice (some ⟨gr, 0, none⟩) 0 (c4 - l.length)) (JC.out.drew) hil (fun h => absurd h (hlast ▸ Nat.lt_irrefl _)) (fun _ => ⟨_, _, rfl⟩); refine append_run_step rfl (.tmp 62) (.tmp 66) 23 rfl rfl rfl hrun ?_; have M7 := J7.1.jm) | ((with_reducible refine (Jt.some (w := w) (cb := cb) (sb := sb) (gr := gr) (n := n) (a := (a : Int) + 1) (sz := sz) (A3 := A3) (c3 := c3) (c4 := c4) (dg := dg) (l := l) (p' := p3) ?_ hle7 HSO.out).mono ?_); (case refine_1 => (repeat (first | with_reducible exact J7 | with_reducible apply Jt.alloc))); rintro e w8 ⟨A2, c2, rfl, hle8, hk8, J8⟩; have M8 := J8.1.jm; have KX8 := hk8.blk KX7 HX.2.2.2 (by simp)) | ((with_reducible refine (Jt.some (w := w) (cb := cb) (sb := sb) (gr := gr) (n := n) (a := (a : Int) + 1) (sz := sz) (A3 := A3) (c3 := c3) (c4 := c4) (dg := dg) (l := l) (p' := p3) ?_ hle7 HSO.out).mono ?_); (case refine_1 => (repeat (first | with_reducible exact J7 | with_reducible apply Jt.alloc))); rintro e w8 ⟨A2, c2, rfl, hle8, hk8, J8⟩; have M8 := J8.1.jm; have KX8 := hk8.blk (blk_new w7 (.cells #[.int .i64 0, .string ⟨#[]⟩] 41)) (Nat.ne_of_gt (IsS52.lt J7.1.jc.hi)) (by simp); have HX := J7.1.new) | ((with_reducible refine (Jt.some (w := w) (cb := cb) (sb := sb) (gr := gr) (n := n) (a := (a : Int) + 1) (sz := sz) (A3 := A3) (c3 := c3) (c4 := c4) (dg := dg) (l := l) (p' := p3) ?_ hle7 HSO.out).mono ?_); (case refine_1 => (repeat (first | with_reducible exact J7 | with_reducible apply Jt.alloc))); rintro e w8 ⟨A2, c2, rfl, hle8, hk8, J8⟩; have M8 := J8.1.jm) | ((with_reducible refine (Ju.repair (w := w) (g := g) (cb := cb) (sb := sb) (gr := gr) (l0 := l0) (p := p3) (c4 := c4) (l := l) ?_ hle8 HR.out).mono ?_); (case refine_1 => (repeat (first | with_reducible exact J8 | with_reducible apply Ju.alloc))); rintro e w9 ⟨rfl, hb9, J9⟩; have M9 := J9.jm; have KX9 := blk_below KX8 hb9; have kx0 := blk_cell KX9 0; have kx1 := blk_cell KX9 1; have kf0 := blk_frozen KX9 0; have kf1 := blk_frozen KX9 1; have hx1 := Nat.ne_of_lt HX.1; have hx2 := HX.2.1) | ((with_reducible refine (Ju.repair (w := w) (g := g) (cb := cb) (sb := sb) (gr := gr) (l0 := l0) (p := p3) (c4 := c4) (l := l) ?_ hle8 HR.out).mono ?_); (case refine_1 => (repeat (first | with_reducible exact J8 | with_reducible apply Ju.alloc))); rintro e w9 ⟨rfl, hb9, J9⟩; have M9 := J9.jm; have KX9 := blk_below (blk_new w8 (.cells #[.int .i64 0, .string ⟨#[]⟩] 41)) hb9; have HX := J8.1.new; have kx0 := blk_cell KX9 0; have kx1 := blk_cell KX9 1; have kf0 := blk_frozen KX9 0; have kf1 := blk_frozen KX9 1; have hx1 := Nat.ne_of_lt HX.1; have hx2 := HX.2.1) | ((with_reducible refine (Ju.repair (w := w) (g := g) (cb := cb) (sb := sb) (gr := gr) (l0 := l0) (p := p3) (c4 := c4) (l := l) ?_ hle8 HR.out).mono ?_); (case refine_1 => (repeat (first | with_reducible exact J8 | with_reducible apply Ju.alloc))); rintro e w9 ⟨rfl, hb9, J9⟩; have M9 := J9.jm))
        all_goals
          first
            | (
              go_wp2_with fail
              go_meet
              case rel => exact ⟨_, rfl, rfl, ⟨J9.alloc _⟩, ⟨blk_new w9 _⟩⟩)
            | (
              go_wp2_with fail
              go_meet
              case rel => exact ⟨_, rfl, rfl, ⟨(J9.far (j := 0) KX9 (by decide) HX (.int .i64 xf0)).far (j := 1) (blk_put KX9 0 _ rfl) (by decide) HX (.string xf1)⟩, ⟨blk_put (blk_put KX9 0 _ rfl) 1 _ rfl⟩⟩)
      · go_region_held3 (fun w' => w'.cell? ⟨cb, 0, none⟩ = some (.int .i64 (n : Int)) ∧ w'.cell? ⟨sb, 0, none⟩ = some (.int .i64 (n : Int)) ∧ w'.cell? ⟨sb, 1, none⟩ = some (.int .i64 ((a : Int) + 1)) ∧ w'.cell? ⟨sb, 2, none⟩ = some (.int .i64 sz) ∧ w'.cell? ⟨sb, 3, none⟩ = some (.slice A3 dg.length c3)) (first | with_reducible exact y5 | (refine Jm.five (cb := cb) (sb := sb) (n := n) (a := (a : Int) + 1) (sz := sz) (A3 := A3) (m3 := dg.length) (c3 := c3) ?_; repeat (first | with_reducible exact MC | with_reducible exact M7 | with_reducible exact M8 | with_reducible exact M9 | with_reducible apply Jm.alloc | with_reducible apply Jm.drew | (with_reducible refine Jm.far (q := ⟨_, _, none⟩) ?_ hx1 hx2 _)))) (first | ((with_reducible refine at_world ((wc.alloc (.cells #[.int .i64 0, .string ⟨#[]⟩] 41)).drew) ?_); obtain ⟨A1, c1, w7, hrun, hle7, hb7, J7⟩ := Js.cut (W := ((wc.alloc (.cells #[.int .i64 0, .string ⟨#[]⟩] 41)).drew)) (u := .slice (some ⟨gr, l.length * 2, none⟩) 0 (c4 - l.length)) ((JC.out.alloc (.cells #[.int .i64 0, .string ⟨#[]⟩] 41)).drew) hil (fun h => absurd h (hlast ▸ Nat.lt_irrefl _)) (fun _ => ⟨_, _, rfl⟩); refine append_run_step rfl (.tmp 62) (.tmp 66) 23 rfl rfl rfl hrun ?_; have M7 := J7.1.jm; have KX7 := blk_below KXC hb7; have HX := JC.out.new) | ((with_reducible refine at_world (wc.drew) ?_); obtain ⟨A1, c1, w7, hrun, hle7, hb7, J7⟩ := Js.cut (W := (wc.drew)) (u := .slice (some ⟨gr, l.length * 2, none⟩) 0 (c4 - l.length)) (JC.out.drew) hil (fun h => absurd h (hlast ▸ Nat.lt_irrefl _)) (fun _ => ⟨_, _, rfl⟩); refine append_run_step rfl (.tmp 62) (.tmp 66) 23 rfl rfl rfl hrun ?_; have M7 := J7.1.jm) | ((with_reducible refine (Jt.some (w := w) (cb := cb) (sb := sb) (gr := gr) (n := n) (a := (a : Int) + 1) (sz := sz) (A3 := A3) (c3 := c3) (c4 := c4) (dg := dg) (l := l) (p' := p3) ?_ hle7 HSO.out).mono ?_); (case refine_1 => (repeat (first | with_reducible exact J7 | with_reducible apply Jt.alloc))); rintro e w8 ⟨A2, c2, rfl, hle8, hk8, J8⟩; have M8 := J8.1.jm; have KX8 := hk8.blk KX7 HX.2.2.2 (by simp)) | ((with_reducible refine (Jt.some (w := w) (cb := cb) (sb := sb) (gr := gr) (n := n) (a := (a : Int) + 1) (sz := sz) (A3 := A3) (c3 := c3) (c4 := c4) (dg := dg) (l := l) (p' := p3) ?_ hle7 HSO.out).mono ?_); (case refine_1 => (repeat (first | with_reducible exact J7 | with_reducible apply Jt.alloc))); rintro e w8 ⟨A2, c2, rfl, hle8, hk8, J8⟩; have M8 := J8.1.jm; have KX8 := hk8.blk (blk_new w7 (.cells #[.int .i64 0, .string ⟨#[]⟩] 41)) (Nat.ne_of_gt (IsS52.lt J7.1.jc.hi)) (by simp); have HX := J7.1.new) | ((with_reducible refine (Jt.some (w := w) (cb := cb) (sb := sb) (gr := gr) (n := n) (a := (a : Int) + 1) (sz := sz) (A3 := A3) (c3 := c3) (c4 := c4) (dg := dg) (l := l) (p' := p3) ?_ hle7 HSO.out).mono ?_); (case refine_1 => (repeat (first | with_reducible exact J7 | with_reducible apply Jt.alloc))); rintro e w8 ⟨A2, c2, rfl, hle8, hk8, J8⟩; have M8 := J8.1.jm) | ((with_reducible refine (Ju.repair (w := w) (g := g) (cb := cb) (sb := sb) (gr := gr) (l0 := l0) (p := p3) (c4 := c4) (l := l) ?_ hle8 HR.out).mono ?_); (case refine_1 => (repeat (first | with_reducible exact J8 | with_reducible apply Ju.alloc))); rintro e w9 ⟨rfl, hb9, J9⟩; have M9 := J9.jm; have KX9 := blk_below KX8 hb9; have kx0 := blk_cell KX9 0; have kx1 := blk_cell KX9 1; have kf0 := blk_frozen KX9 0; have kf1 := blk_frozen KX9 1; have hx1 := Nat.ne_of_lt HX.1; have hx2 := HX.2.1) | ((with_reducible refine (Ju.repair (w := w) (g := g) (cb := cb) (sb := sb) (gr := gr) (l0 := l0) (p := p3) (c4 := c4) (l := l) ?_ hle8 HR.out).mono ?_); (case refine_1 => (repeat (first | with_reducible exact J8 | with_reducible apply Ju.alloc))); rintro e w9 ⟨rfl, hb9, J9⟩; have M9 := J9.jm; have KX9 := blk_below (blk_new w8 (.cells #[.int .i64 0, .string ⟨#[]⟩] 41)) hb9; have HX := J8.1.new; have kx0 := blk_cell KX9 0; have kx1 := blk_cell KX9 1; have kf0 := blk_frozen KX9 0; have kf1 := blk_frozen KX9 1; have hx1 := Nat.ne_of_lt HX.1; have hx2 := HX.2.1) | ((with_reducible refine (Ju.repair (w := w) (g := g) (cb := cb) (sb := sb) (gr := gr) (l0 := l0) (p := p3) (c4 := c4) (l := l) ?_ hle8 HR.out).mono ?_); (case refine_1 => (repeat (first | with_reducible exact J8 | with_reducible apply Ju.alloc))); rintro e w9 ⟨rfl, hb9, J9⟩; have M9 := J9.jm))
        all_goals
          first
            | (
              go_wp2_with fail
              go_meet
              case rel => exact ⟨_, rfl, rfl, ⟨J9.alloc _⟩, ⟨blk_new w9 _⟩⟩)
            | (
              go_wp2_with fail
              go_meet
              case rel => exact ⟨_, rfl, rfl, ⟨(J9.far (j := 0) KX9 (by decide) HX (.int .i64 xf0)).far (j := 1) (blk_put KX9 0 _ rfl) (by decide) HX (.string xf1)⟩, ⟨blk_put (blk_put KX9 0 _ rfl) 1 _ rfl⟩⟩)
    case rest =>
      obtain ⟨xb, rfl, rfl, JD, KX⟩ := hcut
      clear MC y5 KXC JC hs3 HSO HR
      obtain ⟨ad, e, hc0, hc1⟩ := at_T41 JD.out.rl (i : Int) (by omega) (by omega)
      cases e
      rw [Int.toNat_natCast, add_plain] at hc0 hc1
      rw [← HX0.out] at hc0
      rw [← HX1.out] at hc1
      have x0 := (blk_cell KX.out 0).trans (show _ = some (Value.int .i64 xf0) from rfl)
      have x1 := (blk_cell KX.out 1).trans (show _ = some (Value.string xf1) from rfl)
      obtain ⟨_, y1, y2, y3, y4⟩ := JD.out.jm.five
      have hil2 : (i : Int) < (l.length : Int) := by omega
      have HB9 := Aside0.mk JD.out.jc.hb
      have hcall : Calls Try.prog 15 #[.agg #[.int .i64 n, .int .i64 ((a : Int) + 1), .int .i64 sz, .slice A3 dg.length c3], .agg #[.int .i64 xf0, .string xf1]] wc.drew fun e w' => e = .returned (.bool true) ∧ Below wc.heap.size wc w' := (stripe_Right.calls k n ((a : Int) + 1) sz A3 c3 dg xf0 xf1 true wc.drew (Kd.C_drew JD.out.dc.1) JD.out.dc.2 HA.out).mono (fun e w' h => ⟨h.1, (below_drew1 (Below.refl _ wc)).trans h.2⟩)
      clear HA HX0 HX1 KX JD
      go_wp2_with fail
      go_region_held3 (fun w' => w'.cell? ⟨xb, 0, none⟩ = some (.int .i64 xf0) ∧ w'.cell? ⟨xb, 1, none⟩ = some (.string xf1) ∧ w'.cell? ⟨gr, i * 2, none⟩ = some (.int .i64 xf0) ∧ w'.cell? ⟨gr, i * 2 + 1, none⟩ = some (.string xf1) ∧ w'.cell? ⟨sb, 0, none⟩ = some (.int .i64 (n : Int)) ∧ w'.cell? ⟨sb, 1, none⟩ = some (.int .i64 ((a : Int) + 1)) ∧ w'.cell? ⟨sb, 2, none⟩ = some (.int .i64 sz) ∧ w'.cell? ⟨sb, 3, none⟩ = some (.slice A3 dg.length c3)) (first | exact ⟨x0, x1, hc0, hc1, y1, y2, y3, y4⟩ | exact ⟨pw_cell_below hb9 x0, pw_cell_below hb9 x1, pw_cell_below hb9 hc0, pw_cell_below hb9 hc1, pw_cell_below hb9 y1, pw_cell_below hb9 y2, pw_cell_below hb9 y3, pw_cell_below hb9 y4⟩) (first | ((with_reducible refine hcall.mono ?_); rintro e w9 ⟨rfl, hb9⟩))
      go_wp2_with fail
      go_ret
      exact ⟨rfl, below_step HB9.out hb9⟩
#print axioms storagebarterlaw13_StripeRepairs.main
end Go.Proofs.Ythfddndmhjkeiaa.L
end
section
/- law13's StripeRepairs: what is left to the plain law, and the walk of the whole. -/
namespace Go.Proofs.Ythfddndmhjkeiaa.L
open Go.RowKit Go.Proofs.YthfddndmhjkeiaaW.PrintWords Go.Proofs.YthfddndmhjkeiaaW.PrintLast Go.Proofs.YthfddndmhjkeiaaW.PrintMore
set_option linter.unusedVariables false
set_option linter.unusedSimpArgs false
def StripeRepairsMain (k : Nat) (l0 : List Int) (a1 : ByteArray) (a2 : Int) : Prop :=
  ∃ (n a i : Nat) (p1 p2 p3 key sz : Int) (dg : List Int) (l part : List S41), 1 ≤ a ∧ a ≤ 9 ∧ n ≤ a ∧ a2.tmod ((a : Int) + 1) = (i : Int) ∧ i < l.length ∧ storagebartermake_Code.f l0 0 = some ((n : Int), (a : Int), p1) ∧
    storagebartermake_Deck_Next.f l0 p1 9 = some (key, p2) ∧ stripe_Make.f k n ((a : Int) + 1) a1 key = some ((n : Int), (a : Int) + 1, sz, dg, l, 0) ∧ l.length = a + 1 ∧
    storagebarterlaw13_some.f l0 p2 (without l i) n = some (part, p3) ∧ part.length ≤ 10 ∧
    stripe_Repair.f k n ((a : Int) + 1) sz dg part i = some ((rd_T41 l (i : Int)).f0, (rd_T41 l (i : Int)).f1, 0) ∧ stripe_Right.f k n ((a : Int) + 1) sz dg (rd_T41 l (i : Int)).f0 (rd_T41 l (i : Int)).f1 = some true
def storagebarterlaw13_StripeRepairs.Pure : Prop := ∀ (l0 : List Int) (a1 : ByteArray) (a2 : Int), 0 ≤ a2 → a2 ≤ 255 → l0.length ≤ 500 → a1.size ≤ 500 → ∃ k, StripeRepairsMain k l0 a1 a2
set_option maxHeartbeats 600000 in
set_option maxRecDepth 100000 in
theorem storagebarterlaw13_StripeRepairs.early (A0 : Option Addr) (c0 : Nat) (l0 : List Int) (a1 : ByteArray) (a2 : Int) (w : World)
    (hr0 : Kd.C (Kd.int .i64) w A0 l0.length l0) (hc0 : l0.length ≤ c0) (h20 : 0 ≤ a2) (h2 : a2 ≤ 255) (hno : ¬ (l0.length ≤ 500 ∧ a1.size ≤ 500)) :
    Calls Try.prog 4 #[.slice A0 l0.length c0, .string a1, .int .u8 a2] w fun e w' => e = .returned (.bool true) ∧ Below w.heap.size w w' := by
  have HR0 := Aside0.mk hr0
  have HC0 := Aside0.mk hc0
  clear hr0 hc0
  by_cases hF : l0.length ≤ 500
  · have HF := Aside0.mk (show storagebartermake_Few.f l0 = some true by unfold storagebartermake_Few.f; rw [decide_eq_true (by omega)])
    have d1 : decide ((a1.size : Int) > 500) = true := decide_eq_true (by omega)
    clear hF hno
    go_enter Try.func4, Try.ntmps4
    go_wp2_with fail
    refine (storagebarterlaw13_sane.holds w).mono ?_
    rintro e w1 ⟨rfl, hb1⟩
    have HB1 := Aside0.mk hb1
    clear hb1
    go_wp2_with fail
    refine (storagebartermake_Few.calls _ _ l0 true _ (Kd.C_below HR0.out HB1.out) HC0.out HF.out).mono ?_
    rintro e w2 ⟨rfl, ⟨nd, rfl⟩⟩
    go_wp2_with fail
    go_ret
    exact ⟨rfl, pw_below_drewN HB1.out _⟩
  · have HF := Aside0.mk (show storagebartermake_Few.f l0 = some false by unfold storagebartermake_Few.f; rw [decide_eq_false (by omega)])
    clear hF hno
    go_enter Try.func4, Try.ntmps4
    go_wp2_with fail
    refine (storagebarterlaw13_sane.holds w).mono ?_
    rintro e w1 ⟨rfl, hb1⟩
    have HB1 := Aside0.mk hb1
    clear hb1
    go_wp2_with fail
    refine (storagebartermake_Few.calls _ _ l0 false _ (Kd.C_below HR0.out HB1.out) HC0.out HF.out).mono ?_
    rintro e w2 ⟨rfl, ⟨nd, rfl⟩⟩
    go_wp2_with fail
    go_ret
    exact ⟨rfl, pw_below_drewN HB1.out _⟩
theorem u8_wf {a : Int} (h : (Lit.int .u8 a).wf = true) : 0 ≤ a ∧ a ≤ 255 := by
  simp only [Lit.wf, Bool.and_eq_true, decide_eq_true_eq] at h
  exact ⟨h.1, h.2⟩
theorem storagebarterlaw13_StripeRepairs.walk (P : storagebarterlaw13_StripeRepairs.Pure) (a0 : Option Addr) (len0 cap0 : Nat) (z0 : List Int) (a1 : ByteArray) (a2 : Int) (w : World) (w0 : (a0 = none ∧ len0 = 0 ∧ cap0 = 0 ∧ z0 = []) ∨ ∃ x, a0 = some x ∧ len0 ≤ cap0 ∧ cap0 ≤ maxLen ∧ z0.length = cap0 ∧ (∀ i, i < z0.length → w.cell? (x.add i) = some (.int .i64 (z0.getD i 0))) ∧ ∀ n ∈ z0, (Lit.int .i64 n).wf = true) (y0 : len0 * 8 ≤ 140737488351232) (w1 : a1.size ≤ 140737488351232) (w2 : (Lit.int .u8 a2).wf = true) :
    Calls Try.prog 4 #[.slice a0 len0 cap0, .string a1, .int .u8 a2] w fun e w' => e = .returned (.bool true) ∧ Below w.heap.size w w' := by
  obtain ⟨l0, rfl, hr0, hm0, hw0, hc0⟩ := ReadsInt.ofRowC w0
  obtain ⟨h20, h2⟩ := u8_wf w2
  have hr := Kd.C_of_reads (d := (0 : Int)) (h1 := fun _ => rfl) hr0
  by_cases hno : l0.length ≤ 500 ∧ a1.size ≤ 500
  · obtain ⟨k, n, a, i, p1, p2, p3, key, sz, dg, l, part, h1, h3, h4, h5, h6, h7, h8, h9, h10, h11, h12, h13, h14⟩ := P l0 a1 a2 h20 h2 hno.1 hno.2
    exact storagebarterlaw13_StripeRepairs.main k _ _ l0 a1 a2 n a i p1 p2 p3 key sz dg l part w hr hc0 h20 h2 h1 h3 h4 h5 h6 (by unfold storagebartermake_Few.f; rw [decide_eq_true (by omega)]) hno.2 h7 h8 h9 h10 h11 h12 h13 h14
  · exact storagebarterlaw13_StripeRepairs.early _ _ l0 a1 a2 w hr hc0 h20 h2 hno
#print axioms storagebarterlaw13_StripeRepairs.walk
end Go.Proofs.Ythfddndmhjkeiaa.L
end
section
/- The plain law of the erasure code, part A: the field, bytes, combine, shard. -/
namespace Go.Proofs.Ythfddndmhjkeiaa.L
open Go.RowKit Go.Proofs.YthfddndmhjkeiaaW.PrintWords Go.Proofs.YthfddndmhjkeiaaW.PrintLast Go.Proofs.YthfddndmhjkeiaaW.PrintMore
set_option linter.unusedVariables false
set_option linter.unusedSimpArgs false

/-! ### more rounds -/
theorem upk {α : Type} {g : Nat → Option α} (h : ∀ k, LeO (g k) (g (k + 1))) {k k' : Nat} (hk : k ≤ k') {r : α} (hr : g k = some r) : g k' = some r := by
  have := more_rounds h k (k' - k) r hr
  rwa [Nat.add_sub_cancel' hk] at this

/-! ### the field -/
theorem f_dist : ∀ a b c : Fin 16, gm a.1 (gx b.1 c.1) = gx (gm a.1 b.1) (gm a.1 c.1) ∧ gm (gx b.1 c.1) a.1 = gx (gm b.1 a.1) (gm c.1 a.1) := by decide +kernel
theorem f_assoc : ∀ a b c : Fin 16, gm a.1 (gm b.1 c.1) = gm (gm a.1 b.1) c.1 ∧ gx a.1 (gx b.1 c.1) = gx (gx a.1 b.1) c.1 := by decide +kernel
theorem f_comm : ∀ a b : Fin 16, gx a.1 b.1 = gx b.1 a.1 ∧ gx a.1 0 = a.1 ∧ gx 0 a.1 = a.1 ∧ gm a.1 0 = 0 ∧ gm 0 a.1 = 0 ∧ gm 1 a.1 = a.1 ∧ gm a.1 1 = a.1 := by decide +kernel
theorem gm_gx {a b c : Int} (ha : El a) (hb : El b) (hc : El c) : gm a (gx b c) = gx (gm a b) (gm a c) := by
  obtain ⟨i, rfl⟩ := ha.fin; obtain ⟨j, rfl⟩ := hb.fin; obtain ⟨k, rfl⟩ := hc.fin
  exact (f_dist i j k).1
theorem gx_gm {a b c : Int} (ha : El a) (hb : El b) (hc : El c) : gm (gx b c) a = gx (gm b a) (gm c a) := by
  obtain ⟨i, rfl⟩ := ha.fin; obtain ⟨j, rfl⟩ := hb.fin; obtain ⟨k, rfl⟩ := hc.fin
  exact (f_dist i j k).2
theorem gm_gm {a b c : Int} (ha : El a) (hb : El b) (hc : El c) : gm a (gm b c) = gm (gm a b) c := by
  obtain ⟨i, rfl⟩ := ha.fin; obtain ⟨j, rfl⟩ := hb.fin; obtain ⟨k, rfl⟩ := hc.fin
  exact (f_assoc i j k).1
theorem gx_gx {a b c : Int} (ha : El a) (hb : El b) (hc : El c) : gx a (gx b c) = gx (gx a b) c := by
  obtain ⟨i, rfl⟩ := ha.fin; obtain ⟨j, rfl⟩ := hb.fin; obtain ⟨k, rfl⟩ := hc.fin
  exact (f_assoc i j k).2
theorem gx_comm {a b : Int} (ha : El a) (hb : El b) : gx a b = gx b a := by
  obtain ⟨i, rfl⟩ := ha.fin; obtain ⟨j, rfl⟩ := hb.fin
  exact (f_comm i j).1
theorem gx_0 {a : Int} (ha : El a) : gx a 0 = a ∧ gx 0 a = a ∧ gm a 0 = 0 ∧ gm 0 a = 0 ∧ gm 1 a = a ∧ gm a 1 = a := by
  obtain ⟨i, rfl⟩ := ha.fin
  exact (f_comm i i).2
theorem El0 : El 0 := ⟨by decide, by decide⟩
theorem El1 : El 1 := ⟨by decide, by decide⟩
/-- The sum of n elements. -/
def gsum (n : Nat) (F : Nat → Int) : Int := match n with
  | 0 => 0
  | n + 1 => gx (gsum n F) (F n)
theorem gsum_el {F : Nat → Int} : ∀ n, (∀ j, j < n → El (F j)) → El (gsum n F)
  | 0, _ => El0
  | n + 1, h => gx_el (gsum_el n fun j hj => h j (by omega)) (h n (by omega))
theorem gsum_congr {F G : Nat → Int} : ∀ n, (∀ j, j < n → F j = G j) → gsum n F = gsum n G
  | 0, _ => rfl
  | n + 1, h => by
    show gx _ _ = gx _ _
    rw [gsum_congr n fun j hj => h j (by omega), h n (by omega)]
theorem gsum_zero : ∀ n, gsum n (fun _ => 0) = 0
  | 0 => rfl
  | n + 1 => by
    show gx _ _ = _
    rw [gsum_zero n]
    exact (gx_0 El0).1
theorem gsum_mul {F : Nat → Int} {c : Int} (hc : El c) : ∀ n, (∀ j, j < n → El (F j)) → gm c (gsum n F) = gsum n fun j => gm c (F j)
  | 0, _ => (gx_0 hc).2.2.1
  | n + 1, h => by
    show gm c (gx _ _) = gx _ _
    rw [gm_gx hc (gsum_el n fun j hj => h j (by omega)) (h n (by omega)), gsum_mul hc n fun j hj => h j (by omega)]
theorem gsum_mul' {F : Nat → Int} {c : Int} (hc : El c) : ∀ n, (∀ j, j < n → El (F j)) → gm (gsum n F) c = gsum n fun j => gm (F j) c
  | 0, _ => (gx_0 hc).2.2.2.1
  | n + 1, h => by
    show gm (gx _ _) c = gx _ _
    rw [gx_gm hc (gsum_el n fun j hj => h j (by omega)) (h n (by omega)), gsum_mul' hc n fun j hj => h j (by omega)]
theorem gsum_add {F G : Nat → Int} : ∀ n, (∀ j, j < n → El (F j)) → (∀ j, j < n → El (G j)) → (gsum n fun j => gx (F j) (G j)) = gx (gsum n F) (gsum n G)
  | 0, _, _ => ((gx_0 El0).1).symm
  | n + 1, hF, hG => by
    have e1 := gsum_el n fun j hj => hF j (Nat.lt_succ_of_lt hj)
    have e2 := gsum_el n fun j hj => hG j (Nat.lt_succ_of_lt hj)
    have e3 := hF n (Nat.lt_succ_self n)
    have e4 := hG n (Nat.lt_succ_self n)
    show gx _ (gx _ _) = gx (gx _ _) (gx _ _)
    rw [gsum_add n (fun j hj => hF j (Nat.lt_succ_of_lt hj)) (fun j hj => hG j (Nat.lt_succ_of_lt hj))]
    rw [← gx_gx e1 e2 (gx_el e3 e4), gx_gx e2 e3 e4, gx_comm e2 e3, ← gx_gx e3 e2 e4, gx_gx e1 e3 (gx_el e2 e4)]
theorem gsum_swap {F : Nat → Nat → Int} (m : Nat) : ∀ n, (∀ i j, i < n → j < m → El (F i j)) → (gsum n fun i => gsum m fun j => F i j) = gsum m fun j => gsum n fun i => F i j
  | 0, _ => (gsum_zero m).symm
  | n + 1, h => by
    show gx _ _ = gsum m fun j => gx _ _
    rw [gsum_swap m n fun i j hi hj => h i j (by omega) hj, gsum_add m (fun j hj => gsum_el n fun i hi => h i j (by omega) hj) (fun j hj => h n j (by omega) hj)]
/-- Only one element is not nought. -/
theorem gsum_unit {F : Nat → Int} {i : Nat} : ∀ n, (∀ j, j < n → El (F j)) → (gsum n fun j => gm (if i = j then 1 else 0) (F j)) = if i < n then F i else 0
  | 0, _ => by simp [gsum]
  | n + 1, h => by
    show gx _ (gm (if i = n then 1 else 0) (F n)) = _
    rw [gsum_unit n fun j hj => h j (by omega)]
    have hn := h n (by omega)
    by_cases e : i = n
    · subst e
      rw [if_neg (by omega), if_pos rfl, if_pos (by omega), (gx_0 hn).2.2.2.2.1, (gx_0 hn).2.1]
    · rw [if_neg e, (gx_0 hn).2.2.2.1]
      by_cases hi : i < n
      · rw [if_pos hi, if_pos (by omega), (gx_0 (h i (by omega))).1]
      · rw [if_neg hi, if_neg (by omega), (gx_0 El0).1]
/-- What was made by P and is taken back by Q. -/
theorem back {n : Nat} {Q P : Nat → Nat → Int} {x : Nat → Int} (hQ : ∀ i j, i < n → j < n → El (Q i j)) (hP : ∀ i j, i < n → j < n → El (P i j)) (hx : ∀ j, j < n → El (x j))
    (hI : ∀ i j, i < n → j < n → (gsum n fun l => gm (Q i l) (P l j)) = if i = j then 1 else 0) {i : Nat} (hi : i < n) : (gsum n fun l => gm (Q i l) (gsum n fun j => gm (P l j) (x j))) = x i := by
  have e1 : (gsum n fun l => gm (Q i l) (gsum n fun j => gm (P l j) (x j))) = gsum n fun l => gsum n fun j => gm (gm (Q i l) (P l j)) (x j) := by
    refine gsum_congr n fun l hl => ?_
    rw [gsum_mul (hQ i l hi hl) n fun j hj => gm_el (hP l j hl hj) (hx j hj)]
    exact gsum_congr n fun j hj => gm_gm (hQ i l hi hl) (hP l j hl hj) (hx j hj)
  rw [e1, gsum_swap n n fun l j hl hj => gm_el (gm_el (hQ i l hi hl) (hP l j hl hj)) (hx j hj)]
  have e2 : (gsum n fun j => gsum n fun l => gm (gm (Q i l) (P l j)) (x j)) = gsum n fun j => gm (if i = j then 1 else 0) (x j) := by
    refine gsum_congr n fun j hj => ?_
    rw [← gsum_mul' (hx j hj) n fun l hl => gm_el (hQ i l hi hl) (hP l j hl hj), hI i j hi hj]
  rw [e2, gsum_unit n hx, if_pos hi]

/-! ### bytes -/
def By (b : Int) : Prop := 0 ≤ b ∧ b ≤ 255
theorem By.fin {a : Int} (h : By a) : ∃ i : Fin 256, a = (i.1 : Int) := ⟨⟨a.toNat, by unfold By at h; omega⟩, by unfold By at h; simp; omega⟩
def lo (b : Int) : Int := Go.bits .and .i64 b 15
def hi (b : Int) : Int := Go.bits .and .i64 (b / 16) 15
def x8 (a b : Int) : Int := Go.bits .xor .u8 a b
def pack (l h : Int) : Int := (Go.bits .or .i64 l (wrap64 (h * 16))) % 256
def mulb (c b : Int) : Int := pack (gm c (lo b)) (gm c (hi b))
theorem b_nib : ∀ a : Fin 256, El (lo a.1) ∧ El (hi a.1) ∧ (a.1 : Int) = lo a.1 + 16 * hi a.1 := by
  unfold El
  decide +kernel
theorem b_pack : ∀ a b : Fin 16, By (pack a.1 b.1) ∧ lo (pack a.1 b.1) = a.1 ∧ hi (pack a.1 b.1) = b.1 := by
  unfold By
  decide +kernel
theorem b_nat : ∀ a : Fin 256, lo a.1 = ((a.1 % 16 : Nat) : Int) ∧ hi a.1 = ((a.1 / 16 : Nat) : Int) := by decide +kernel
theorem gx_nat : ∀ a b : Fin 16, gx a.1 b.1 = ((a.1 ^^^ b.1 : Nat) : Int) := by decide +kernel
theorem x8_nat {m n : Nat} (hm : m < 256) (hn : n < 256) : x8 m n = ((m ^^^ n : Nat) : Int) := by
  have hx : m ^^^ n < 256 := Nat.xor_lt_two_pow (n := 8) hm hn
  show IntKind.u8.wrap (((BitVec.ofInt 8 (m : Int) ^^^ BitVec.ofInt 8 (n : Int) : BitVec 8).toNat : Nat) : Int) = _
  rw [BitVec.toNat_xor, BitVec.ofInt_natCast, BitVec.ofInt_natCast, BitVec.toNat_ofNat, BitVec.toNat_ofNat, Nat.mod_eq_of_lt (show m < 2 ^ 8 from hm), Nat.mod_eq_of_lt (show n < 2 ^ 8 from hn)]
  generalize m ^^^ n = q at hx
  rw [IntKind.wrap_u8]
  omega
theorem b_x8 {a b : Int} (ha : By a) (hb : By b) : By (x8 a b) ∧ lo (x8 a b) = gx (lo a) (lo b) ∧ hi (x8 a b) = gx (hi a) (hi b) := by
  obtain ⟨i, rfl⟩ := ha.fin
  obtain ⟨j, rfl⟩ := hb.fin
  have hx : i.1 ^^^ j.1 < 256 := Nat.xor_lt_two_pow (n := 8) i.2 j.2
  rw [x8_nat i.2 j.2]
  have h1 := b_nat ⟨i.1 ^^^ j.1, hx⟩
  have h2 := b_nat i
  have h3 := b_nat j
  simp only at h1
  rw [h1.1, h1.2, h2.1, h2.2, h3.1, h3.2]
  have e1 := gx_nat ⟨i.1 % 16, by omega⟩ ⟨j.1 % 16, by omega⟩
  have e2 := gx_nat ⟨i.1 / 16, by omega⟩ ⟨j.1 / 16, by omega⟩
  simp only at e1 e2
  rw [e1, e2]
  refine ⟨⟨by omega, by omega⟩, ?_, ?_⟩
  · rw [Nat.xor_mod_two_pow (n := 4)]
  · rw [Nat.xor_div_two_pow (n := 4)]
end Go.Proofs.Ythfddndmhjkeiaa.L
end
section
/- The plain law of the erasure code, part I1: every square part of a Cauchy matrix over the field of 16 elements has no kernel. -/
namespace Go.Proofs.Ythfddndmhjkeiaa.L
open Go.RowKit Go.Proofs.YthfddndmhjkeiaaW.PrintWords Go.Proofs.YthfddndmhjkeiaaW.PrintLast Go.Proofs.YthfddndmhjkeiaaW.PrintMore
set_option linter.unusedVariables false
set_option linter.unusedSimpArgs false

/-! ### more of the field -/
theorem f_comm2 : ∀ a b : Fin 16, gm a.1 b.1 = gm b.1 a.1 ∧ gx a.1 a.1 = 0 ∧ (gm a.1 b.1 = 0 → a = 0 ∨ b = 0) ∧ (gx a.1 b.1 = 0 → a = b) := by decide +kernel
theorem f_inv : ∀ a : Fin 16, a ≠ 0 → gm a.1 (ginv a.1) = 1 ∧ ginv a.1 ≠ 0 := by decide +kernel
theorem f_cauchy : ∀ u v t : Fin 16, u ≠ 0 → v ≠ 0 → gx (gm (gx u.1 t.1) (ginv u.1)) (gm (gx v.1 t.1) (ginv v.1)) = gm (gm (gx u.1 v.1) t.1) (gm (ginv u.1) (ginv v.1)) := by decide +kernel
theorem f_shift : ∀ a b c : Fin 16, gx (gx a.1 c.1) (gx b.1 c.1) = gx a.1 b.1 := by decide +kernel
theorem gm_comm {a b : Int} (ha : El a) (hb : El b) : gm a b = gm b a := by
  obtain ⟨i, rfl⟩ := ha.fin; obtain ⟨j, rfl⟩ := hb.fin
  exact (f_comm2 i j).1
theorem gx_self {a : Int} (ha : El a) : gx a a = 0 := by
  obtain ⟨i, rfl⟩ := ha.fin
  exact (f_comm2 i i).2.1
theorem fin_ne {i : Fin 16} (h : (i.1 : Int) ≠ 0) : i ≠ 0 := by
  rintro rfl
  exact h rfl
theorem gm_zero {a b : Int} (ha : El a) (hb : El b) (h : gm a b = 0) : a = 0 ∨ b = 0 := by
  obtain ⟨i, rfl⟩ := ha.fin; obtain ⟨j, rfl⟩ := hb.fin
  rcases (f_comm2 i j).2.2.1 h with rfl | rfl
  · exact .inl rfl
  · exact .inr rfl
theorem gx_zero {a b : Int} (ha : El a) (hb : El b) (h : gx a b = 0) : a = b := by
  obtain ⟨i, rfl⟩ := ha.fin; obtain ⟨j, rfl⟩ := hb.fin
  rw [(f_comm2 i j).2.2.2 h]
theorem gm_ginv {a : Int} (ha : El a) (h : a ≠ 0) : gm a (ginv a) = 1 ∧ ginv a ≠ 0 := by
  obtain ⟨i, rfl⟩ := ha.fin
  exact f_inv i (fin_ne h)
theorem gm_left {a b c : Int} (ha : El a) (hb : El b) (hc : El c) : gm a (gm b c) = gm b (gm a c) := by
  rw [gm_gm ha hb hc, gm_comm ha hb, ← gm_gm hb ha hc]
/-- The one identity that the proof needs. -/
theorem cauchy_id {i a b j : Int} (hi : El i) (ha : El a) (hb : El b) (hj : El j) (h1 : i ≠ j) (h2 : a ≠ j) :
    gx (gm (gx i b) (ginv (gx i j))) (gm (gx a b) (ginv (gx a j))) = gm (gm (gx i a) (gx j b)) (gm (ginv (gx i j)) (ginv (gx a j))) := by
  obtain ⟨u, hu⟩ := (gx_el hi hj).fin
  obtain ⟨v, hv⟩ := (gx_el ha hj).fin
  obtain ⟨t, ht⟩ := (gx_el hj hb).fin
  have hu0 : u ≠ 0 := fin_ne (fun e => h1 (gx_zero hi hj (by rw [hu]; exact e)))
  have hv0 : v ≠ 0 := fin_ne (fun e => h2 (gx_zero ha hj (by rw [hv]; exact e)))
  have h := f_cauchy u v t hu0 hv0
  have s1 : gx i b = gx u.1 t.1 := by
    rw [← hu, ← ht, gx_gx (gx_el hi hj) hj hb, ← gx_gx hi hj hj, gx_self hj, (gx_0 hi).1]
  have s2 : gx a b = gx v.1 t.1 := by
    rw [← hv, ← ht, gx_gx (gx_el ha hj) hj hb, ← gx_gx ha hj hj, gx_self hj, (gx_0 ha).1]
  have s3 : gx i a = gx u.1 v.1 := by
    rw [← hu, ← hv]
    obtain ⟨i', rfl⟩ := hi.fin; obtain ⟨a', rfl⟩ := ha.fin; obtain ⟨j', rfl⟩ := hj.fin
    exact (f_shift i' a' j').symm
  rw [s1, s2, s3, hu, hv, ht]
  exact h
/-- The sum over a list. -/
def lsum {α : Type} (l : List α) (F : α → Int) : Int := match l with
  | [] => 0
  | x :: l => gx (F x) (lsum l F)
theorem lsum_el {α : Type} {F : α → Int} : ∀ l : List α, (∀ j, j ∈ l → El (F j)) → El (lsum l F)
  | [], _ => El0
  | x :: l, h => gx_el (h x (List.mem_cons_self ..)) (lsum_el l fun j hj => h j (List.mem_cons_of_mem _ hj))
theorem lsum_congr {α : Type} {F G : α → Int} : ∀ l : List α, (∀ j, j ∈ l → F j = G j) → lsum l F = lsum l G
  | [], _ => rfl
  | x :: l, h => by
    show gx _ _ = gx _ _
    rw [h x (List.mem_cons_self ..), lsum_congr l fun j hj => h j (List.mem_cons_of_mem _ hj)]
theorem lsum_zero {α : Type} {F : α → Int} : ∀ l : List α, (∀ j, j ∈ l → F j = 0) → lsum l F = 0
  | [], _ => rfl
  | x :: l, h => by
    show gx _ _ = _
    rw [h x (List.mem_cons_self ..), lsum_zero l fun j hj => h j (List.mem_cons_of_mem _ hj)]
    exact (gx_0 El0).1
theorem lsum_mul {α : Type} {F : α → Int} {c : Int} (hc : El c) : ∀ l : List α, (∀ j, j ∈ l → El (F j)) → gm c (lsum l F) = lsum l fun j => gm c (F j)
  | [], _ => (gx_0 hc).2.2.1
  | x :: l, h => by
    have h1 := h x (List.mem_cons_self ..)
    have h2 := fun j hj => h j (List.mem_cons_of_mem x hj)
    show gm c (gx _ _) = gx _ _
    rw [gm_gx hc h1 (lsum_el l h2), lsum_mul hc l h2]
theorem lsum_add {α : Type} {F G : α → Int} : ∀ l : List α, (∀ j, j ∈ l → El (F j)) → (∀ j, j ∈ l → El (G j)) → (lsum l fun j => gx (F j) (G j)) = gx (lsum l F) (lsum l G)
  | [], _, _ => ((gx_0 El0).1).symm
  | x :: l, hF, hG => by
    have f1 := hF x (List.mem_cons_self ..)
    have f2 := fun j hj => hF j (List.mem_cons_of_mem x hj)
    have g1 := hG x (List.mem_cons_self ..)
    have g2 := fun j hj => hG j (List.mem_cons_of_mem x hj)
    have e1 := lsum_el l f2
    have e2 := lsum_el l g2
    show gx (gx _ _) _ = gx (gx _ _) (gx _ _)
    rw [lsum_add l f2 g2, ← gx_gx f1 g1 (gx_el e1 e2), gx_gx g1 e1 e2, gx_comm g1 e1, ← gx_gx e1 g1 e2, gx_gx f1 e1 (gx_el g1 e2)]
theorem lsum_append {α : Type} {F : α → Int} (l' : List α) (h' : ∀ j, j ∈ l' → El (F j)) : ∀ l : List α, (∀ j, j ∈ l → El (F j)) → lsum (l ++ l') F = gx (lsum l F) (lsum l' F)
  | [], _ => ((gx_0 (lsum_el l' h')).2.1).symm
  | x :: l, h => by
    have h1 := h x (List.mem_cons_self ..)
    have h2 := fun j hj => h j (List.mem_cons_of_mem x hj)
    show gx (F x) (lsum (l ++ l') F) = gx (gx _ _) _
    rw [lsum_append l' h' l h2, gx_gx h1 (lsum_el l h2) (lsum_el l' h')]
theorem lsum_filter {α : Type} {F : α → Int} (p : α → Bool) : ∀ l : List α, (∀ j, j ∈ l → El (F j)) → (∀ j, j ∈ l → p j = false → F j = 0) → lsum (l.filter p) F = lsum l F
  | [], _, _ => rfl
  | x :: l, h, hz => by
    have h1 := h x (List.mem_cons_self ..)
    have h2 := fun j hj => h j (List.mem_cons_of_mem x hj)
    have ih := lsum_filter p l h2 fun j hj => hz j (List.mem_cons_of_mem x hj)
    rw [List.filter_cons]
    split
    · show gx _ _ = gx _ _
      rw [ih]
    · rename_i e
      show _ = gx _ _
      rw [ih, hz x (List.mem_cons_self ..) (by simpa using e), (gx_0 (lsum_el l h2)).2.1]
theorem gsum_lsum {F : Nat → Int} : ∀ n, (∀ j, j < n → El (F j)) → gsum n F = lsum (List.range n) F
  | 0, _ => rfl
  | n + 1, h => by
    have h1 : ∀ j, j ∈ List.range n → El (F j) := fun j hj => h j (by have := List.mem_range.1 hj; omega)
    have h2 : ∀ j, j ∈ [n] → El (F j) := fun j hj => by rw [List.mem_singleton.1 hj]; exact h n (by omega)
    rw [List.range_succ, lsum_append [n] h2 _ h1, ← gsum_lsum n fun j hj => h j (by omega)]
    show gx _ _ = gx _ (gx _ _)
    rw [show lsum ([] : List Nat) F = 0 from rfl, (gx_0 (h n (by omega))).1]
/-- One step's term. -/
theorem cauchy_term {x p q c1 c2 ia jb : Int} (hx : El x) (hp : El p) (hq : El q) (h1 : El c1) (h2 : El c2) (hi : El ia) (hj : El jb) (h : gx (gm c1 p) (gm c2 q) = gm (gm ia jb) (gm p q)) :
    gx (gm c1 (gm x p)) (gm c2 (gm x q)) = gm ia (gm (gm x (gm jb q)) p) := by
  rw [gm_left h1 hx hp, gm_left h2 hx hq, ← gm_gx hx (gm_el h1 hp) (gm_el h2 hq), h, ← gm_gm hi hj (gm_el hp hq), gm_left hx hi (gm_el hj (gm_el hp hq)), gm_comm hp hq, gm_gm hj hq hp, gm_gm hx (gm_el hj hq) hp]
/-- A row of elements that all rows of a square part of a Cauchy matrix take to nought is nought. -/
theorem cauchy {al be : Nat → Int} : ∀ (J I : List Nat) (x : Nat → Int), J.Pairwise (fun a b => be a ≠ be b) → I.Pairwise (fun a b => al a ≠ al b) → (∀ j, j ∈ J → El (be j)) → (∀ i, i ∈ I → El (al i)) →
    (∀ i, i ∈ I → ∀ j, j ∈ J → al i ≠ be j) → (∀ j, j ∈ J → El (x j)) → J.length ≤ I.length → (∀ i, i ∈ I → lsum J (fun j => gm (x j) (ginv (gx (al i) (be j)))) = 0) → ∀ j, j ∈ J → x j = 0
  | [], _, _, _, _, _, _, _, _, _, _ => fun j hj => absurd hj (List.not_mem_nil)
  | b :: J, [], _, _, _, _, _, _, _, hl, _ => by simp at hl
  | b :: J, a :: I, x, hJ, hI, eJ, eI, hne, ex, hl, hs => by
    have hJ' := List.pairwise_cons.1 hJ
    have hI' := List.pairwise_cons.1 hI
    have eb := eJ b (List.mem_cons_self ..)
    have ea := eI a (List.mem_cons_self ..)
    have xb := ex b (List.mem_cons_self ..)
    have eJ' := fun j hj => eJ j (List.mem_cons_of_mem b hj)
    have eI' := fun i hi => eI i (List.mem_cons_of_mem a hi)
    have ex' := fun j hj => ex j (List.mem_cons_of_mem b hj)
    have hab := hne a (List.mem_cons_self ..) b (List.mem_cons_self ..)
    have eg : ∀ i, El i → ∀ j, j ∈ J → El (gm (x j) (ginv (gx i (be j)))) := fun i hi j hj => gm_el (ex' j hj) (ginv_el (gx_el hi (eJ' j hj)))
    have one : ∀ i, El (al i) → al i ≠ be b → lsum (b :: J) (fun j => gm (x j) (ginv (gx (al i) (be j)))) = 0 → gm (gx (al i) (be b)) (lsum J (fun j => gm (x j) (ginv (gx (al i) (be j))))) = x b := by
      intro i hi hib h0
      have hn : gx (al i) (be b) ≠ 0 := fun e => hib (gx_zero hi eb e)
      have hgi := gm_ginv (gx_el hi eb) hn
      have h1 : gm (x b) (ginv (gx (al i) (be b))) = lsum J (fun j => gm (x j) (ginv (gx (al i) (be j)))) :=
        gx_zero (gm_el xb (ginv_el (gx_el hi eb))) (lsum_el J (eg _ hi)) h0
      rw [← h1, gm_left (gx_el hi eb) xb (ginv_el (gx_el hi eb)), hgi.1, (gx_0 xb).2.2.2.2.2]
    have hxa := one a ea hab (hs a (List.mem_cons_self ..))
    have key : ∀ j, j ∈ J → gm (x j) (gm (gx (be j) (be b)) (ginv (gx (al a) (be j)))) = 0 := by
      refine cauchy J I _ hJ'.2 hI'.2 eJ' eI' (fun i hi j hj => hne i (List.mem_cons_of_mem a hi) j (List.mem_cons_of_mem b hj)) (fun j hj => gm_el (ex' j hj) (gm_el (gx_el (eJ' j hj) eb) (ginv_el (gx_el ea (eJ' j hj))))) (by simpa using hl) ?_
      intro i hi
      have hei := eI' i hi
      have hxi := one i hei (hne i (List.mem_cons_of_mem a hi) b (List.mem_cons_self ..)) (hs i (List.mem_cons_of_mem a hi))
      have hia : gx (al i) (al a) ≠ 0 := fun e => (hI'.1 i hi) (gx_zero hei ea e).symm
      have e0 : gx (gm (gx (al i) (be b)) (lsum J (fun j => gm (x j) (ginv (gx (al i) (be j)))))) (gm (gx (al a) (be b)) (lsum J (fun j => gm (x j) (ginv (gx (al a) (be j)))))) = 0 := by
        rw [hxi, hxa, gx_self xb]
      rw [lsum_mul (gx_el hei eb) J (eg _ hei), lsum_mul (gx_el ea eb) J (eg _ ea), ← lsum_add J (fun j hj => gm_el (gx_el hei eb) (eg _ hei j hj)) (fun j hj => gm_el (gx_el ea eb) (eg _ ea j hj))] at e0
      have e1 : (lsum J fun j => gx (gm (gx (al i) (be b)) (gm (x j) (ginv (gx (al i) (be j))))) (gm (gx (al a) (be b)) (gm (x j) (ginv (gx (al a) (be j)))))) =
          lsum J fun j => gm (gx (al i) (al a)) (gm (gm (x j) (gm (gx (be j) (be b)) (ginv (gx (al a) (be j))))) (ginv (gx (al i) (be j)))) := by
        refine lsum_congr J fun j hj => ?_
        exact cauchy_term (ex' j hj) (ginv_el (gx_el hei (eJ' j hj))) (ginv_el (gx_el ea (eJ' j hj))) (gx_el hei eb) (gx_el ea eb) (gx_el hei ea) (gx_el (eJ' j hj) eb)
          (cauchy_id hei ea eb (eJ' j hj) (hne i (List.mem_cons_of_mem a hi) j (List.mem_cons_of_mem b hj)) (hne a (List.mem_cons_self ..) j (List.mem_cons_of_mem b hj)))
      have ey : ∀ j, j ∈ J → El (gm (gm (x j) (gm (gx (be j) (be b)) (ginv (gx (al a) (be j))))) (ginv (gx (al i) (be j)))) := fun j hj => gm_el (gm_el (ex' j hj) (gm_el (gx_el (eJ' j hj) eb) (ginv_el (gx_el ea (eJ' j hj))))) (ginv_el (gx_el hei (eJ' j hj)))
      rw [e1, ← lsum_mul (gx_el hei ea) J ey] at e0
      rcases gm_zero (gx_el hei ea) (lsum_el J ey) e0 with h | h
      · exact absurd h hia
      · exact h
    have hz : ∀ j, j ∈ J → x j = 0 := by
      intro j hj
      have haj : gx (al a) (be j) ≠ 0 := fun e => hne a (List.mem_cons_self ..) j (List.mem_cons_of_mem b hj) (gx_zero ea (eJ' j hj) e)
      have hbj : gx (be j) (be b) ≠ 0 := fun e => hJ'.1 j hj (gx_zero (eJ' j hj) eb e).symm
      have eg2 := ginv_el (gx_el ea (eJ' j hj))
      rcases gm_zero (ex' j hj) (gm_el (gx_el (eJ' j hj) eb) eg2) (key j hj) with h | h
      · exact h
      · rcases gm_zero (gx_el (eJ' j hj) eb) eg2 h with h | h
        · exact absurd h hbj
        · exact absurd h (gm_ginv (gx_el ea (eJ' j hj)) haj).2
    intro j hj
    rcases List.mem_cons.1 hj with rfl | hj
    · rw [← hxa, lsum_zero J (fun q hq => by rw [hz q hq]; exact (gx_0 (ginv_el (gx_el ea (eJ' q hq)))).2.2.2.1), (gx_0 (gx_el ea eb)).2.2.1]
    · exact hz j hj
end Go.Proofs.Ythfddndmhjkeiaa.L
end
section
/- The plain law of the erasure code, part I2: the reduced form of a square matrix without a kernel, the unit beside it: the inverse. -/
namespace Go.Proofs.Ythfddndmhjkeiaa.L
open Go.RowKit Go.Proofs.YthfddndmhjkeiaaW.PrintWords Go.Proofs.YthfddndmhjkeiaaW.PrintLast Go.Proofs.YthfddndmhjkeiaaW.PrintMore
set_option linter.unusedVariables false
set_option linter.unusedSimpArgs false

abbrev At (rows : List (List Int)) (i j : Nat) : Int := (row rows i).getD j 0
theorem at_swap {rows : List (List Int)} {a b : Nat} (ha : a < rows.length) (hb : b < rows.length) (i j : Nat) : At (swapR rows a b) i j = if b = i then At rows a j else if a = i then At rows b j else At rows i j := by
  unfold At
  rw [row_swap _ _ _ _ ha hb]
  split
  · rfl
  · split <;> rfl
theorem at_scale {rows : List (List Int)} {r k : Nat} (hr : r < rows.length) (i j : Nat) (hj : j < (row rows r).length) : At (scaleRow rows r k) i j = if r = i then gm (At rows r j) (ginv (At rows r k)) else At rows i j := by
  unfold At scaleRow
  rw [row_set _ _ _ _ hr]
  split
  · rw [mid_getD _ _ _ _ hj, if_pos hj]
  · rfl
theorem at_elim {rows : List (List Int)} {r k : Nat} {i : Nat} (hi : i < rows.length) (j : Nat) (hj : j < (row rows i).length) : At (elimTo rows r k rows.length) i j = if i ≠ r ∧ At rows i k ≠ 0 then gx (At rows i j) (gm (At rows r j) (At rows i k)) else At rows i j := by
  unfold At
  rw [elimTo_row _ _ _ _ _ hi, if_pos hi]
  unfold elimRow
  split
  · rw [mid_getD _ _ _ _ hj, if_pos hj]
  · rfl
/-- A row whose right half says how its left half comes out of P's rows. -/
def Lin (n : Nat) (P : Nat → Nat → Int) (f : Nat → Int) : Prop := ∀ j, j < n → gsum n (fun l => gm (f (n + l)) (P l j)) = f j
/-- A row that takes x to nought. -/
def Ker (n : Nat) (f x : Nat → Int) : Prop := gsum n (fun j => gm (f j) (x j)) = 0
section
variable {n : Nat} {P : Nat → Nat → Int} {f g h x : Nat → Int} {c : Int}
theorem Lin.scale (hP : ∀ i j, i < n → j < n → El (P i j)) (hf : ∀ j, j < 2 * n → El (f j)) (hc : El c) (L : Lin n P f) (e : ∀ j, j < 2 * n → h j = gm (f j) c) : Lin n P h := by
  intro j hj
  rw [e j (by omega), ← L j hj, gsum_mul' hc n fun l hl => gm_el (hf _ (by omega)) (hP l j hl hj)]
  refine gsum_congr n fun l hl => ?_
  rw [e _ (by omega), ← gm_gm (hf _ (by omega)) hc (hP l j hl hj), ← gm_gm (hf _ (by omega)) (hP l j hl hj) hc, gm_comm hc (hP l j hl hj)]
theorem Lin.add (hP : ∀ i j, i < n → j < n → El (P i j)) (hf : ∀ j, j < 2 * n → El (f j)) (hg : ∀ j, j < 2 * n → El (g j)) (hc : El c) (L : Lin n P f) (M : Lin n P g) (e : ∀ j, j < 2 * n → h j = gx (f j) (gm (g j) c)) : Lin n P h := by
  have M2 := M.scale hP hg hc (fun j _ => rfl)
  intro j hj
  have m2 : gsum n (fun l => gm (gm (g (n + l)) c) (P l j)) = gm (g j) c := M2 j hj
  rw [e j (by omega), ← L j hj, ← m2, ← gsum_add n (fun l hl => gm_el (hf _ (by omega)) (hP l j hl hj)) (fun l hl => gm_el (gm_el (hg _ (by omega)) hc) (hP l j hl hj))]
  refine gsum_congr n fun l hl => ?_
  rw [e _ (by omega), gx_gm (hP l j hl hj) (hf _ (by omega)) (gm_el (hg _ (by omega)) hc)]
theorem Ker.unscale (hf : ∀ j, j < n → El (f j)) (hx : ∀ j, j < n → El (x j)) (hc : El c) (h0 : c ≠ 0) (e : ∀ j, j < n → h j = gm (f j) c) (K : Ker n h x) : Ker n f x := by
  have e1 : gsum n (fun j => gm (h j) (x j)) = gm c (gsum n fun j => gm (f j) (x j)) := by
    rw [gsum_mul hc n fun j hj => gm_el (hf j hj) (hx j hj)]
    refine gsum_congr n fun j hj => ?_
    rw [e j hj, gm_comm (hf j hj) hc, gm_gm hc (hf j hj) (hx j hj)]
  unfold Ker at K ⊢
  rw [e1] at K
  rcases gm_zero hc (gsum_el n fun j hj => gm_el (hf j hj) (hx j hj)) K with h | h
  · exact absurd h h0
  · exact h
theorem Ker.sub (hf : ∀ j, j < n → El (f j)) (hg : ∀ j, j < n → El (g j)) (hx : ∀ j, j < n → El (x j)) (hc : El c) (e : ∀ j, j < n → h j = gx (f j) (gm (g j) c)) (K : Ker n h x) (G : Ker n g x) : Ker n f x := by
  have e1 : gsum n (fun j => gm (h j) (x j)) = gx (gsum n fun j => gm (f j) (x j)) (gm c (gsum n fun j => gm (g j) (x j))) := by
    rw [gsum_mul hc n fun j hj => gm_el (hg j hj) (hx j hj), ← gsum_add n (fun j hj => gm_el (hf j hj) (hx j hj)) (fun j hj => gm_el hc (gm_el (hg j hj) (hx j hj)))]
    refine gsum_congr n fun j hj => ?_
    rw [e j hj, gx_gm (hx j hj) (hf j hj) (gm_el (hg j hj) hc), gm_comm (hg j hj) hc, gm_gm hc (hg j hj) (hx j hj)]
  unfold Ker at K G ⊢
  rw [e1, G, (gx_0 hc).2.2.1, (gx_0 (gsum_el n fun j hj => gm_el (hf j hj) (hx j hj))).1] at K
  exact K
end
/-- What holds when the first k columns are done. -/
structure Red (n : Nat) (P : Nat → Nat → Int) (rows : List (List Int)) (k : Nat) : Prop where
  len : rows.length = n
  good : Good (2 * n) rows
  lin : ∀ i, i < n → Lin n P (At rows i)
  ker : ∀ x : Nat → Int, (∀ j, j < n → El (x j)) → (∀ i, i < n → Ker n (At rows i) x) → ∀ i, i < n → Ker n (P i) x
  unit : ∀ i j, i < n → j < k → At rows i j = if i = j then 1 else 0
section
variable {n k : Nat} {P : Nat → Nat → Int} {rows : List (List Int)}
theorem Red.el (R : Red n P rows k) {i j : Nat} (hi : i < n) (hj : j < 2 * n) : El (At rows i j) := R.good.getD (by rw [R.len]; exact hi) hj
theorem Red.rlen (R : Red n P rows k) {i : Nat} (hi : i < n) : (row rows i).length = 2 * n := (R.good i (by rw [R.len]; exact hi)).1
/-- There is a pivot: else x would be taken to nought. -/
theorem Red.pivot (R : Red n P rows k) (hk : k < n) (hN : ∀ x : Nat → Int, (∀ j, j < n → El (x j)) → (∀ i, i < n → Ker n (P i) x) → ∀ j, j < n → x j = 0) : ∃ i, i < n ∧ k ≤ i ∧ At rows i k ≠ 0 ∧ L.pivot rows k k = i := by
  have go : ∀ d i, i + d = n → k ≤ i → (∀ q, k ≤ q → q < i → At rows q k = 0) → L.pivot rows k k = L.pivot rows k i → ∃ i, i < n ∧ k ≤ i ∧ At rows i k ≠ 0 ∧ L.pivot rows k k = i := by
    intro d
    induction d with
    | zero =>
      intro i hi hki hz hp
      exfalso
      have hz2 : ∀ q, k ≤ q → q < n → At rows q k = 0 := fun q h1 h2 => hz q h1 (by omega)
      have hx := hN (fun j => if j = k then 1 else if j < k then At rows j k else 0) (fun j hj => by
        show El (if j = k then 1 else if j < k then At rows j k else 0)
        split
        · exact El1
        · split
          · exact R.el hj (by omega)
          · exact El0) ?_ k hk
      · rw [if_pos rfl] at hx
        exact absurd hx (by decide)
      · refine R.ker _ (fun j hj => by
          show El (if j = k then 1 else if j < k then At rows j k else 0)
          split
          · exact El1
          · split
            · exact R.el hj (by omega)
            · exact El0) ?_
        intro i hi
        unfold Ker
        by_cases hik : i < k
        · have e1 : gsum n (fun j => gm (At rows i j) (if j = k then 1 else if j < k then At rows j k else 0)) = gsum n (fun j => gx (gm (if i = j then 1 else 0) (At rows i k)) (gm (if k = j then 1 else 0) (At rows i k))) := by
            refine gsum_congr n fun j hj => ?_
            have ek := R.el hi (show k < 2 * n by omega)
            have ej := R.el hi (show j < 2 * n by omega)
            by_cases h1 : j = k
            · subst h1
              rw [if_pos rfl, if_neg (by omega), if_pos rfl, (gx_0 ej).2.2.2.2.2, (gx_0 ej).2.2.2.1, (gx_0 ej).2.2.2.2.1, (gx_0 ej).2.1]
            · rw [if_neg h1, if_neg (show ¬ k = j by omega), (gx_0 ek).2.2.2.1]
              by_cases h2 : j < k
              · rw [if_pos h2, R.unit i j hi h2]
                by_cases h3 : i = j
                · subst h3
                  rw [if_pos rfl, (gx_0 ek).2.2.2.2.1, (gx_0 ek).1]
                · rw [if_neg h3, (gx_0 ek).2.2.2.1, (gx_0 (R.el hj (show k < 2 * n by omega))).2.2.2.1, (gx_0 El0).1]
              · rw [if_neg h2, if_neg (by omega), (gx_0 ej).2.2.1, (gx_0 ek).2.2.2.1, (gx_0 El0).1]
          have ek := R.el hi (show k < 2 * n by omega)
          rw [e1, gsum_add n (fun j hj => gm_el (by split <;> first | exact El1 | exact El0) ek) (fun j hj => gm_el (by split <;> first | exact El1 | exact El0) ek), gsum_unit (F := fun _ => At rows i k) n (fun _ _ => ek), gsum_unit (F := fun _ => At rows i k) n (fun _ _ => ek), if_pos hi, if_pos hk, gx_self ek]
        · rw [gsum_congr n (G := fun _ => 0) fun j hj => ?_, gsum_zero]
          have ej := R.el hi (show j < 2 * n by omega)
          show gm (At rows i j) (if j = k then 1 else if j < k then At rows j k else 0) = 0
          by_cases h1 : j = k
          · subst h1
            rw [if_pos rfl, hz2 i (by omega) hi]
            exact (gx_0 El1).2.2.2.1
          · rw [if_neg h1]
            by_cases h2 : j < k
            · rw [if_pos h2, R.unit i j hi h2, if_neg (by omega)]
              exact (gx_0 (R.el hj (show k < 2 * n by omega))).2.2.2.1
            · rw [if_neg h2]
              exact (gx_0 ej).2.2.1
    | succ d ih =>
      intro i hi hki hz hp
      by_cases h : At rows i k = 0
      · exact ih (i + 1) (by omega) (by omega) (fun q h1 h2 => by
          by_cases e : q = i
          · rw [e]; exact h
          · exact hz q h1 (by omega)) (hp.trans (pivot_go (by rw [R.len]; omega) h))
      · exact ⟨i, by omega, hki, h, hp.trans (pivot_stop (by rw [R.len]; omega) h)⟩
  exact go (n - k) k (by omega) (Nat.le_refl _) (fun q h1 h2 => by omega) rfl
theorem Red.step (R : Red n P rows k) (hk : k < n) (hP : ∀ i j, i < n → j < n → El (P i j)) (hN : ∀ x : Nat → Int, (∀ j, j < n → El (x j)) → (∀ i, i < n → Ker n (P i) x) → ∀ j, j < n → x j = 0) :
    (stepP k (rows, k)).2 = k + 1 ∧ Red n P (stepP k (rows, k)).1 (k + 1) := by
  obtain ⟨p, hp, hkp, hz, hpv⟩ := R.pivot hk hN
  have hst : stepP k (rows, k) = (elimTo (scaleRow (swapR rows k p) k k) k k rows.length, k + 1) := by
    unfold stepP
    rw [if_neg (by show ¬ L.pivot rows k k = rows.length; rw [hpv, R.len]; omega)]
    show _ = _
    rw [hpv]
  rw [hst]
  refine ⟨rfl, ?_⟩
  show Red n P (elimTo (scaleRow (swapR rows k p) k k) k k rows.length) (k + 1)
  have hkl : k < rows.length := by rw [R.len]; exact hk
  have hpl : p < rows.length := by rw [R.len]; exact hp
  -- the swap
  have R1 : Red n P (swapR rows k p) k := by
    refine ⟨by rw [swap_length, R.len], R.good.swap hkl hpl, fun i hi => ?_, fun x hx K => R.ker x hx fun i hi => ?_, fun i j hi hj => ?_⟩
    · by_cases e1 : p = i
      · have : ∀ j, At (swapR rows k p) i j = At rows k j := fun j => by rw [at_swap hkl hpl, if_pos e1]
        intro j hj
        simp only [this]
        exact R.lin k hk j hj
      · by_cases e2 : k = i
        · have : ∀ j, At (swapR rows k p) i j = At rows p j := fun j => by rw [at_swap hkl hpl, if_neg e1, if_pos e2]
          intro j hj
          simp only [this]
          exact R.lin p hp j hj
        · have : ∀ j, At (swapR rows k p) i j = At rows i j := fun j => by rw [at_swap hkl hpl, if_neg e1, if_neg e2]
          intro j hj
          simp only [this]
          exact R.lin i hi j hj
    · have get : ∀ a b, a < n → (∀ j, At (swapR rows k p) a j = At rows b j) → Ker n (At rows b) x := fun a b ha h => by
        have := K a ha
        unfold Ker at this ⊢
        simp only [h] at this
        exact this
      by_cases e1 : i = k
      · subst e1
        exact get p i hp fun j => by rw [at_swap hkl hpl, if_pos rfl]
      · by_cases e2 : i = p
        · subst e2
          exact get k i hk fun j => by
            rw [at_swap hkl hpl]
            by_cases e3 : i = k
            · rw [if_pos e3, e3]
            · rw [if_neg e3, if_pos rfl]
        · exact get i i hi fun j => by rw [at_swap hkl hpl, if_neg (fun e => e2 e.symm), if_neg (fun e => e1 e.symm)]
    · rw [at_swap hkl hpl]
      by_cases e1 : p = i
      · rw [if_pos e1, R.unit k j hk hj, if_neg (by omega), if_neg (by omega)]
      · rw [if_neg e1]
        by_cases e2 : k = i
        · rw [if_pos e2, R.unit p j hp hj, if_neg (by omega), if_neg (by omega)]
        · rw [if_neg e2, R.unit i j hi hj]
  have hz1 : At (swapR rows k p) k k ≠ 0 := by
    rw [at_swap hkl hpl]
    by_cases e1 : p = k
    · rw [if_pos e1]; rw [e1] at hz; exact hz
    · rw [if_neg e1, if_pos rfl]; exact hz
  have hlen : rows.length = (swapR rows k p).length := (swap_length rows k p).symm
  rw [hlen]
  generalize swapR rows k p = A at R1 hz1
  clear hst hpv hz hpl hkl R hlen
  -- the scaling
  have hkA : k < A.length := by rw [R1.len]; exact hk
  have hc := ginv_el (R1.el hk (show k < 2 * n by omega))
  have hg := gm_ginv (R1.el hk (show k < 2 * n by omega)) hz1
  have eS : ∀ i j, j < 2 * n → At (scaleRow A k k) i j = if k = i then gm (At A k j) (ginv (At A k k)) else At A i j := fun i j hj => at_scale hkA i j (by rw [R1.rlen hk]; exact hj)
  have R2 : Red n P (scaleRow A k k) k := by
    refine ⟨by rw [scale_length, R1.len], R1.good.scale hkA (by omega), fun i hi => ?_, fun x hx K => R1.ker x hx fun i hi => ?_, fun i j hi hj => ?_⟩
    · by_cases e1 : k = i
      · subst e1
        exact (R1.lin k hk).scale hP (fun j hj => R1.el hk hj) hc fun j hj => by rw [eS k j hj, if_pos rfl]
      · have L := R1.lin i hi
        intro j hj
        rw [eS i j (by omega), if_neg e1, ← L j hj]
        exact gsum_congr n fun l hl => by rw [eS i (n + l) (by omega), if_neg e1]
    · by_cases e1 : k = i
      · subst e1
        exact (K k hk).unscale (fun j hj => R1.el hk (by omega)) hx hc hg.2 fun j hj => by rw [eS k j (by omega), if_pos rfl]
      · have := K i hi
        unfold Ker at this ⊢
        rw [← this]
        exact gsum_congr n fun j hj => by rw [eS i j (by omega), if_neg e1]
    · rw [eS i j (by omega)]
      by_cases e1 : k = i
      · rw [if_pos e1, R1.unit k j hk hj, if_neg (by omega), if_neg (by omega)]
        exact (gx_0 hc).2.2.2.1
      · rw [if_neg e1, R1.unit i j hi hj]
  have h1 : At (scaleRow A k k) k k = 1 := by rw [eS k k (by omega), if_pos rfl, hg.1]
  have hlen : A.length = (scaleRow A k k).length := (scale_length A k k).symm
  rw [hlen]
  generalize scaleRow A k k = B at R2 h1
  clear eS hg hc hkA hz1 R1 hlen
  -- the elimination
  have eE : ∀ i j, i < n → j < 2 * n → At (elimTo B k k B.length) i j = if i ≠ k ∧ At B i k ≠ 0 then gx (At B i j) (gm (At B k j) (At B i k)) else At B i j := fun i j hi hj => at_elim (by rw [R2.len]; exact hi) j (by rw [R2.rlen hi]; exact hj)
  refine ⟨by rw [elimTo_length, R2.len], R2.good.elim (by rw [R2.len]; exact hk) (by omega) _, fun i hi => ?_, fun x hx K => R2.ker x hx fun i hi => ?_, fun i j hi hj => ?_⟩
  · by_cases e1 : i ≠ k ∧ At B i k ≠ 0
    · exact (R2.lin i hi).add hP (fun j hj => R2.el hi hj) (fun j hj => R2.el hk hj) (R2.el hi (show k < 2 * n by omega)) (R2.lin k hk) fun j hj => by rw [eE i j hi hj, if_pos e1]
    · have L := R2.lin i hi
      intro j hj
      rw [eE i j hi (by omega), if_neg e1, ← L j hj]
      exact gsum_congr n fun l hl => by rw [eE i (n + l) hi (by omega), if_neg e1]
  · have Kk : Ker n (At B k) x := by
      have := K k hk
      unfold Ker at this ⊢
      rw [← this]
      exact gsum_congr n fun j hj => by rw [eE k j hk (by omega), if_neg (fun h => h.1 rfl)]
    by_cases e1 : i ≠ k ∧ At B i k ≠ 0
    · exact (K i hi).sub (fun j hj => R2.el hi (by omega)) (fun j hj => R2.el hk (by omega)) hx (R2.el hi (show k < 2 * n by omega)) (fun j hj => by rw [eE i j hi (by omega), if_pos e1]) Kk
    · have := K i hi
      unfold Ker at this ⊢
      rw [← this]
      exact gsum_congr n fun j hj => by rw [eE i j hi (by omega), if_neg e1]
  · rw [eE i j hi (by omega)]
    have eik := R2.el hi (show k < 2 * n by omega)
    by_cases hjk : j = k
    · subst hjk
      by_cases e1 : i = j
      · subst e1
        rw [if_neg (fun h => h.1 rfl), if_pos rfl, h1]
      · rw [if_neg e1]
        by_cases e2 : At B i j = 0
        · rw [if_neg (fun h => h.2 e2), e2]
        · rw [if_pos ⟨e1, e2⟩, h1, (gx_0 eik).2.2.2.2.1, gx_self eik]
    · have hj2 : j < k := by omega
      by_cases e1 : i ≠ k ∧ At B i k ≠ 0
      · rw [if_pos e1, R2.unit k j hk hj2, if_neg (by omega), (gx_0 eik).2.2.2.1, (gx_0 (R2.el hi (by omega))).1, R2.unit i j hi hj2]
      · rw [if_neg e1, R2.unit i j hi hj2]
end
theorem Red.all {n : Nat} {P : Nat → Nat → Int} {rows : List (List Int)} (R : Red n P rows 0) (hP : ∀ i j, i < n → j < n → El (P i j)) (hN : ∀ x : Nat → Int, (∀ j, j < n → El (x j)) → (∀ i, i < n → Ker n (P i) x) → ∀ j, j < n → x j = 0) :
    ∀ k, k ≤ n → (reduceTo rows k).2 = k ∧ Red n P (reduceTo rows k).1 k
  | 0, _ => ⟨rfl, R⟩
  | k + 1, hk => by
    have ih := Red.all R hP hN k (by omega)
    have e : reduceTo rows k = ((reduceTo rows k).1, k) := by
      rw [← ih.1]
      rw [ih.1]
      exact Prod.ext rfl ih.1
    rw [reduceTo_succ, e]
    exact ih.2.step (by omega) hP hN
theorem getD_lt {l : List Int} {i : Nat} (h : i < l.length) : l.getD i 0 ∈ l := by
  rw [List.getD_eq_getElem?_getD, List.getElem?_eq_getElem h]
  exact List.getElem_mem h
theorem tails_getD {rows : List (List Int)} {n : Nat} (hG : Good (2 * n) rows) : ∀ k, k ≤ rows.length → ∀ i l, i < k → l < n → (tails rows n k).getD (i * n + l) 0 = At rows i (n + l)
  | 0, _, i, l, hi, _ => absurd hi (by omega)
  | k + 1, hk, i, l, hi, hl => by
    have hlen := tails_length hG k (by omega)
    rw [tails_succ _ _ _ (by omega)]
    by_cases h : i < k
    · have : (i + 1) * n ≤ k * n := Nat.mul_le_mul_right _ h
      rw [Nat.succ_mul] at this
      rw [List.getD_eq_getElem?_getD, List.getElem?_append_left (by omega), ← List.getD_eq_getElem?_getD]
      exact tails_getD hG k (by omega) i l h hl
    · obtain rfl : i = k := by omega
      rw [List.getD_eq_getElem?_getD, List.getElem?_append_right (by omega), hlen, List.getElem?_drop, ← List.getD_eq_getElem?_getD]
      congr 1
      omega
def invL (n : Nat) (p : List Int) : List Int := tails (invRows p n).1 n n
/-- The inverse of a square matrix without a kernel. -/
theorem inv_of {n : Nat} {p : List Int} (hl : p.length = n * n) (he : ElL p) (hN : ∀ x : Nat → Int, (∀ j, j < n → El (x j)) → (∀ i, i < n → gsum n (fun j => gm (p.getD (i * n + j) 0) (x j)) = 0) → ∀ j, j < n → x j = 0) :
    (invRows p n).2 = n ∧ (invL n p).length = n * n ∧ ElL (invL n p) ∧ ∀ i j, i < n → j < n → (gsum n fun l => gm ((invL n p).getD (i * n + l) 0) (p.getD (l * n + j) 0)) = if i = j then 1 else 0 := by
  have hP : ∀ i j, i < n → j < n → El (p.getD (i * n + j) 0) := fun i j hi hj => he _ (getD_lt (by
    have : (i + 1) * n ≤ n * n := Nat.mul_le_mul_right _ hi
    rw [Nat.succ_mul] at this
    omega))
  have hG := aug_good hl he
  have c1 : ∀ i j, i < n → j < n → At (augTo p n n) i j = p.getD (i * n + j) 0 := fun i j hi hj => by
    unfold At
    rw [augTo_row _ _ _ _ hi, if_pos hi, List.getD_eq_getElem?_getD, List.getElem?_append_left (by rw [cut_length hl hi]; exact hj), ← List.getD_eq_getElem?_getD, cut_getD hi hj]
  have c2 : ∀ i l, i < n → l < n → At (augTo p n n) i (n + l) = if i = l then 1 else 0 := fun i l hi hl2 => by
    unfold At
    rw [augTo_row _ _ _ _ hi, if_pos hi, List.getD_eq_getElem?_getD, List.getElem?_append_right (by rw [cut_length hl hi]; omega), cut_length hl hi, ← List.getD_eq_getElem?_getD, show n + l - n = l by omega, unitRow_getD _ _ _ hl2]
  have R0 : Red n (fun i j => p.getD (i * n + j) 0) (augTo p n n) 0 := by
    refine ⟨augTo_length p n n, hG, fun i hi j hj => ?_, fun x hx K i hi => ?_, fun i j _ hj => absurd hj (by omega)⟩
    · rw [c1 i j hi hj, gsum_congr n (G := fun l => gm (if i = l then 1 else 0) (p.getD (l * n + j) 0)) fun l hl2 => by rw [c2 i l hi hl2], gsum_unit (F := fun l => p.getD (l * n + j) 0) n fun l hl2 => hP l j hl2 hj, if_pos hi]
    · have := K i hi
      unfold Ker at this ⊢
      refine Eq.trans (gsum_congr n fun j hj => ?_) this
      rw [c1 i j hi hj]
  obtain ⟨a1, a2⟩ := R0.all hP hN n (Nat.le_refl _)
  have hlen : (reduceTo (augTo p n n) n).1.length = n := a2.len
  have t1 : (invL n p).length = n * n := tails_length a2.good n (by rw [hlen]; exact Nat.le_refl _)
  have t2 : ∀ i l, i < n → l < n → (invL n p).getD (i * n + l) 0 = At (reduceTo (augTo p n n) n).1 i (n + l) := fun i l hi hl2 => tails_getD a2.good n (by rw [hlen]; exact Nat.le_refl _) i l hi hl2
  refine ⟨a1, t1, ?_, fun i j hi hj => ?_⟩
  · intro x hx
    obtain ⟨q, hq, rfl⟩ := List.getElem_of_mem hx
    have hn : 0 < n := by
      rcases Nat.eq_zero_or_pos n with rfl | h
      · rw [t1] at hq; omega
      · exact h
    have hqi : q / n < n := by rw [t1] at hq; exact (Nat.div_lt_iff_lt_mul hn).2 hq
    have hql := Nat.mod_lt q hn
    have e := t2 _ _ hqi hql
    rw [Nat.div_add_mod' q n, List.getD_eq_getElem?_getD, List.getElem?_eq_getElem hq] at e
    show El (invL n p)[q]
    have e2 : (invL n p)[q] = At (reduceTo (augTo p n n) n).1 (q / n) (n + q % n) := e
    rw [e2]
    exact a2.el hqi (by omega)
  · rw [gsum_congr n (G := fun l => gm (At (reduceTo (augTo p n n) n).1 i (n + l)) (p.getD (l * n + j) 0)) fun l hl2 => by rw [t2 i l hi hl2]]
    have := a2.lin i hi j hj
    rw [a2.unit i j hi hj] at this
    exact this
end Go.Proofs.Ythfddndmhjkeiaa.L
end
