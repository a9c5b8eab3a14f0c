/- Texts of this claim, put together by a small program of the session's own: F15, MSomeA, MSome, MStrA, MNotA, MForA, F8, MReaA, MRea, MReaW, PA, PI1. -/
import Derived.Test.YthfddndmhjkeiaaQ0
import Derived.Test.YthfddndmhjkeiaaQ3
import Derived.Test.YthfddndmhjkeiaaQ5
import Derived.Test.YthfddndmhjkeiaaQ4
import Derived.Deep.Upon
import Derived.Deep.RegionLaw
import Derived.Test.YthfddndmhjkeiaaQ6
import Derived.Deep.SlicePairs
import Derived.SizedLaws
import Derived.Test.YthfddndmhjkeiaaQ2
section
-- Printed for this claim by a small program of the session's own, drv.py, round the kit's print.py. Lean checks it.
namespace Go.Proofs.Ythfddndmhjkeiaa.L
open Go.RowKit Go.Proofs.YthfddndmhjkeiaaW.PrintWords Go.Proofs.YthfddndmhjkeiaaW.PrintLast Go.Proofs.YthfddndmhjkeiaaW.PrintMore
attribute [local go_sem] max2_int min2_int max_two min_two max_three min_three max_four min_four   -- for this text's walks alone
set_option linter.unusedVariables false
set_option linter.unusedSimpArgs false

/-! ### stripe_Right: function 15 -/
def stripe_Right.f (k : Nat) (a0_0 : Int) (a0_1 : Int) (a0_2 : Int) (l0_3 : List Int) (a1_0 : Int) (a1_1 : ByteArray) : Option (Bool) := (stripe_Check.f a0_0 a0_1 a0_2 l0_3).bind fun t223 => (if t223 = 0 then ((stripe_right.f k a0_0 a0_1 a0_2 l0_3 a1_0 a1_1).bind fun t224 => (some t224)) else (some false))
theorem stripe_Right.mono : ∀ a0 a1 a2 a3 a4 a5 k, LeO (stripe_Right.f k a0 a1 a2 a3 a4 a5) (stripe_Right.f (k + 1) a0 a1 a2 a3 a4 a5) := by
  intro a0 a1 a2 a3 a4 a5 k
  unfold stripe_Right.f
  repeat' first | (with_reducible exact stripe_right.mono _ _ _ _ _ _ _) | (with_reducible exact LeO.refl _) | (with_reducible refine LeO.ite ?_ ?_) | (with_reducible refine LeO.bind ?_ (fun _ => ?_))
set_option maxHeartbeats 8000000 in
set_option maxRecDepth 100000 in
theorem stripe_Right.calls (k : Nat) (a0_0 : Int) (a0_1 : Int) (a0_2 : Int) (A0_3 : Option Addr) (c0_3 : Nat) (l0_3 : List Int) (a1_0 : Int) (a1_1 : ByteArray) (r : Bool) (w : World) (hr0_3 : Kd.C (Kd.int .i64) w A0_3 l0_3.length l0_3) (hc0_3 : l0_3.length ≤ c0_3) (h : stripe_Right.f k a0_0 a0_1 a0_2 l0_3 a1_0 a1_1 = some r) :
    Calls Try.prog 15 #[.agg #[.int .i64 a0_0, .int .i64 a0_1, .int .i64 a0_2, .slice A0_3 l0_3.length c0_3], .agg #[.int .i64 a1_0, .string a1_1]] w fun e w' => e = .returned (.bool r) ∧ Below w.heap.size w w' := by
  have hu34 := Try.underlying34
  have hu41 := Try.underlying41
  have HR0_3 := Aside0.mk hr0_3
  have HC0_3 := Aside0.mk hc0_3
  clear hr0_3 hc0_3
  have HB := Aside0.mk (Below.refl w.heap.size w)
  have H : ((stripe_Check.f a0_0 a0_1 a0_2 l0_3).bind fun t223 => (if t223 = 0 then ((stripe_right.f k a0_0 a0_1 a0_2 l0_3 a1_0 a1_1).bind fun t224 => (some t224)) else (some false))) = some r := h
  clear h
  replace H := Option.bind_eq_some_iff.mp H
  obtain ⟨t223, A30, H⟩ := H
  replace H : (if t223 = 0 then ((stripe_right.f k a0_0 a0_1 a0_2 l0_3 a1_0 a1_1).bind fun t224 => (some t224)) else (some false)) = some r := H
  have A3 := Aside0.mk A30
  clear A30
  by_cases c4 : t223 = 0
  · rw [if_pos c4] at H
    have c4b0 : (t223 == 0) = true := beq_iff_eq.mpr c4
    have c4b1 : (t223 != 0) = false := bne_eq_false_iff_eq.mpr c4
    clear c4
    replace H := Option.bind_eq_some_iff.mp H
    obtain ⟨t224, A50, H⟩ := H
    replace H : (some t224) = some r := H
    have A5 := Aside0.mk A50
    clear A50
    obtain rfl := Option.some.inj H
    go_enter Try.func15, Try.ntmps15
    go_wp2_with (first | ((with_reducible refine gate_dst (N := 2) rfl ?_); refine box_event ?hg (N := 2) ?hd (cs := #[.int .i64 a0_0, .int .i64 a0_1, .int .i64 a0_2, .slice A0_3 l0_3.length c0_3]) (t := 34) ?hr ?_; (case hd => rfl); (case hg => rfl); (case hr => (go_simp; done)); intro gb221 hg w6 hbox hb; have n0_ := Aside0.mk (below_step HB.out hb); have n1_ := Aside0.mk (hbox); have n2_ := Aside0.mk ((by rw [hg]; exact (below_size HB.out) : w.heap.size ≤ gb221)); have n3_ := Aside0.mk ((by rw [hg]; exact (below_size HB.out) : w.heap.size ≤ gb221)); clear HB; have HB := n0_; have BK221 := n1_; have GW221 := n2_; have GE221 := n3_; clear n0_ n1_ n2_ n3_; clear hb hbox hg) | ((with_reducible refine gate_dst (N := 3) rfl ?_); refine box_event ?hg (N := 3) ?hd (cs := #[.int .i64 a1_0, .string a1_1]) (t := 41) ?hr ?_; (case hd => rfl); (case hg => rfl); (case hr => (go_simp; done)); intro gb222 hg w7 hbox hb; have n0_ := Aside0.mk (blk_below (g := gb221) (o := .cells #[.int .i64 a0_0, .int .i64 a0_1, .int .i64 a0_2, .slice A0_3 l0_3.length c0_3] 34 (0, 0)) (by exact BK221.out) hb); have n1_ := Aside0.mk (below_step HB.out hb); have n2_ := Aside0.mk (hbox); have n3_ := Aside0.mk ((by rw [hg]; exact (below_size HB.out) : w.heap.size ≤ gb222)); have n4_ := Aside0.mk ((by rw [hg]; exact (below_size HB.out) : w.heap.size ≤ gb222)); have n5_ := Aside0.mk ((by rw [hg]; exact Nat.ne_of_lt (blk_lt (g := gb221) (o := .cells #[.int .i64 a0_0, .int .i64 a0_1, .int .i64 a0_2, .slice A0_3 l0_3.length c0_3] 34 (0, 0)) (by exact BK221.out)) : gb221 ≠ gb222)); have n6_ := Aside0.mk ((by rw [hg]; exact Nat.ne_of_gt (blk_lt (g := gb221) (o := .cells #[.int .i64 a0_0, .int .i64 a0_1, .int .i64 a0_2, .slice A0_3 l0_3.length c0_3] 34 (0, 0)) (by exact BK221.out)) : gb222 ≠ gb221)); clear BK221 HB; have BK221 := n0_; have HB := n1_; have BK222 := n2_; have GW222 := n3_; have GE222 := n4_; have NB221_222 := n5_; have NB222_221 := n6_; clear n0_ n1_ n2_ n3_ n4_ n5_ n6_; clear hb hbox hg; have hnb8 := NB221_222.out; have hnc8 := NB222_221.out; have hcz9_0 : w7.cell? ⟨gb221, 0, none⟩ = some (.int .i64 a0_0) := (blk_cell BK221.out 0).trans rfl; have hcz9_1 : w7.cell? ⟨gb221, 1, none⟩ = some (.int .i64 a0_1) := (blk_cell BK221.out 1).trans rfl; have hcz9_2 : w7.cell? ⟨gb221, 2, none⟩ = some (.int .i64 a0_2) := (blk_cell BK221.out 2).trans rfl; have hcz9_3 : w7.cell? ⟨gb221, 3, none⟩ = some (.slice A0_3 l0_3.length c0_3) := (blk_cell BK221.out 3).trans rfl; have hfz9_0 := blk_frozen BK221.out 0; have hfz9_1 := blk_frozen BK221.out 1; have hfz9_2 := blk_frozen BK221.out 2; have hfz9_3 := blk_frozen BK221.out 3) | ((with_reducible refine gate_callee (f := 18) rfl ?_); refine goesL_ (some 6) rfl rfl Try.func18 (by kernel_rfl) rfl #[.agg #[.int .i64 a0_0, .int .i64 a0_1, .int .i64 a0_2, .slice A0_3 l0_3.length c0_3]] rfl (by ((simp only [List.map_toArray, List.map_cons, List.map_nil])); (rfl)) ?_; (with_reducible refine (stripe_Check.calls a0_0 a0_1 a0_2 _ _ l0_3 t223 _ ?side1 ?side2 A3.out).mono ?_); (case side1 => repeat ((exact (Kd.C_below HR0_3.out HB.out)))); (case side2 => exact HC0_3.out); rintro e w10 ⟨rfl, hb⟩; refine ⟨_, rfl, ?_⟩; have n0_ := Aside0.mk (blk_below (g := gb221) (o := .cells #[.int .i64 a0_0, .int .i64 a0_1, .int .i64 a0_2, .slice A0_3 l0_3.length c0_3] 34 (0, 0)) (by exact BK221.out) hb); have n1_ := Aside0.mk (blk_below (g := gb222) (o := .cells #[.int .i64 a1_0, .string a1_1] 41 (0, 0)) (by exact BK222.out) hb); have n2_ := Aside0.mk (below_step HB.out hb); clear BK221 BK222 HB; have BK221 := n0_; have BK222 := n1_; have HB := n2_; clear n0_ n1_ n2_; clear hb; have hcz11_0 : w10.cell? ⟨gb221, 0, none⟩ = some (.int .i64 a0_0) := (blk_cell BK221.out 0).trans rfl; have hcz11_1 : w10.cell? ⟨gb221, 1, none⟩ = some (.int .i64 a0_1) := (blk_cell BK221.out 1).trans rfl; have hcz11_2 : w10.cell? ⟨gb221, 2, none⟩ = some (.int .i64 a0_2) := (blk_cell BK221.out 2).trans rfl; have hcz11_3 : w10.cell? ⟨gb221, 3, none⟩ = some (.slice A0_3 l0_3.length c0_3) := (blk_cell BK221.out 3).trans rfl; have hfz11_0 := blk_frozen BK221.out 0; have hfz11_1 := blk_frozen BK221.out 1; have hfz11_2 := blk_frozen BK221.out 2; have hfz11_3 := blk_frozen BK221.out 3; have hcz12_0 : w10.cell? ⟨gb222, 0, none⟩ = some (.int .i64 a1_0) := (blk_cell BK222.out 0).trans rfl; have hcz12_1 : w10.cell? ⟨gb222, 1, none⟩ = some (.string a1_1) := (blk_cell BK222.out 1).trans rfl; have hfz12_0 := blk_frozen BK222.out 0; have hfz12_1 := blk_frozen BK222.out 1) | (go_at_call 24; (with_reducible refine (stripe_right.calls k a0_0 a0_1 a0_2 _ _ l0_3 a1_0 a1_1 t224 _ ?side1 ?side2 A5.out).mono ?_); (case side1 => repeat ((exact (Kd.C_below HR0_3.out HB.out)))); (case side2 => exact HC0_3.out); rintro e w13 ⟨rfl, hb⟩; have n0_ := Aside0.mk (blk_below (g := gb221) (o := .cells #[.int .i64 a0_0, .int .i64 a0_1, .int .i64 a0_2, .slice A0_3 l0_3.length c0_3] 34 (0, 0)) (by exact BK221.out) hb); have n1_ := Aside0.mk (blk_below (g := gb222) (o := .cells #[.int .i64 a1_0, .string a1_1] 41 (0, 0)) (by exact BK222.out) hb); have n2_ := Aside0.mk (below_step HB.out hb); clear BK221 BK222 HB; have BK221 := n0_; have BK222 := n1_; have HB := n2_; clear n0_ n1_ n2_; clear hb))
    go_ret
    exact ⟨by (rfl), HB.out⟩
  · rw [if_neg c4] at H
    have c4b0 : (t223 == 0) = false := beq_eq_false_iff_ne.mpr c4
    have c4b1 : (t223 != 0) = true := bne_iff_ne.mpr c4
    obtain rfl := Option.some.inj H
    go_enter Try.func15, Try.ntmps15
    go_wp2_with (first | ((with_reducible refine gate_dst (N := 2) rfl ?_); refine box_event ?hg (N := 2) ?hd (cs := #[.int .i64 a0_0, .int .i64 a0_1, .int .i64 a0_2, .slice A0_3 l0_3.length c0_3]) (t := 34) ?hr ?_; (case hd => rfl); (case hg => rfl); (case hr => (go_simp; done)); intro gb221 hg w14 hbox hb; have n0_ := Aside0.mk (below_step HB.out hb); have n1_ := Aside0.mk (hbox); have n2_ := Aside0.mk ((by rw [hg]; exact (below_size HB.out) : w.heap.size ≤ gb221)); have n3_ := Aside0.mk ((by rw [hg]; exact (below_size HB.out) : w.heap.size ≤ gb221)); clear HB; have HB := n0_; have BK221 := n1_; have GW221 := n2_; have GE221 := n3_; clear n0_ n1_ n2_ n3_; clear hb hbox hg) | ((with_reducible refine gate_dst (N := 3) rfl ?_); refine box_event ?hg (N := 3) ?hd (cs := #[.int .i64 a1_0, .string a1_1]) (t := 41) ?hr ?_; (case hd => rfl); (case hg => rfl); (case hr => (go_simp; done)); intro gb222 hg w15 hbox hb; have n0_ := Aside0.mk (blk_below (g := gb221) (o := .cells #[.int .i64 a0_0, .int .i64 a0_1, .int .i64 a0_2, .slice A0_3 l0_3.length c0_3] 34 (0, 0)) (by exact BK221.out) hb); have n1_ := Aside0.mk (below_step HB.out hb); have n2_ := Aside0.mk (hbox); have n3_ := Aside0.mk ((by rw [hg]; exact (below_size HB.out) : w.heap.size ≤ gb222)); have n4_ := Aside0.mk ((by rw [hg]; exact (below_size HB.out) : w.heap.size ≤ gb222)); have n5_ := Aside0.mk ((by rw [hg]; exact Nat.ne_of_lt (blk_lt (g := gb221) (o := .cells #[.int .i64 a0_0, .int .i64 a0_1, .int .i64 a0_2, .slice A0_3 l0_3.length c0_3] 34 (0, 0)) (by exact BK221.out)) : gb221 ≠ gb222)); have n6_ := Aside0.mk ((by rw [hg]; exact Nat.ne_of_gt (blk_lt (g := gb221) (o := .cells #[.int .i64 a0_0, .int .i64 a0_1, .int .i64 a0_2, .slice A0_3 l0_3.length c0_3] 34 (0, 0)) (by exact BK221.out)) : gb222 ≠ gb221)); clear BK221 HB; have BK221 := n0_; have HB := n1_; have BK222 := n2_; have GW222 := n3_; have GE222 := n4_; have NB221_222 := n5_; have NB222_221 := n6_; clear n0_ n1_ n2_ n3_ n4_ n5_ n6_; clear hb hbox hg; have hnb16 := NB221_222.out; have hnc16 := NB222_221.out; have hcz17_0 : w15.cell? ⟨gb221, 0, none⟩ = some (.int .i64 a0_0) := (blk_cell BK221.out 0).trans rfl; have hcz17_1 : w15.cell? ⟨gb221, 1, none⟩ = some (.int .i64 a0_1) := (blk_cell BK221.out 1).trans rfl; have hcz17_2 : w15.cell? ⟨gb221, 2, none⟩ = some (.int .i64 a0_2) := (blk_cell BK221.out 2).trans rfl; have hcz17_3 : w15.cell? ⟨gb221, 3, none⟩ = some (.slice A0_3 l0_3.length c0_3) := (blk_cell BK221.out 3).trans rfl; have hfz17_0 := blk_frozen BK221.out 0; have hfz17_1 := blk_frozen BK221.out 1; have hfz17_2 := blk_frozen BK221.out 2; have hfz17_3 := blk_frozen BK221.out 3) | ((with_reducible refine gate_callee (f := 18) rfl ?_); refine goesL_ (some 6) rfl rfl Try.func18 (by kernel_rfl) rfl #[.agg #[.int .i64 a0_0, .int .i64 a0_1, .int .i64 a0_2, .slice A0_3 l0_3.length c0_3]] rfl (by ((simp only [List.map_toArray, List.map_cons, List.map_nil])); (rfl)) ?_; (with_reducible refine (stripe_Check.calls a0_0 a0_1 a0_2 _ _ l0_3 t223 _ ?side1 ?side2 A3.out).mono ?_); (case side1 => repeat ((exact (Kd.C_below HR0_3.out HB.out)))); (case side2 => exact HC0_3.out); rintro e w18 ⟨rfl, hb⟩; refine ⟨_, rfl, ?_⟩; have n0_ := Aside0.mk (blk_below (g := gb221) (o := .cells #[.int .i64 a0_0, .int .i64 a0_1, .int .i64 a0_2, .slice A0_3 l0_3.length c0_3] 34 (0, 0)) (by exact BK221.out) hb); have n1_ := Aside0.mk (blk_below (g := gb222) (o := .cells #[.int .i64 a1_0, .string a1_1] 41 (0, 0)) (by exact BK222.out) hb); have n2_ := Aside0.mk (below_step HB.out hb); clear BK221 BK222 HB; have BK221 := n0_; have BK222 := n1_; have HB := n2_; clear n0_ n1_ n2_; clear hb))
    go_ret
    exact ⟨by (rfl), HB.out⟩

end Go.Proofs.Ythfddndmhjkeiaa.L
end
section
/- law07's some: what it returns, and what its append of a cut row gives. -/
namespace Go.Proofs.Ythfddndmhjkeiaa.L
open Go.RowKit Go.Proofs.YthfddndmhjkeiaaW.PrintWords Go.Proofs.YthfddndmhjkeiaaW.PrintLast Go.Proofs.YthfddndmhjkeiaaW.PrintMore
set_option linter.unusedVariables false
set_option linter.unusedSimpArgs false

theorem w64' {x : Int} (h0 : -9223372036854775808 ≤ x) (h1 : x ≤ 9223372036854775807) : wrap64 x = x := IntWalk.wrap64_in _ ⟨h0, h1⟩
theorem w64s {k : Nat} (h : k ≤ 1000000) : wrap64 ((k : Int) + 1) = ((k + 1 : Nat) : Int) := by rw [w64'] <;> omega
theorem i64s {k lo : Nat} (h : k ≤ 1000000) (e : lo = k + 1) : IntKind.i64.wrap ((k : Int) + 1) = (lo : Int) := by rw [e, ← w64s h]; exact i64_w _
theorem i64t {k m c : Nat} (h : k ≤ 1000000) (hm : k + 1 < m) (hc : k + 1 < c) : IntKind.i64.wrap ((k : Int) + 1) = (k : Int) + 1 ∧ (0 : Int) ≤ (k : Int) + 1 ∧ (k : Int) + 1 ≤ (m : Int) ∧ ((c = k + 1) = False) ∧ ((k : Int) + 1).toNat = k + 1 := by
  have h1 := i64s h rfl
  refine ⟨h1.trans rfl, by omega, by omega, eq_false (by omega), by omega⟩
theorem i64u {k m : Nat} (h : k ≤ 1000000) (hm : k + 1 = m) : IntKind.i64.wrap ((k : Int) + 1) = (k : Int) + 1 ∧ (0 : Int) ≤ (k : Int) + 1 ∧ (k : Int) + 1 ≤ (m : Int) ∧ ((k : Int) + 1).toNat = k + 1 := by
  have h1 := i64s h rfl
  exact ⟨h1.trans rfl, by omega, by omega, by omega⟩
theorem len_step {a b n k w : Nat} (h : a + b = n) (hw : w = a - 1) (hk : k < a) : w + (b + 1) = n := by omega
theorem below_of_grown {W W' : World} (hg : W.drew.grownBy W' none) : Below W.heap.size W W' := ⟨hg.os, hg.tape, hg.output, hg.size, fun i hi => hg.block i hi (by simp)⟩
/-- The row without its element i. -/
def without (l : List S41) (i : Nat) : List S41 := l.take i ++ l.drop (i + 1)
def someAt (s0_0 : List Int) (n : Int) : Nat → List S41 → List S41 → Int → Option (List S41 × Int)
  | 0, _, _, _ => none
  | k + 1, rest, out, s => if (out.length : Int) < n ∧ 0 < rest.length then
      ((storagebartermake_Deck_Next.f s0_0 s (rest.length : Int)).bind fun t => if 0 ≤ t.1 ∧ t.1 < (rest.length : Int) then someAt s0_0 n k (without rest t.1.toNat) (out ++ [rd_T41 rest t.1]) t.2 else none)
    else some (out, s)
def storagebarterlaw13_some.f (s0_0 : List Int) (s0_1 : Int) (l : List S41) (n : Int) : Option (List S41 × Int) :=
  if l.length ≤ 1000000 then someAt s0_0 n (l.length + 1) l [] s0_1 else none

theorem without_length {l : List S41} {i : Nat} (h : i < l.length) : (without l i).length = l.length - 1 := by
  unfold without
  rw [List.length_append, List.length_take, List.length_drop]
  omega
def cells37 : List S41 → List Value
  | [] => []
  | x :: l => .int .i64 x.f0 :: .string x.f1 :: cells37 l
theorem cells37_length : ∀ l, (cells37 l).length = l.length * 2
  | [] => rfl
  | x :: l => by simp only [cells37, List.length_cons, cells37_length l]; omega
theorem cells37_one : ∀ l, ∀ u ∈ cells37 l, u.oneCell' = true
  | [], u, h => absurd h (by simp [cells37])
  | x :: l, u, h => by
    simp only [cells37, List.mem_cons] at h
    rcases h with rfl | rfl | h
    · rfl
    · rfl
    · exact cells37_one l u h
theorem cells37_append : ∀ a b, cells37 (a ++ b) = cells37 a ++ cells37 b
  | [], b => rfl
  | x :: a, b => by simp only [cells37, List.cons_append, cells37_append a b]
theorem cells37_get : ∀ (l : List S41) (q : Nat), (cells37 l)[q * 2]? = (l[q]?.map fun x => Value.int .i64 x.f0) ∧ (cells37 l)[q * 2 + 1]? = (l[q]?.map fun x => Value.string x.f1)
  | [], q => by simp [cells37]
  | x :: l, 0 => by simp [cells37]
  | x :: l, q + 1 => by
    have h := cells37_get l q
    have e : (q + 1) * 2 = q * 2 + 1 + 1 := by omega
    rw [e]
    simp only [cells37, List.getElem?_cons_succ]
    exact h
theorem C37_of_cells {W : World} {ad : Addr} {l : List S41} (hl : l.length ≤ 1000000) (h : ∀ j u, (cells37 l)[j]? = some u → W.cell? (ad.add j) = some u) : Kd.C k41 W (some ad) l.length l :=
  ⟨rfl, by omega, fun _ => ⟨ad, rfl, fun j p hj => ⟨[.int .i64 p.f0, .string p.f1], rfl, k41.K_of_M (k41_mkM W 0 (fun _ => True) p), fun i u hu => by
    have hg := cells37_get l j
    rw [hj] at hg
    match i, hu with
    | 0, hu => exact h _ _ (by rw [show j * k41.sz + 0 = j * 2 from rfl, hg.1]; exact hu)
    | 1, hu => exact h _ _ (by rw [show j * k41.sz + 1 = j * 2 + 1 from rfl, hg.2]; exact hu)
    | i + 2, hu => exact absurd hu (by simp)⟩⟩⟩
theorem cells_of_C37 {W : World} {ad : Addr} {n : Nat} {l : List S41} (h : Kd.C k41 W (some ad) n l) : ∀ j u, (cells37 l)[j]? = some u → W.cell? (ad.add j) = some u := by
  intro j u hj
  have hlt := (List.getElem?_eq_some_iff.1 hj).1
  rw [cells37_length] at hlt
  obtain ⟨ad', e, hc⟩ := h.2.2 (by have := h.1; omega)
  cases e
  have hq : j / 2 < l.length := by omega
  have hg := cells37_get l (j / 2)
  rw [List.getElem?_eq_getElem hq] at hg
  obtain ⟨cs, h1, h2, h3⟩ := hc (j / 2) _ (List.getElem?_eq_getElem hq)
  obtain rfl := k41_open h2
  rcases Nat.mod_two_eq_zero_or_one j with hm | hm
  · have e1 : j / 2 * 2 = j := by omega
    rw [e1] at hg
    have := hj.symm.trans hg.1
    injection this with this
    subst this
    have h4 := h3 0 _ rfl
    rwa [show j / 2 * k41.sz + 0 = j from by show j / 2 * 2 + 0 = j; omega] at h4
  · have e1 : j / 2 * 2 + 1 = j := by omega
    rw [e1] at hg
    have := hj.symm.trans hg.2
    injection this with this
    subst this
    have h4 := h3 1 _ rfl
    rwa [show j / 2 * k41.sz + 1 = j from by show j / 2 * 2 + 1 = j; omega] at h4
theorem add_off (g o j : Nat) : (⟨g, o, none⟩ : Addr).add j = ⟨g, o + j, none⟩ := by
  unfold Addr.add
  split <;> simp_all
/-- What an append of all behind element k onto all ahead of it gives. -/
theorem cut_append {W : World} {gr k c : Nat} {rest : List S41} {u : Value} (hk : k < rest.length) (hcap : rest.length ≤ c) (hl : rest.length ≤ 1000000)
    (hC : Kd.C k41 W (some ⟨gr, 0, none⟩) rest.length rest) (hu1 : k + 1 < rest.length → u = .slice (some ⟨gr, (k + 1) * 2, none⟩) (rest.length - (k + 1)) (c - (k + 1))) (hu2 : k + 1 = rest.length → ∃ A' c', u = .slice A' 0 c') :
    ∃ A1 c1 w1, (Builtin.append_ #[23, 23] 23 #[.slice (some ⟨gr, 0, none⟩) k k, u]).run Try.prog W = .ok (.slice A1 (without rest k).length c1) w1 ∧ (without rest k).length ≤ c1 ∧ (0 < (without rest k).length → ∃ gr1, A1 = some ⟨gr1, 0, none⟩ ∧ (gr1 = gr ∨ W.heap.size ≤ gr1)) ∧ Kd.C k41 w1 A1 (without rest k).length (without rest k) ∧ W.grownBy w1 none := by
  obtain ⟨i0, hi, hzz⟩ := Option.map_eq_some_iff.1 info41
  simp only [Prod.mk.injEq] at hzz
  obtain ⟨hz0, hz1, hz2⟩ := hzz
  have hcs := cells_of_C37 hC
  simp only [add_plain] at hcs
  have hsplit : rest = rest.take k ++ rest.drop k := (List.take_append_drop _ _).symm
  have hsplit2 : rest = rest.take (k + 1) ++ rest.drop (k + 1) := (List.take_append_drop _ _).symm
  have hol : (cells37 (rest.take k)).length = k * 2 := by rw [cells37_length, List.length_take]; omega
  have holds : ∀ j u, (cells37 (rest.take k))[j]? = some u → W.cell? ⟨gr, j, none⟩ = some u := by
    intro j u hj
    refine hcs j u ?_
    have hlt := (List.getElem?_eq_some_iff.1 hj).1
    rw [hsplit, cells37_append, List.getElem?_append_left hlt]
    exact hj
  by_cases hlast : k + 1 = rest.length
  · obtain ⟨A', c', rfl⟩ := hu2 hlast
    have hw : without rest k = rest.take k := by
      unfold without
      rw [hlast, List.drop_length, List.append_nil]
    have hwl : (without rest k).length = k := by rw [without_length hk]; omega
    have hrun := run_append_nothing (P := Try.prog) W 23 23 23 41 i0 Try.underlying23 hi (some ⟨gr, 0, none⟩) k k (Nat.le_refl _) (.slice A' 0 c') (by
      cases A' with
      | none => exact Src.ofNil W Try.underlying23 c'
      | some ad => exact Src.ofSlice W Try.underlying23 ad 0 c' [] (by simp) (by intro j u hj; simp at hj) (by intro u hu; cases hu))
    refine ⟨some ⟨gr, 0, none⟩, k, W, by rw [hwl]; exact hrun, by omega, fun _ => ⟨gr, rfl, .inl rfl⟩, ?_, World.grownBy.refl W _⟩
    refine C37_of_cells (by omega) ?_
    intro j u hj
    rw [hw] at hj
    rw [add_plain]
    exact holds j u hj
  · have hlt : k + 1 < rest.length := by omega
    obtain rfl := hu1 hlt
    have hnl : (cells37 (rest.drop (k + 1))).length = (rest.length - (k + 1)) * 2 := by rw [cells37_length, List.length_drop]
    have hsrc : Src Try.prog i0.size 23 (.slice (some ⟨gr, (k + 1) * 2, none⟩) (rest.length - (k + 1)) (c - (k + 1))) (rest.length - (k + 1)) (cells37 (rest.drop (k + 1))) W := by
      rw [hz1]
      refine Src.ofSlice W Try.underlying23 _ _ _ _ hnl ?_ (cells37_one _)
      intro j u hj
      rw [add_off]
      refine hcs _ u ?_
      rw [hsplit2, cells37_append, List.getElem?_append_right (by rw [cells37_length, List.length_take]; omega), cells37_length, List.length_take]
      rw [show (k + 1) * 2 + j - min (k + 1) rest.length * 2 = j by rw [Nat.min_eq_left (Nat.le_of_lt hlt)]; omega]
      exact hj
    have hold : (Builtin.firstCells i0.size k (.slice (some ⟨gr, 0, none⟩) k k)).run Try.prog W.drew = .ok (cells37 (rest.take k)).toArray W.drew := by
      rw [hz1]
      refine run_firstCells_some W.drew 2 k _ _ _ _ hol ?_
      intro j u hj
      rw [add_plain]
      exact holds j u hj
    have hrun := run_append_grow_src (P := Try.prog) W 23 23 23 41 i0 _ Try.underlying23 hi hz0 (some ⟨gr, 0, none⟩) k k _ hold _ _ _ hsrc (by omega) (by omega) (growslice_fits (by omega) (by rw [hz2]; omega))
    have hge := grownCap_ge W (k + (rest.length - (k + 1))) k 41
    have hwl : (without rest k).length = k + (rest.length - (k + 1)) := by rw [without_length hk]; omega
    refine ⟨_, _, _, by rw [hwl]; exact hrun, by rw [hwl]; exact hge, fun _ => ⟨_, rfl, .inr (Nat.le_refl _)⟩, ?_, ?_⟩
    · refine C37_of_cells (by omega) ?_
      intro j u hj
      rw [add_plain]
      refine (World.cell?_alloc_new W.drew _ _ j).trans ?_
      unfold without at hj
      rw [cells37_append] at hj
      have hjl := (List.getElem?_eq_some_iff.1 hj).1
      rw [Array.getElem?_append_left (by rw [List.size_toArray]; exact hjl), List.getElem?_toArray]
      exact hj
    · exact grown_of_below ((Below.refl _ _).trans (below_alloc (below_drew1 (Below.refl _ _)) _)) none
/-- The row that is drawn from: it lies neither in the deck's block nor in the block of what was drawn. -/
def RestOk (g : Nat) (v8 : Value) (W : World) (A : Option Addr) (rest : List S41) : Prop :=
  rest.length ≤ 1000000 ∧ (0 < rest.length → ∃ gr, A = some ⟨gr, 0, none⟩ ∧ gr ≠ g ∧ some gr ≠ v8.ownBlock ∧ gr < W.heap.size) ∧ Kd.C k41 W A rest.length rest
theorem C_empty (W : World) (A : Option Addr) {l : List S41} (h : ¬ 0 < l.length) : Kd.C k41 W A l.length l := ⟨rfl, by omega, fun h' => absurd h' h⟩
theorem C_block {W W' : World} {gr : Nat} {l : List S41} (hl : l.length ≤ 1000000) (h : Kd.C k41 W (some ⟨gr, 0, none⟩) l.length l) (he : W'.heap[gr]? = W.heap[gr]?) : Kd.C k41 W' (some ⟨gr, 0, none⟩) l.length l := by
  refine C37_of_cells hl fun j u hj => ?_
  have h1 := cells_of_C37 h j u hj
  rw [add_plain] at h1 ⊢
  exact (World.cell?_of_block (a := ⟨gr, j, none⟩) he).trans h1
theorem RestOk.keep {g : Nat} {v8 : Value} {W W' : World} {A : Option Addr} {rest : List S41} (h : RestOk g v8 W A rest) (hk : KeepBut W W' g none) : RestOk g v8 W' A rest := by
  obtain ⟨h0, h1, h2⟩ := h
  by_cases hr : 0 < rest.length
  · obtain ⟨gr, rfl, a1, a2, a3⟩ := h1 hr
    exact ⟨h0, fun _ => ⟨gr, rfl, a1, a2, Nat.lt_of_lt_of_le a3 hk.1⟩, C_block h0 h2 (hk.2 gr a3 a1 (by simp))⟩
  · exact ⟨h0, fun h => absurd h hr, C_empty _ _ hr⟩
theorem RestOk.grown {g : Nat} {v8 v1 : Value} {W W' : World} {A : Option Addr} {rest : List S41} (h : RestOk g v8 W A rest) (hg : W.grownBy W' v8.ownBlock) (hat : v1.ownBlock = v8.ownBlock ∨ ∃ b, v1.ownBlock = some b ∧ W.heap.size ≤ b) : RestOk g v1 W' A rest := by
  obtain ⟨h0, h1, h2⟩ := h
  by_cases hr : 0 < rest.length
  · obtain ⟨gr, rfl, a1, a2, a3⟩ := h1 hr
    refine ⟨h0, fun _ => ⟨gr, rfl, a1, ?_, Nat.lt_of_lt_of_le a3 hg.size⟩, C_block h0 h2 (hg.block gr a3 a2)⟩
    rcases hat with e | ⟨b, e, hb⟩
    · rw [e]
      exact a2
    · rw [e]
      intro he
      injection he with he
      omega
  · exact ⟨h0, fun h => absurd h hr, C_empty _ _ hr⟩
theorem R_start {W : World} {base g : Nat} {ok : Nat → Prop} {v : Value} {xs : List S41} (hl : xs.length ≤ 1000000) (h : Kd.R k41 41 W base ok v xs) (hg : g < base) : ∃ A c, v = .slice A xs.length c ∧ xs.length ≤ c ∧ RestOk g (.slice none 0 0) W A xs := by
  obtain ⟨A, c, rfl, hlc, hC⟩ := Kd.R_reads h
  refine ⟨A, c, rfl, hlc, hl, fun hp => ?_, hC⟩
  obtain ⟨gr, cap, e, h1, h2, _⟩ := Kd.R_form h hp
  injection e with e
  exact ⟨gr, e, by omega, by simp [Value.ownBlock], h2⟩
/-- The append of the cut row, seen from the loop. -/
theorem rest_append {W : World} {g k c : Nat} {v8 : Value} {A : Option Addr} {rest : List S41} (hk : k < rest.length) (hcap : rest.length ≤ c) (h : RestOk g v8 W A rest) (hg : g < W.heap.size) (hv : ∀ b, v8.ownBlock = some b → b < W.heap.size) :
    ∃ gr, A = some ⟨gr, 0, none⟩ ∧ ∀ u, (k + 1 < rest.length → u = .slice (some ⟨gr, (k + 1) * 2, none⟩) (rest.length - (k + 1)) (c - (k + 1))) → (k + 1 = rest.length → ∃ A' c', u = .slice A' 0 c') →
      ∃ A1 c1 w1, (Builtin.append_ #[23, 23] 23 #[.slice (some ⟨gr, 0, none⟩) k k, u]).run Try.prog W = .ok (.slice A1 (without rest k).length c1) w1 ∧ (without rest k).length ≤ c1 ∧ RestOk g v8 w1 A1 (without rest k) ∧ W.grownBy w1 none := by
  obtain ⟨h0, h1, h2⟩ := h
  obtain ⟨gr, rfl, a1, a2, a3⟩ := h1 (by omega)
  refine ⟨gr, rfl, fun u hu1 hu2 => ?_⟩
  obtain ⟨A1, c1, w1, b1, b2, b3, b4, b5⟩ := cut_append hk hcap h0 h2 hu1 hu2
  refine ⟨A1, c1, w1, b1, b2, ⟨by rw [without_length hk]; omega, fun hp => ?_, b4⟩, b5⟩
  obtain ⟨gr1, e, hgr⟩ := b3 hp
  subst e
  have hlt : gr1 < w1.heap.size := Kd.C_lt b4 hp (by decide)
  refine ⟨gr1, rfl, ?_, ?_, hlt⟩
  · rcases hgr with rfl | hgr
    · exact a1
    · omega
  · rcases hgr with rfl | hgr
    · exact a2
    · intro e
      have := hv gr1 e.symm
      omega
theorem keep_then {w W W' : World} {g : Nat} (h : KeepBut w W g none) (hb : Below w.heap.size W W') : KeepBut w W' g none :=
  ⟨Nat.le_trans h.1 hb.size, fun i hi h1 h2 => (hb.block i hi).trans (h.2 i hi h1 h2)⟩
section
variable {P : Program} {ops : Array Oper} {Q : Exit → Act → World → Prop} {rest : List Oper} {a : Act} {o : Oper} {W : World}
/-- An append whose run is known. -/
theorem append_run (hgd : o.guard = none) (s x : Operand) (t : TypeId) (ho : o.op = .call { callee := .builtin .append, args := #[s, x], argTypes := #[t, t] }) {v u v1 : Value} {w1 : World} (hs : a.eval s = v) (hx : a.eval x = u)
    (hr : (Builtin.append_ #[t, t] o.type #[v, u]).run P W = .ok v1 w1) (h : wpList P ops Q rest (a.put o.dst v1) w1) : wpList P ops Q (o :: rest) a W := by
  refine wpList_plain hgd fun K hK => ?_
  unfold Oper.wp execOp
  simp only [ho, resolve, invoke, builtin, Sem.run_bind, Sem.run_pure, Result.andThen_ok, List.map_toArray, List.map_cons, List.map_nil, hs, hx, hr]
  exact hK _ _ h
theorem append_run_step {Kc : Act → World → Prop} (hw : Region.wanted o (yielded ops a.tmps) = true) (s x : Operand) (t : TypeId) (ho : o.op = .call { callee := .builtin .append, args := #[s, x], argTypes := #[t, t] }) {v u v1 : Value} {w1 : World} (hs : a.eval s = v) (hx : a.eval x = u)
    (hr : (Builtin.append_ #[t, t] o.type #[v, u]).run P W = .ok v1 w1) (h : Kc (a.put o.dst v1) w1) : if Region.wanted o (yielded ops a.tmps) = true then Oper.wp P o a W Kc Q else Kc (a.put o.dst undef) W := by
  rw [if_pos hw]
  unfold Oper.wp execOp
  simp only [ho, resolve, invoke, builtin, Sem.run_bind, Sem.run_pure, Result.andThen_ok, List.map_toArray, List.map_cons, List.map_nil, hs, hx, hr]
  exact h
end
end Go.Proofs.Ythfddndmhjkeiaa.L
end
section
/- law07's some. -/
namespace Go.Proofs.Ythfddndmhjkeiaa.L
open Go.RowKit Go.Proofs.YthfddndmhjkeiaaW.PrintWords Go.Proofs.YthfddndmhjkeiaaW.PrintLast Go.Proofs.YthfddndmhjkeiaaW.PrintMore
set_option linter.unusedVariables false
set_option linter.unusedSimpArgs false
set_option maxHeartbeats 2000000 in
set_option maxRecDepth 100000 in
theorem storagebarterlaw13_some.calls (g : Nat) (s0_0 : List Int) (s0_1 : Int) (A1 : Option Addr) (c1 : Nat) (l1 : List S41) (a2 : Int) (r1 : List S41) (r2 : Int) (w0 w : World) (hI : IsS52 w0 w g s0_0 s0_1) (hB : Below w0.heap.size w0 w) (hr1 : ∀ W_, KeepBut w W_ g none → Kd.C k41 W_ A1 l1.length l1) (hc1 : l1.length ≤ c1) (h : storagebarterlaw13_some.f s0_0 s0_1 l1 a2 = some (r1, r2)) :
    Calls Try.prog 13 #[.pointer (some ⟨g, 0, none⟩), .slice A1 l1.length c1, .int .i64 a2] w fun e w' => ∃ v0_ : Value, e = .returned v0_ ∧ Kd.R k41 41 w' w.heap.size (fun _ => True) v0_ r1 ∧ IsS52 w0 w' g s0_0 r2 ∧ Below w0.heap.size w0 w' ∧ KeepBut w w' g none := by
  have hl : l1.length ≤ 1000000 := by
    unfold storagebarterlaw13_some.f at h
    split at h
    · assumption
    · cases h
  unfold storagebarterlaw13_some.f at h
  rw [if_pos hl] at h
  have HI := Aside0.mk hI
  have HB := Aside0.mk hB
  have HR1 := Aside0.mk (hr1 w (KeepBut.refl w g none))
  have HC1 := Aside0.mk hc1
  have H := Aside0.mk h
  have HG := Aside0.mk hI.lt
  have HW := Aside0.mk hB.size
  clear hI hB hr1 hc1 h
  go_enter Try.func13, Try.ntmps13
  go_wp2_with (at_builtin; refine Kd.R_append_rows k41 (Rr := k41.K w) (w0 := w) w.heap.size (by rfl) (.const (.slice none 0 0)) (.tmp 10) 23 41 (.agg #[.int .i64 0, .string ⟨#[]⟩]) 24 rfl Try.underlying23 info41 rfl (by decide) (by omega) (.slice none 0 0) [] l1 A1 l1.length c1 (fun _ => True) (fun _ => False) rfl rfl (Kd.R_nil _ _ _ _ _) HR1.out (fun _ _ h => k41_KM h) (fun _ h => h.elim) (fun _ _ => trivial) (Below.refl _ _) (Nat.le_refl _) ?aL ?_)
  case aL => simp only [List.length_nil]; omega
  intro v1 w1 ho hb hg hat
  replace ho : Kd.R k41 41 w1 w.heap.size (fun _ => True) v1 l1 := ho
  obtain ⟨A7, c7, rfl, h7c, h7⟩ := R_start hl ho HG.out
  have HS := Aside0.mk h7
  have HB1 := Aside0.mk hb
  clear ho hb hg hat h7
  go_wp2_with fail
  go_loopg [7, 8] (l1.length + 1) (fun kq v7 v8 wr => ∃ (rest out : List S41) (s : Int) (A : Option Addr) (c : Nat), v7 = .slice A rest.length c ∧ rest.length ≤ c ∧ Aside0 (rest.length + out.length = l1.length) ∧ Aside0 (someAt s0_0 a2 kq rest out s = some (r1, r2)) ∧ Aside0 (Kd.R k41 41 wr w.heap.size (fun _ => True) v8 out) ∧ Aside0 (RestOk g v8 wr A rest) ∧ Aside0 (IsS52 w0 wr g s0_0 s) ∧ Aside0 (Below w0.heap.size w0 wr) ∧ Aside0 (KeepBut w wr g none) ∧ Aside0 (kq ≤ l1.length + 1))
  case atStart => exact ⟨l1, [], s0_1, A7, c7, rfl, h7c, ⟨rfl⟩, H, ⟨Kd.R_nil _ _ _ _ _⟩, HS, ⟨HI.out.below HB1.out⟩, ⟨HB.out.trans (HB1.out.mono HW.out)⟩, ⟨keep_then (KeepBut.refl w g none) HB1.out⟩, ⟨Nat.le_refl _⟩⟩
  case round =>
    obtain ⟨rest, out, s, A, c, rfl, hrc, HL, HA, HO, HS2, HI2, HB2, HK2, HKQ⟩ := hrel
    cases gk with
    | zero => exact absurd HA.out (by simp [someAt])
    | succ k1 =>
      have hA := HA.out
      unfold someAt at hA
      have ho8 := Kd.R_slice HO.out
      obtain ⟨A8, c8, rfl⟩ := ho8
      by_cases hc : (out.length : Int) < a2 ∧ 0 < rest.length
      · rw [if_pos hc] at hA
        replace hA := Option.bind_eq_some_iff.mp hA
        obtain ⟨⟨t1, t2⟩, hD, hA⟩ := hA
        simp only at hA
        split at hA
        case isFalse => cases hA
        rename_i ht
        obtain ⟨kk, rfl⟩ : ∃ kk : Nat, t1 = (kk : Int) := ⟨t1.toNat, by omega⟩
        rw [Int.toNat_natCast] at hA
        have hkk : kk < rest.length := by omega
        have hrl := HS2.out.1
        have hol : out.length ≤ 1000000 := by have := HL.out; omega
        have d1 : decide ((out.length : Int) < a2) = true := decide_eq_true hc.1
        have d2 : decide (0 < (rest.length : Int)) = true := decide_eq_true (by omega)
        have hD' := Aside0.mk hD
        have hA' := Aside0.mk hA
        clear hD hA hc ht HA
        go_wp2_with fail
        refine (storagebartermake_Deck_Next.calls g s0_0 s (rest.length : Int) (kk : Int) t2 w0 _ HI2.out HB2.out hD'.out).mono ?_
        rintro e w5 ⟨rfl, hi5, hb5, hk5⟩
        have HO5 := Aside0.mk (Kd.R_mono (Kd.R_oldK (IsS52.apart HI2.out HO.out (by decide)) hk5) (ok' := fun _ => True) (fun _ _ => trivial))
        have HS5 := Aside0.mk (HS2.out.keep hk5)
        have HI5 := Aside0.mk hi5
        have HB5 := Aside0.mk hb5
        have HK5 := Aside0.mk (HK2.out.trans hk5 (.inl rfl))
        clear hi5 hb5 hk5 HO HS2 HI2 HB2 HK2
        obtain ⟨ad, e, hcell0, hcell1⟩ := at_T41 HS5.out.2.2 (kk : Int) (by omega) (by omega)
        obtain ⟨gr, e2, _, _, _⟩ := HS5.out.2.1 (by omega)
        subst e2
        cases e
        rw [Int.toNat_natCast, add_plain] at hcell0 hcell1
        go_wp2_with (at_builtin; refine Kd.R_append k41 (w0 := w5) w.heap.size rfl (.tmp 25) (.tmp 30) 23 41 (.agg #[(.int .i64 0), (.string ⟨#[]⟩)]) 24 rfl Try.underlying23 info41 rfl (by decide) (by omega) (.slice A8 out.length c8) out (rd_T41 rest (kk : Int)) [.int .i64 (rd_T41 rest (kk : Int)).f0, .string (rd_T41 rest (kk : Int)).f1] (fun _ => True) (fun _ => False) rfl rfl (k41_mkM _ _ _ _) (fun _ h => h.elim) (fun _ _ => trivial) HO5.out (Below.refl _ _) HK5.out.1 (by omega) ?_)
        intro v6 w6 ho6 hb6 hg6 hat6
        go_wp2_with fail
        have HS6 := HS5.out.grown hg6 hat6
        have hg5 : g < w5.heap.size := HI5.out.lt
        obtain ⟨gr', e3, happ⟩ := rest_append (W := w6.drew) hkk hrc ⟨HS6.1, HS6.2.1, Kd.C_drew HS6.2.2⟩ (Nat.lt_of_lt_of_le hg5 hb6.size) (Kd.R_lt ho6)
        cases e3
        have HO6 := Aside0.mk ho6
        have HI6 := Aside0.mk (HI5.out.grown hg6 (IsS52.own_ne HI5.out HO5.out (by decide)))
        have HB6 := Aside0.mk (HB5.out.trans (hb6.mono HW.out))
        have HK6 := Aside0.mk (keep_then HK5.out hb6)
        clear ho6 hg6 hat6 hb6 HS5 HI5 HB5 HK5 HO5 hcell0 hcell1 d1 d2 HS6
        have hwl := without_length hkk
        have HWL := Aside0.mk hwl
        have hkc : kk < c := Nat.lt_of_lt_of_le hkk hrc
        have hkk0 : (kk : Int) ≤ (c : Int) := Int.ofNat_le.2 (Nat.le_of_lt hkc)
        clear hwl
        by_cases hlast : kk + 1 < rest.length
        · obtain ⟨A1', c1', w7, hrun, hle7, HS7, hg7⟩ := happ _ (fun _ => rfl) (fun e => absurd e (Nat.ne_of_lt hlast))
          have hkl : kk + 1 < c := Nat.lt_of_lt_of_le hlast hrc
          clear happ
          obtain ⟨hw1, hw2, hw3, hw4, hw5⟩ := i64t (Nat.le_trans (Nat.le_of_lt hkk) hrl) hlast hkl
          have hp1 : (0 : Int) ≤ (kk : Int) := Int.natCast_nonneg _
          have hp2 : (kk : Int) ≤ (rest.length : Int) := Int.ofNat_le.2 (Nat.le_of_lt hkk)
          clear hkl hrl hol hkc h7c hrc
          go_region_held3 (fun w' => True) (exact trivial) (refine append_run_step rfl (.tmp 35) (.tmp 39) 23 rfl rfl rfl hrun ?_)
          have hb7 := below_of_grown hg7
          go_wp2_with fail
          go_roundg k1
          case measure => exact Nat.lt_succ_self k1
          case rel => exact ⟨without rest kk, out ++ [rd_T41 rest (kk : Int)], t2, A1', c1', rfl, hle7, ⟨by rw [List.length_append, List.length_singleton]; exact len_step HL.out HWL.out hkk⟩, hA', ⟨Kd.R_below HO6.out hb7⟩, ⟨HS7⟩, ⟨HI6.out.below hb7⟩, ⟨HB6.out.trans (hb7.mono (Nat.le_trans HW.out HK6.out.1))⟩, ⟨keep_then HK6.out (hb7.mono HK6.out.1)⟩, ⟨Nat.le_of_succ_le HKQ.out⟩⟩
        · have hlast : kk + 1 = rest.length := Nat.le_antisymm hkk (Nat.le_of_not_lt hlast)
          obtain ⟨hw1, hw2, hw3, hw5⟩ := i64u (Nat.le_trans (Nat.le_of_lt hkk) hrl) hlast
          have hp1 : (0 : Int) ≤ (kk : Int) := Int.natCast_nonneg _
          have hp2 : (kk : Int) ≤ (rest.length : Int) := Int.ofNat_le.2 (Nat.le_of_lt hkk)
          by_cases hcc : c = rest.length
          · obtain ⟨A1', c1', w7, hrun, hle7, HS7, hg7⟩ := happ (.slice (some ⟨gr, 0, none⟩) 0 (c - rest.length)) (fun e => absurd e (by rw [hlast]; exact Nat.lt_irrefl _)) (fun e => ⟨_, _, rfl⟩)
            clear happ
            have hw4 : (c = rest.length) = True := eq_true hcc
            clear hcc hrl hol hkc h7c hrc
            go_region_held3 (fun w' => True) (exact trivial) (refine append_run_step rfl (.tmp 35) (.tmp 39) 23 rfl rfl rfl hrun ?_)
            have hb7 := below_of_grown hg7
            go_wp2_with fail
            go_roundg k1
            case measure => exact Nat.lt_succ_self k1
            case rel => exact ⟨without rest kk, out ++ [rd_T41 rest (kk : Int)], t2, A1', c1', rfl, hle7, ⟨by rw [List.length_append, List.length_singleton]; exact len_step HL.out HWL.out hkk⟩, hA', ⟨Kd.R_below HO6.out hb7⟩, ⟨HS7⟩, ⟨HI6.out.below hb7⟩, ⟨HB6.out.trans (hb7.mono (Nat.le_trans HW.out HK6.out.1))⟩, ⟨keep_then HK6.out (hb7.mono HK6.out.1)⟩, ⟨Nat.le_of_succ_le HKQ.out⟩⟩
          · obtain ⟨A1', c1', w7, hrun, hle7, HS7, hg7⟩ := happ (.slice (some ⟨gr, rest.length * 2, none⟩) 0 (c - rest.length)) (fun e => absurd e (by rw [hlast]; exact Nat.lt_irrefl _)) (fun e => ⟨_, _, rfl⟩)
            clear happ
            have hw4 : (c = rest.length) = False := eq_false hcc
            clear hcc hrl hol hkc h7c hrc
            go_region_held3 (fun w' => True) (exact trivial) (refine append_run_step rfl (.tmp 35) (.tmp 39) 23 rfl rfl rfl hrun ?_)
            have hb7 := below_of_grown hg7
            go_wp2_with fail
            go_roundg k1
            case measure => exact Nat.lt_succ_self k1
            case rel => exact ⟨without rest kk, out ++ [rd_T41 rest (kk : Int)], t2, A1', c1', rfl, hle7, ⟨by rw [List.length_append, List.length_singleton]; exact len_step HL.out HWL.out hkk⟩, hA', ⟨Kd.R_below HO6.out hb7⟩, ⟨HS7⟩, ⟨HI6.out.below hb7⟩, ⟨HB6.out.trans (hb7.mono (Nat.le_trans HW.out HK6.out.1))⟩, ⟨keep_then HK6.out (hb7.mono HK6.out.1)⟩, ⟨Nat.le_of_succ_le HKQ.out⟩⟩
      · rw [if_neg hc] at hA
        injection hA with hA
        injection hA with hA1 hA2
        subst hA1 hA2
        by_cases d1 : (out.length : Int) < a2
        · have hr0 : rest.length = 0 := by omega
          have d1' : decide ((out.length : Int) < a2) = true := decide_eq_true d1
          have d2 : decide (0 < (rest.length : Int)) = false := decide_eq_false (by omega)
          go_wp2_with fail
          go_ret
          exact ⟨_, rfl, HO.out, HI2.out, HB2.out, HK2.out⟩
        · have d1' : decide ((out.length : Int) < a2) = false := decide_eq_false d1
          go_wp2_with fail
          go_ret
          exact ⟨_, rfl, HO.out, HI2.out, HB2.out, HK2.out⟩
#print axioms storagebarterlaw13_some.calls
end Go.Proofs.Ythfddndmhjkeiaa.L
end
section
/- law13's StripeRepairs: what holds at each world of its regions. -/
namespace Go.Proofs.Ythfddndmhjkeiaa.L
open Go.RowKit Go.Proofs.YthfddndmhjkeiaaW.PrintWords Go.Proofs.YthfddndmhjkeiaaW.PrintLast Go.Proofs.YthfddndmhjkeiaaW.PrintMore
set_option linter.unusedVariables false
set_option linter.unusedSimpArgs false
/-- The deck at g, the code at cb. -/
structure Jc (w W : World) (g cb : Nat) (l0 : List Int) (p n a : Int) : Prop where
  hi : IsS52 w W g l0 p
  hb : Below w.heap.size w W
  hc : W.heap[cb]? = some (.cells #[.int .i64 n, .int .i64 a] 30 (0, 0))
  hn : g < cb
section
variable {w W W' : World} {g cb : Nat} {l0 : List Int} {p p' n a : Int}
theorem Jc.alloc (h : Jc w W g cb l0 p n a) (o : Obj) : Jc w (W.alloc o) g cb l0 p n a := ⟨h.hi.alloc o, below_alloc h.hb o, blk_alloc h.hc o, h.hn⟩
theorem Jc.drew (h : Jc w W g cb l0 p n a) : Jc w W.drew g cb l0 p n a := ⟨h.hi.drew, below_drew1 h.hb, blk_drew h.hc, h.hn⟩
theorem Jc.below (h : Jc w W g cb l0 p n a) (hb : Below W.heap.size W W') : Jc w W' g cb l0 p n a := ⟨h.hi.below hb, below_step h.hb hb, blk_below h.hc hb, h.hn⟩
theorem Jc.c0 (h : Jc w W g cb l0 p n a) : W.cell? ⟨cb, 0, none⟩ = some (.int .i64 n) := blk_cell h.hc 0
theorem Jc.c1 (h : Jc w W g cb l0 p n a) : W.cell? ⟨cb, 1, none⟩ = some (.int .i64 a) := blk_cell h.hc 1
theorem Jc.lt (h : Jc w W g cb l0 p n a) : cb < W.heap.size := blk_lt h.hc
/-- A store into a block that is neither. -/
theorem Jc.far (h : Jc w W g cb l0 p n a) {q : Addr} (hq : cb < q.block) (u : Value) : Jc w (W.setCell q u) g cb l0 p n a :=
  ⟨h.hi.far (Nat.ne_of_lt (Nat.lt_trans h.hn hq)) u, h.hb.setCell (Nat.le_trans (IsS52.ge h.hi) (Nat.le_of_lt (Nat.lt_trans h.hn hq))) u, blk_far h.hc (Nat.ne_of_lt hq) u, h.hn⟩
theorem Jc.next {m r : Int} (h : Jc w W g cb l0 p n a) (hf : storagebartermake_Deck_Next.f l0 p m = some (r, p')) :
    Calls Try.prog 14 #[.pointer (some ⟨g, 0, none⟩), .int .i64 m] W fun e w' => e = .returned (.int .i64 r) ∧ Jc w w' g cb l0 p' n a ∧ KeepBut W w' g none :=
  (storagebartermake_Deck_Next.calls g l0 p m r p' w W h.hi h.hb hf).mono fun e w' ⟨e1, e2, e3, e4⟩ => ⟨e1, ⟨e2, e3, (e4.2 cb h.lt (Nat.ne_of_gt h.hn) (by simp)).trans h.hc, h.hn⟩, e4⟩
theorem Jc.make {k : Nat} {t : ByteArray} {key sz : Int} {dg : List Int} {l : List S41} (h : Jc w W g cb l0 p n a) (hf : stripe_Make.f k n a t key = some (n, a, sz, dg, l, 0)) :
    Calls Try.prog 12 #[.agg #[.int .i64 n, .int .i64 a], .string t, .int .i64 key] W fun e w' => ∃ A3 c3 A4 c4, e = .returned (.tuple #[.agg #[.int .i64 n, .int .i64 a, .int .i64 sz, .slice A3 dg.length c3], .slice A4 l.length c4, .int .i64 0]) ∧ Kd.R (Kd.int .i64) 3 w' W.heap.size (fun _ => True) (.slice A3 dg.length c3) dg ∧ Kd.R k41 41 w' W.heap.size (fun _ => True) (.slice A4 l.length c4) l ∧ Jc w w' g cb l0 p n a ∧ Below W.heap.size W w' :=
  (stripe_Make.calls k n a t key n a sz dg l 0 W hf).mono fun e w' ⟨v3, v4, e1, e2, e3, e4⟩ => by
    obtain ⟨A3, c3, rfl⟩ := Kd.R_slice e2
    obtain ⟨A4, c4, rfl⟩ := Kd.R_slice e3
    exact ⟨A3, c3, A4, c4, e1, e2, e3, h.below e4, e4⟩
end
/-- The code at cb, the stripe at sb. -/
structure Jm (W : World) (cb sb : Nat) (n a sz : Int) (A3 : Option Addr) (m3 c3 : Nat) : Prop where
  hc : W.heap[cb]? = some (.cells #[.int .i64 n, .int .i64 a] 30 (0, 0))
  hs : W.heap[sb]? = some (.cells #[.int .i64 n, .int .i64 a, .int .i64 sz, .slice A3 m3 c3] 34 (0, 0))
section
variable {W W' : World} {cb sb g : Nat} {n a sz : Int} {A3 : Option Addr} {m3 c3 : Nat}
theorem Jm.alloc (h : Jm W cb sb n a sz A3 m3 c3) (o : Obj) : Jm (W.alloc o) cb sb n a sz A3 m3 c3 := ⟨blk_alloc h.hc o, blk_alloc h.hs o⟩
theorem Jm.drew (h : Jm W cb sb n a sz A3 m3 c3) : Jm W.drew cb sb n a sz A3 m3 c3 := ⟨blk_drew h.hc, blk_drew h.hs⟩
theorem Jm.below (h : Jm W cb sb n a sz A3 m3 c3) (hb : Below W.heap.size W W') : Jm W' cb sb n a sz A3 m3 c3 := ⟨blk_below h.hc hb, blk_below h.hs hb⟩
theorem Jm.keep (h : Jm W cb sb n a sz A3 m3 c3) (hk : KeepBut W W' g none) (h1 : cb ≠ g) (h2 : sb ≠ g) : Jm W' cb sb n a sz A3 m3 c3 := ⟨hk.blk h.hc h1 (by simp), hk.blk h.hs h2 (by simp)⟩
theorem Jm.far (h : Jm W cb sb n a sz A3 m3 c3) {q : Addr} (h1 : cb ≠ q.block) (h2 : sb ≠ q.block) (u : Value) : Jm (W.setCell q u) cb sb n a sz A3 m3 c3 := ⟨blk_far h.hc h1 u, blk_far h.hs h2 u⟩
theorem Jm.five (h : Jm W cb sb n a sz A3 m3 c3) : W.cell? ⟨cb, 0, none⟩ = some (.int .i64 n) ∧ W.cell? ⟨sb, 0, none⟩ = some (.int .i64 n) ∧ W.cell? ⟨sb, 1, none⟩ = some (.int .i64 a) ∧ W.cell? ⟨sb, 2, none⟩ = some (.int .i64 sz) ∧ W.cell? ⟨sb, 3, none⟩ = some (.slice A3 m3 c3) :=
  ⟨blk_cell h.hc 0, blk_cell h.hs 0, blk_cell h.hs 1, blk_cell h.hs 2, blk_cell h.hs 3⟩
end
theorem R_off {α : Type} {d : Kd α} {e : Nat} {w W : World} {base g : Nat} {ok : Nat → Prop} {v : Value} {xs : List α} (h : d.R e W base ok v xs) (hg : g < base) (hb : w.heap.size ≤ base) : d.R e W w.heap.size (fun k => k ≠ g) v xs :=
  Kd.R_mono (Kd.R_lower (Kd.R_mono (Kd.R_bound h) (fun k hk => show k ≠ g from Nat.ne_of_gt (Nat.lt_of_lt_of_le hg hk.2.1))) hb) (fun _ hk => hk)
theorem R_keep {α : Type} {d : Kd α} {e : Nat} {W W' : World} {base g : Nat} {v : Value} {xs : List α} (h : d.R e W base (fun k => k ≠ g) v xs) (hk : KeepBut W W' g none) : d.R e W' base (fun k => k ≠ g) v xs :=
  Kd.R_step h (fun k ho hl => hk.2 k hl ho (by simp))
/-- All that region 12 needs of its world. -/
structure Js (w W : World) (g cb sb gr : Nat) (l0 : List Int) (p n a sz : Int) (A3 : Option Addr) (c3 c4 : Nat) (dg : List Int) (l : List S41) : Prop where
  jc : Jc w W g cb l0 p n a
  jm : Jm W cb sb n a sz A3 dg.length c3
  rd : Kd.R (Kd.int .i64) 3 W w.heap.size (fun k => k ≠ g) (.slice A3 dg.length c3) dg
  rl : Kd.C k41 W (some ⟨gr, 0, none⟩) l.length l
  lt : gr < W.heap.size
  l4 : l.length ≤ c4
  ll : l.length ≤ 1000000
  sg : sb ≠ g
  gg : gr ≠ g
section
variable {w W W' : World} {g cb sb gr : Nat} {l0 : List Int} {p p' n a sz : Int} {A3 : Option Addr} {c3 c4 : Nat} {dg : List Int} {l : List S41}
theorem Js.alloc (h : Js w W g cb sb gr l0 p n a sz A3 c3 c4 dg l) (o : Obj) : Js w (W.alloc o) g cb sb gr l0 p n a sz A3 c3 c4 dg l := ⟨h.jc.alloc o, h.jm.alloc o, Kd.R_alloc h.rd o, Kd.C_alloc h.rl o, Nat.lt_of_lt_of_le h.lt (by simp), h.l4, h.ll, h.sg, h.gg⟩
theorem Js.drew (h : Js w W g cb sb gr l0 p n a sz A3 c3 c4 dg l) : Js w W.drew g cb sb gr l0 p n a sz A3 c3 c4 dg l := ⟨h.jc.drew, h.jm.drew, Kd.R_drew h.rd, Kd.C_drew h.rl, h.lt, h.l4, h.ll, h.sg, h.gg⟩
theorem Js.below (h : Js w W g cb sb gr l0 p n a sz A3 c3 c4 dg l) (hb : Below W.heap.size W W') : Js w W' g cb sb gr l0 p n a sz A3 c3 c4 dg l := ⟨h.jc.below hb, h.jm.below hb, Kd.R_below h.rd hb, Kd.C_below h.rl hb, Nat.lt_of_lt_of_le h.lt hb.size, h.l4, h.ll, h.sg, h.gg⟩
theorem Js.lc (h : Js w W g cb sb gr l0 p n a sz A3 c3 c4 dg l) : Kd.C k41 W (some ⟨gr, 0, none⟩) l.length l ∧ l.length ≤ c4 := ⟨h.rl, h.l4⟩
theorem Js.dc (h : Js w W g cb sb gr l0 p n a sz A3 c3 c4 dg l) : Kd.C (Kd.int .i64) W A3 dg.length dg ∧ dg.length ≤ c3 := ⟨(Kd.R_reads' h.rd).2.2, (Kd.R_reads' h.rd).2.1⟩
theorem Js.new (h : Js w W g cb sb gr l0 p n a sz A3 c3 c4 dg l) : cb < W.heap.size ∧ sb ≠ W.heap.size ∧ gr ≠ W.heap.size ∧ W.heap.size ≠ g := ⟨h.jc.lt, Nat.ne_of_lt (blk_lt h.jm.hs), Nat.ne_of_lt h.lt, Nat.ne_of_gt (IsS52.lt h.jc.hi)⟩
theorem Js.far {xb j t : Nat} {cs : Array Value} (h : Js w W g cb sb gr l0 p n a sz A3 c3 c4 dg l) (hx : W.heap[xb]? = some (.cells cs t (0, 0))) (ht : t ≠ 3) (hq : cb < xb ∧ sb ≠ xb ∧ gr ≠ xb ∧ xb ≠ g) (u : Value) : Js w (W.setCell ⟨xb, j, none⟩ u) g cb sb gr l0 p n a sz A3 c3 c4 dg l :=
  ⟨h.jc.far hq.1 u, h.jm.far (Nat.ne_of_lt hq.1) hq.2.1 u, Kd.R_mono (Kd.R_far (p := ⟨xb, j, none⟩) (Kd.R_types h.rd hx (fun q hq => by
    rcases List.mem_cons.1 hq with e | e
    · rw [e]; exact fun e => ht e.symm
    · exact absurd (show q ∈ ([] : List Nat) from e) List.not_mem_nil)) (fun _ hk => hk.2) u) (fun _ hk => hk.1), C_block h.ll h.rl (Below.heap_setCell W ⟨xb, j, none⟩ u gr hq.2.2.1), Nat.lt_of_lt_of_le h.lt (by simp), h.l4, h.ll, h.sg, h.gg⟩
/-- .. and a row that the deck's callee may read. -/
def Jt (w W : World) (g cb sb gr : Nat) (l0 : List Int) (p n a sz : Int) (A3 : Option Addr) (c3 c4 : Nat) (dg : List Int) (l : List S41) (A1 : Option Addr) (m : List S41) : Prop :=
  Js w W g cb sb gr l0 p n a sz A3 c3 c4 dg l ∧ ∀ W_, KeepBut W W_ g none → Kd.C k41 W_ A1 m.length m
theorem Jt.alloc {A1 : Option Addr} {m : List S41} (h : Jt w W g cb sb gr l0 p n a sz A3 c3 c4 dg l A1 m) (o : Obj) : Jt w (W.alloc o) g cb sb gr l0 p n a sz A3 c3 c4 dg l A1 m :=
  ⟨h.1.alloc o, fun W_ hk => h.2 W_ (KeepBut.trans (KeepBut.of_below (below_alloc (Below.refl _ _) o) g none) hk (.inl rfl))⟩
theorem Js.cut {i : Nat} {u : Value} (h : Js w W g cb sb gr l0 p n a sz A3 c3 c4 dg l) (hi : i < l.length) (hu1 : i + 1 < l.length → u = .slice (some ⟨gr, (i + 1) * 2, none⟩) (l.length - (i + 1)) (c4 - (i + 1))) (hu2 : i + 1 = l.length → ∃ A' c', u = .slice A' 0 c') :
    ∃ A1 c1 w1, (Builtin.append_ #[23, 23] 23 #[.slice (some ⟨gr, 0, none⟩) i i, u]).run Try.prog W = .ok (.slice A1 (without l i).length c1) w1 ∧ (without l i).length ≤ c1 ∧ Below W.heap.size W w1 ∧ Jt w w1 g cb sb gr l0 p n a sz A3 c3 c4 dg l A1 (without l i) := by
  obtain ⟨A1, c1, w1, hrun, hle, hA, hC, hg⟩ := cut_append (W := W) hi h.l4 h.ll h.rl hu1 hu2
  have hb : Below W.heap.size W w1 := ⟨hg.os, hg.tape, hg.output, hg.size, fun i hi => hg.block i hi (by simp)⟩
  refine ⟨A1, c1, w1, hrun, hle, hb, h.below hb, fun W_ hk => ?_⟩
  by_cases hp : 0 < (without l i).length
  · obtain ⟨gr1, e, hgr⟩ := hA hp
    subst e
    have hlt := Kd.C_lt hC hp (by decide)
    refine C_block (by have := h.ll; rw [without_length hi]; omega) hC (hk.2 gr1 hlt ?_ (by simp))
    rcases hgr with rfl | hgr
    · exact h.gg
    · exact Nat.ne_of_gt (Nat.lt_of_lt_of_le (IsS52.lt h.jc.hi) hgr)
  · exact C_empty _ _ hp
/-- .. and a row that is drawn. -/
def Ju (w W : World) (g cb sb gr : Nat) (l0 : List Int) (p n a sz : Int) (A3 : Option Addr) (c3 c4 : Nat) (dg : List Int) (l : List S41) (A2 : Option Addr) (m : List S41) : Prop :=
  Js w W g cb sb gr l0 p n a sz A3 c3 c4 dg l ∧ Kd.C k41 W A2 m.length m
theorem Ju.alloc {A1 : Option Addr} {m : List S41} (h : Ju w W g cb sb gr l0 p n a sz A3 c3 c4 dg l A1 m) (o : Obj) : Ju w (W.alloc o) g cb sb gr l0 p n a sz A3 c3 c4 dg l A1 m :=
  ⟨h.1.alloc o, Kd.C_alloc h.2 o⟩
theorem Jt.some {A1 : Option Addr} {c1 : Nat} {m part : List S41} {q : Int} (h : Jt w W g cb sb gr l0 p n a sz A3 c3 c4 dg l A1 m) (hle : m.length ≤ c1) (hf : storagebarterlaw13_some.f l0 p m q = some (part, p')) :
    Calls Try.prog 13 #[.pointer (some ⟨g, 0, none⟩), .slice A1 m.length c1, .int .i64 q] W fun e w' => ∃ A2 c2, e = .returned (.slice A2 part.length c2) ∧ part.length ≤ c2 ∧ KeepBut W w' g none ∧ Ju w w' g cb sb gr l0 p' n a sz A3 c3 c4 dg l A2 part :=
  (storagebarterlaw13_some.calls g l0 p A1 c1 m q part p' w W h.1.jc.hi h.1.jc.hb h.2 hle hf).mono fun e w' ⟨v0, e1, e2, e3, e4, e5⟩ => by
    obtain ⟨A2, c2, rfl⟩ := Kd.R_slice e2
    have hr := Kd.R_reads' e2
    have hcg : cb ≠ g := Nat.ne_of_gt h.1.jc.hn
    exact ⟨A2, c2, e1, hr.2.1, e5, ⟨⟨e3, e4, e5.blk h.1.jc.hc hcg (by simp), h.1.jc.hn⟩, h.1.jm.keep e5 hcg h.1.sg, R_keep h.1.rd e5, C_block h.1.ll h.1.rl (e5.2 gr h.1.lt h.1.gg (by simp)), Nat.lt_of_lt_of_le h.1.lt e5.1, h.1.l4, h.1.ll, h.1.sg, h.1.gg⟩, hr.2.2⟩
theorem Ju.repair {A2 : Option Addr} {c2 k : Nat} {m : List S41} {q x0 : Int} {x1 : ByteArray} (h : Ju w W g cb sb gr l0 p n a sz A3 c3 c4 dg l A2 m) (hle : m.length ≤ c2) (hf : stripe_Repair.f k n a sz dg m q = some (x0, x1, 0)) :
    Calls Try.prog 17 #[.agg #[.int .i64 n, .int .i64 a, .int .i64 sz, .slice A3 dg.length c3], .slice A2 m.length c2, .int .i64 q] W fun e w' => e = .returned (.tuple #[.agg #[.int .i64 x0, .string x1], .int .i64 0]) ∧ Below W.heap.size W w' ∧ Js w w' g cb sb gr l0 p n a sz A3 c3 c4 dg l :=
  (stripe_Repair.calls k n a sz A3 c3 dg A2 c2 m q x0 x1 0 W h.1.dc.1 h.1.dc.2 h.2 hle hf).mono fun e w' ⟨e1, e2⟩ => ⟨e1, e2, h.1.below e2⟩
end
/-- The world at hand is W, as it is spelled. -/
theorem at_world (W : World) {P : Program} {o : Oper} {a : Act} {Kc : Act → World → Prop} {Q : Exit → Act → World → Prop} {c : Bool} (h : if c = true then Oper.wp P o a W Kc Q else Kc (a.put o.dst undef) W) : if c = true then Oper.wp P o a W Kc Q else Kc (a.put o.dst undef) W := h
end Go.Proofs.Ythfddndmhjkeiaa.L
end
section
/- A shard's data stored anew in a row of shards. -/
namespace Go.Proofs.Ythfddndmhjkeiaa.L
open Go.RowKit Go.Proofs.YthfddndmhjkeiaaW.PrintWords Go.Proofs.YthfddndmhjkeiaaW.PrintLast Go.Proofs.YthfddndmhjkeiaaW.PrintMore
set_option linter.unusedVariables false
set_option linter.unusedSimpArgs false
/-- The row with the data of element k put anew. -/
def setData (l : List S41) (k : Nat) (s : ByteArray) : List S41 := l.set k ⟨(rd_T41 l (k : Int)).f0, s⟩
theorem setData_length (l : List S41) (k : Nat) (s : ByteArray) : (setData l k s).length = l.length := List.length_set ..
theorem rd_T41_get {l : List S41} {k : Nat} (h : k < l.length) : rd_T41 l (k : Int) = l[k] := by
  unfold rd_T41
  rw [Int.toNat_natCast, List.getD_eq_getElem?_getD, List.getElem?_eq_getElem h]
  rfl
theorem setData_get {l : List S41} {k j : Nat} {s : ByteArray} (hk : k < l.length) (hj : j < l.length) : rd_T41 (setData l k s) (j : Int) = if k = j then ⟨(rd_T41 l (k : Int)).f0, s⟩ else rd_T41 l (j : Int) := by
  rw [rd_T41_get (by rw [setData_length]; exact hj), rd_T41_get hj]
  unfold setData
  rw [List.getElem_set]
theorem C37_set {W : World} {g n k : Nat} {l : List S41} {t : TypeId} {cur : Array Value} {s : ByteArray} (hb : W.heap[g]? = some (.cells cur t (0, 0))) (h : Kd.C k41 W (some ⟨g, 0, none⟩) n l) (hl : l.length ≤ 1000000) (hk : k < l.length) :
    Kd.C k41 (W.setCell ⟨g, k * 2 + 1, none⟩ (.string s)) (some ⟨g, 0, none⟩) (setData l k s).length (setData l k s) := by
  have hc := cells_of_C37 h
  simp only [add_plain] at hc
  refine C37_of_cells (by rw [setData_length]; exact hl) fun j u hj => ?_
  rw [add_plain]
  have hq := cells37_get (setData l k s) (j / 2)
  have hq2 := cells37_get l (j / 2)
  have hjl := (List.getElem?_eq_some_iff.1 hj).1
  rw [cells37_length, setData_length] at hjl
  have hj2 : j / 2 < l.length := by omega
  have hset := blk_set hb (k * 2 + 1) (.string s)
  have hcur : ∀ j u, (cells37 l)[j]? = some u → cur[j]? = some u := fun j u h' => by
    have := hc j u h'
    rwa [blk_cell hb] at this
  rw [blk_cell hset]
  have hks : k * 2 + 1 < cur.size := by
    have h1 := (cells37_get l k).2
    rw [List.getElem?_eq_getElem hk] at h1
    have h2 := hcur _ _ h1
    exact (Array.getElem?_eq_some_iff.1 h2).1
  by_cases e : k * 2 + 1 = j
  · subst e
    rw [Array.getElem?_setIfInBounds_self_of_lt hks]
    have hd : (k * 2 + 1) / 2 = k := by omega
    rw [hd] at hq
    have h2 := hq.2
    rw [hj] at h2
    unfold setData at h2
    rw [List.getElem?_set_self hk] at h2
    exact h2.symm
  · rw [Array.getElem?_setIfInBounds_ne e]
    refine hcur j u ?_
    rw [← hj]
    rcases Nat.mod_two_eq_zero_or_one j with hm | hm
    · have e1 : j / 2 * 2 = j := by omega
      rw [e1] at hq hq2
      rw [hq.1, hq2.1]
      unfold setData
      by_cases ek : k = j / 2
      · rw [← ek, List.getElem?_set_self hk, List.getElem?_eq_getElem hk, ← rd_T41_get hk]
        rfl
      · rw [List.getElem?_set_ne ek]
    · have e1 : j / 2 * 2 + 1 = j := by omega
      rw [e1] at hq hq2
      rw [hq.2, hq2.2]
      unfold setData
      rw [List.getElem?_set_ne (by omega)]
end Go.Proofs.Ythfddndmhjkeiaa.L
end
section
/- law13's StripeForged: what holds at each world of its rounds. -/
namespace Go.Proofs.Ythfddndmhjkeiaa.L
open Go.RowKit Go.Proofs.YthfddndmhjkeiaaW.PrintWords Go.Proofs.YthfddndmhjkeiaaW.PrintLast Go.Proofs.YthfddndmhjkeiaaW.PrintMore
set_option linter.unusedVariables false
set_option linter.unusedSimpArgs false
/-- The deck, the code, the stripe with its digests, and the row of shards at gm. Blocks from B on are younger than the stripe. -/
structure Jf (w W : World) (B g cb sb gm : Nat) (l0 : List Int) (p n a sz : Int) (A3 : Option Addr) (c3 : Nat) (dg : List Int) (m : List S41) : Prop where
  jc : Jc w W g cb l0 p n a
  jm : Jm W cb sb n a sz A3 dg.length c3
  rd : Kd.R (Kd.int .i64) 3 W w.heap.size (fun k => k ≠ g ∧ k < B) (.slice A3 dg.length c3) dg
  mx : Kd.C k41 W (some ⟨gm, 0, none⟩) m.length m
  mb : ∃ cur, W.heap[gm]? = some (.cells cur 41 (0, 0))
  ml : m.length ≤ 1000
  q1 : cb < gm ∧ sb ≠ gm ∧ B ≤ gm
  q2 : sb ≠ g ∧ B ≤ W.heap.size
section
variable {w W W' : World} {B g cb sb gm : Nat} {l0 : List Int} {p p' n a sz : Int} {A3 : Option Addr} {c3 : Nat} {dg : List Int} {m : List S41}
theorem Jf.lt (h : Jf w W B g cb sb gm l0 p n a sz A3 c3 dg m) : gm < W.heap.size := by obtain ⟨cur, hc⟩ := h.mb; exact blk_lt hc
theorem Jf.gg (h : Jf w W B g cb sb gm l0 p n a sz A3 c3 dg m) : gm ≠ g := Nat.ne_of_gt (Nat.lt_trans h.jc.hn h.q1.1)
theorem Jf.below (h : Jf w W B g cb sb gm l0 p n a sz A3 c3 dg m) (hb : Below W.heap.size W W') : Jf w W' B g cb sb gm l0 p n a sz A3 c3 dg m :=
  ⟨h.jc.below hb, h.jm.below hb, Kd.R_below h.rd hb, Kd.C_below h.mx hb, by obtain ⟨cur, hc⟩ := h.mb; exact ⟨cur, blk_below hc hb⟩, h.ml, h.q1, h.q2.1, Nat.le_trans h.q2.2 hb.size⟩
theorem Jf.drew (h : Jf w W B g cb sb gm l0 p n a sz A3 c3 dg m) : Jf w W.drew B g cb sb gm l0 p n a sz A3 c3 dg m := h.below (below_drew1 (Below.refl _ _))
theorem Jf.dc (h : Jf w W B g cb sb gm l0 p n a sz A3 c3 dg m) : Kd.C (Kd.int .i64) W A3 dg.length dg ∧ dg.length ≤ c3 := ⟨(Kd.R_reads' h.rd).2.2, (Kd.R_reads' h.rd).2.1⟩
theorem Jf.next {q r : Int} (h : Jf w W B g cb sb gm l0 p n a sz A3 c3 dg m) (hf : storagebartermake_Deck_Next.f l0 p q = some (r, p')) :
    Calls Try.prog 14 #[.pointer (some ⟨g, 0, none⟩), .int .i64 q] W fun e w' => e = .returned (.int .i64 r) ∧ Jf w w' B g cb sb gm l0 p' n a sz A3 c3 dg m ∧ KeepBut W w' g none :=
  (h.jc.next hf).mono fun e w' ⟨e1, e2, e3⟩ => by
    have hcg : cb ≠ g := Nat.ne_of_gt h.jc.hn
    refine ⟨e1, ⟨e2, h.jm.keep e3 hcg h.q2.1, Kd.R_step h.rd (fun k ho hl => e3.2 k hl ho.1 (by simp)), C_block (by have := h.ml; omega) h.mx (e3.2 gm h.lt h.gg (by simp)), ?_, h.ml, h.q1, h.q2.1, Nat.le_trans h.q2.2 e3.1⟩, e3⟩
    obtain ⟨cur, hc⟩ := h.mb
    exact ⟨cur, e3.blk hc h.gg (by simp)⟩
/-- A store into a block that is none of these. -/
theorem Jf.far (h : Jf w W B g cb sb gm l0 p n a sz A3 c3 dg m) {q : Addr} (hq : cb < q.block ∧ sb ≠ q.block ∧ gm ≠ q.block ∧ B ≤ q.block) (u : Value) : Jf w (W.setCell q u) B g cb sb gm l0 p n a sz A3 c3 dg m :=
  ⟨h.jc.far hq.1 u, h.jm.far (Nat.ne_of_lt hq.1) hq.2.1 u, Kd.R_far h.rd (fun k ho => Nat.ne_of_lt (Nat.lt_of_lt_of_le ho.2 hq.2.2.2)) u, C_block (by have := h.ml; omega) h.mx (Below.heap_setCell W q u gm hq.2.2.1),
    by obtain ⟨cur, hc⟩ := h.mb; exact ⟨cur, blk_far hc hq.2.2.1 u⟩, h.ml, h.q1, h.q2.1, by have := h.q2.2; simpa using this⟩
/-- A shard's data stored anew. -/
theorem Jf.put (h : Jf w W B g cb sb gm l0 p n a sz A3 c3 dg m) {k : Nat} (hk : k < m.length) (s : ByteArray) : Jf w (W.setCell ⟨gm, k * 2 + 1, none⟩ (.string s)) B g cb sb gm l0 p n a sz A3 c3 dg (setData m k s) := by
  obtain ⟨cur, hc⟩ := h.mb
  exact ⟨h.jc.far h.q1.1 _, h.jm.far (Nat.ne_of_lt h.q1.1) h.q1.2.1 _, Kd.R_far h.rd (fun k ho => Nat.ne_of_lt (Nat.lt_of_lt_of_le ho.2 h.q1.2.2)) _, C37_set hc h.mx (by have := h.ml; omega) hk, ⟨_, blk_set hc (k * 2 + 1) (.string s)⟩, by rw [setData_length]; exact h.ml, h.q1, h.q2.1, by have := h.q2.2; simpa using this⟩
theorem Jf.cells (h : Jf w W B g cb sb gm l0 p n a sz A3 c3 dg m) {k : Nat} (hk : k < m.length) : W.cell? ⟨gm, k * 2, none⟩ = some (.int .i64 (rd_T41 m (k : Int)).f0) ∧ W.cell? ⟨gm, k * 2 + 1, none⟩ = some (.string (rd_T41 m (k : Int)).f1) ∧ W.frozen? ⟨gm, k * 2 + 1, none⟩ = false := by
  obtain ⟨ad, e, hc0, hc1⟩ := at_T41 h.mx (k : Int) (by omega) (by omega)
  cases e
  rw [Int.toNat_natCast, add_plain] at hc0 hc1
  obtain ⟨cur, hc⟩ := h.mb
  exact ⟨hc0, hc1, blk_frozen hc _⟩
theorem Jf.right {k : Nat} {f0 : Int} {f1 : ByteArray} {r : Bool} (h : Jf w W B g cb sb gm l0 p n a sz A3 c3 dg m) (hf : stripe_Right.f k n a sz dg f0 f1 = some r) :
    Calls Try.prog 15 #[.agg #[.int .i64 n, .int .i64 a, .int .i64 sz, .slice A3 dg.length c3], .agg #[.int .i64 f0, .string f1]] W fun e w' => e = .returned (.bool r) ∧ Below W.heap.size W w' ∧ Jf w w' B g cb sb gm l0 p n a sz A3 c3 dg m :=
  (stripe_Right.calls k n a sz A3 c3 dg f0 f1 r W h.dc.1 h.dc.2 hf).mono fun e w' ⟨e1, e2⟩ => ⟨e1, e2, h.below e2⟩
theorem Jf.read {k cm : Nat} {key : Int} {t : ByteArray} {r : Int} (h : Jf w W B g cb sb gm l0 p n a sz A3 c3 dg m) (hcm : m.length ≤ cm) (hf : stripe_Read.f k n a sz dg m key = some (t, r)) :
    Calls Try.prog 16 #[.agg #[.int .i64 n, .int .i64 a, .int .i64 sz, .slice A3 dg.length c3], .slice (some ⟨gm, 0, none⟩) m.length cm, .int .i64 key] W fun e w' => e = .returned (.tuple #[.string t, .int .i64 r]) ∧ Below W.heap.size W w' :=
  stripe_Read.calls k n a sz A3 c3 dg (some ⟨gm, 0, none⟩) cm m key t r W h.dc.1 h.dc.2 h.mx hcm hf
end
end Go.Proofs.Ythfddndmhjkeiaa.L
end
section
-- Printed for this claim by a small program of the session's own, drv.py, round the kit's print.py. Lean checks it.
namespace Go.Proofs.Ythfddndmhjkeiaa.L
open Go.RowKit Go.Proofs.YthfddndmhjkeiaaW.PrintWords Go.Proofs.YthfddndmhjkeiaaW.PrintLast Go.Proofs.YthfddndmhjkeiaaW.PrintMore
attribute [local go_sem] max2_int min2_int max_two min_two max_three min_three max_four min_four   -- for this text's walks alone
set_option linter.unusedVariables false
set_option linter.unusedSimpArgs false

/-! ### storagebarterlaw13_small: function 8 -/
def storagebarterlaw13_small.l0 : Nat → Int → List (S41) → Int → Int → Option (Bool)
  | 0, _, _, _, _ => none
  | k + 1, x3, x6, x7, x8 => if x8 < x7 then (if 0 ≤ x8 then (if x8 < (x6.length : Int) then (storagebarterlaw13_small.l0 k (wrap64 (x3 + (wrap64 (1 + (((rd_T41 x6 x8).f1).size : Int))))) x6 x7 (wrap64 (x8 + 1))) else (none)) else (none)) else (some (decide (x3 < 3000)))
def storagebarterlaw13_small.f (k : Nat) (l0 : List (S41)) : Option (Bool) := storagebarterlaw13_small.l0 k 0 l0 (l0.length : Int) 0
theorem storagebarterlaw13_small.mono_l : ∀ k, (∀ y0 y1 y2 y3, LeO (storagebarterlaw13_small.l0 k y0 y1 y2 y3) (storagebarterlaw13_small.l0 (k + 1) y0 y1 y2 y3))
  | 0 => fun _ _ _ _ r h => by simp [storagebarterlaw13_small.l0] at h
  | k + 1 => by
    have ih0 := storagebarterlaw13_small.mono_l k
    · intro y0 y1 y2 y3
      unfold storagebarterlaw13_small.l0
      repeat' first | (with_reducible exact ih0 _ _ _ _) | (with_reducible exact LeO.refl _) | (with_reducible refine LeO.ite ?_ ?_)
theorem storagebarterlaw13_small.mono : ∀ a0 k, LeO (storagebarterlaw13_small.f k a0) (storagebarterlaw13_small.f (k + 1) a0) := by
  intro a0 k
  have ih0 := storagebarterlaw13_small.mono_l k
  unfold storagebarterlaw13_small.f
  repeat' (with_reducible exact ih0 _ _ _ _)
set_option maxHeartbeats 8000000 in
set_option maxRecDepth 100000 in
theorem storagebarterlaw13_small.calls (k : Nat) (A0 : Option Addr) (c0 : Nat) (l0 : List (S41)) (r : Bool) (w : World) (hr0 : Kd.C k41 w A0 l0.length l0) (hc0 : l0.length ≤ c0) (h : storagebarterlaw13_small.f k l0 = some r) :
    Calls Try.prog 8 #[.slice A0 l0.length c0] w fun e w' => e = .returned (.bool r) ∧ Below w.heap.size w w' := by
  have hu41 := Try.underlying41
  have HR0 := Aside0.mk hr0
  have HC0 := Aside0.mk hc0
  clear hr0 hc0
  have HB := Aside0.mk (Below.refl w.heap.size w)
  have H : (storagebarterlaw13_small.l0 k 0 l0 (l0.length : Int) 0) = some r := h
  clear h
  have H' := Aside0.mk H
  clear H
  go_enter Try.func8, Try.ntmps8
  go_wp2
  go_loopg [3, 8] k (fun kq v3 v8 w' => ∃ (x3_1 : Int) (x8_1 : Int), v3 = .int .i64 x3_1 ∧ v8 = .int .i64 x8_1 ∧ Aside0 (storagebarterlaw13_small.l0 kq x3_1 l0 (l0.length : Int) x8_1 = some r) ∧ Aside0 (kq ≤ k) ∧ Aside0 (Below w.heap.size w w'))
  case atStart => exact ⟨(0), (0), (by (rfl)), (by (rfl)), H', ⟨Nat.le_refl _⟩, ⟨HB.out⟩⟩
  case round =>
    clear H'
    obtain ⟨x3_1, x8_1, rfl, rfl, HA, HK1, HB⟩ := hrel
    cases gk with
    | zero => exact absurd HA.out (by simp [storagebarterlaw13_small.l0])
    | succ k1 =>
      have H := HA.out
      clear HA
      simp only [storagebarterlaw13_small.l0] at H
      by_cases c2 : x8_1 < (l0.length : Int)
      · rw [if_pos c2] at H
        have c2b0 : decide (x8_1 < (l0.length : Int)) = true := decide_eq_true c2
        clear c2
        by_cases c3 : 0 ≤ x8_1
        · rw [if_pos c3] at H
          have c3b0 : decide (0 ≤ x8_1) = true := decide_eq_true c3
          clear c3
          by_cases c4 : x8_1 < (l0.length : Int)
          · rw [if_pos c4] at H
            have c4b0 : decide (x8_1 < (l0.length : Int)) = true := decide_eq_true c4
            clear c4
            have H' := Aside0.mk H
            clear H
            have p101 : 0 ≤ (x8_1 : Int) := of_decide_eq_true (by (with_reducible assumption))
            have q101 : x8_1 < (l0.length : Int) := of_decide_eq_true (by (with_reducible assumption))
            obtain ⟨ad101, e101, hx101_0, hx101_1⟩ := at_T41 HR0.out x8_1 p101 q101
            cases e101
            replace hx101_0 := (HB.out.cell (World.block_lt_of_cell? w _ hx101_0)).trans hx101_0
            replace hx101_1 := (HB.out.cell (World.block_lt_of_cell? w _ hx101_1)).trans hx101_1
            replace p101 := eq_true p101
            replace q101 := eq_true q101
            go_wp2_with (((with_reducible refine gate_dst (N := 5) rfl ?_); refine box_event ?hg (N := 5) ?hd (cs := #[.int .i64 0, .string (⟨#[]⟩ : ByteArray)]) (t := 41) ?hr ?_; (case hd => rfl); (case hg => rfl); (case hr => (go_simp; done)); intro gb102 hg w5 hbox hb; have n0_ := Aside0.mk (below_step HB.out hb); have n1_ := Aside0.mk (hbox); have n2_ := Aside0.mk ((by rw [hg]; exact (below_size HB.out) : w.heap.size ≤ gb102)); have n3_ := Aside0.mk ((by rw [hg]; exact (below_size HB.out) : w.heap.size ≤ gb102)); clear HB; have HB := n0_; have BK102 := n1_; have GW102 := n2_; have GE102 := n3_; clear n0_ n1_ n2_ n3_; clear hb hbox hg; have hcz6_0 : w5.cell? ⟨gb102, 0, none⟩ = some (.int .i64 0) := (blk_cell BK102.out 0).trans rfl; have hcz6_1 : w5.cell? ⟨gb102, 1, none⟩ = some (.string (⟨#[]⟩ : ByteArray)) := (blk_cell BK102.out 1).trans rfl; have hfz6_0 := blk_frozen BK102.out 0; have hfz6_1 := blk_frozen BK102.out 1))
            go_roundg k1
            case measure => have := HK1.out; omega
            case rel => exact ⟨(wrap64 (x3_1 + (wrap64 (1 + (((rd_T41 l0 x8_1).f1).size : Int))))), (wrap64 (x8_1 + 1)), (by (rfl)), (by (rfl)), H', ⟨by have := HK1.out; omega⟩, ⟨by repeat ((with_reducible first | exact HB.out | refine below_set ?_ GE102.out))⟩⟩
          · rw [if_neg c4] at H
            exact absurd H (by simp)
        · rw [if_neg c3] at H
          exact absurd H (by simp)
      · rw [if_neg c2] at H
        have c2b0 : decide (x8_1 < (l0.length : Int)) = false := decide_eq_false c2
        clear c2
        obtain rfl := Option.some.inj H
        go_wp2
        go_ret
        exact ⟨by (rfl), HB.out⟩

end Go.Proofs.Ythfddndmhjkeiaa.L
end
section
/- law13's StripeReads: what holds at each world of its rounds. -/
namespace Go.Proofs.Ythfddndmhjkeiaa.L
open Go.RowKit Go.Proofs.YthfddndmhjkeiaaW.PrintWords Go.Proofs.YthfddndmhjkeiaaW.PrintLast Go.Proofs.YthfddndmhjkeiaaW.PrintMore
set_option linter.unusedVariables false
set_option linter.unusedSimpArgs false
section
variable {w W W' : World} {B g cb sb gm : Nat} {l0 : List Int} {p p' n a sz : Int} {A3 : Option Addr} {c3 : Nat} {dg : List Int} {m : List S41}
/-- Another row has grown. -/
theorem Jf.grown (h : Jf w W B g cb sb gm l0 p n a sz A3 c3 dg m) {row : Option Nat} (hg : W.grownBy W' row) (hb : Below w.heap.size w W') (hc : cb < B) (hs : sb < B) (hr : ∀ b, row = some b → b ≠ gm ∧ B ≤ b) : Jf w W' B g cb sb gm l0 p n a sz A3 c3 dg m := by
  have ne : ∀ k, k < B → some k ≠ row := fun k hk e => by
    have := (hr k e.symm).2
    omega
  have hgB : g < B := Nat.lt_trans h.jc.hn hc
  have hgm : some gm ≠ row := fun e => (hr gm e.symm).1 rfl
  refine ⟨⟨h.jc.hi.grown hg (ne g hgB), hb, blk_grown h.jc.hc hg (ne cb hc), h.jc.hn⟩, ⟨blk_grown h.jm.hc hg (ne cb hc), blk_grown h.jm.hs hg (ne sb hs)⟩, Kd.R_step h.rd (fun k ho hl => hg.block k hl (ne k ho.2)), C_block (by have := h.ml; omega) h.mx (hg.block gm h.lt hgm), ?_, h.ml, h.q1, h.q2.1, Nat.le_trans h.q2.2 hg.size⟩
  obtain ⟨cur, hcc⟩ := h.mb
  exact ⟨cur, blk_grown hcc hg hgm⟩
theorem Jf.alloc (h : Jf w W B g cb sb gm l0 p n a sz A3 c3 dg m) (o : Obj) : Jf w (W.alloc o) B g cb sb gm l0 p n a sz A3 c3 dg m := h.below (below_alloc (Below.refl _ _) o)
/-- Read on any row. -/
theorem Jf.readAny {k cm : Nat} {A : Option Addr} {l : List S41} {key : Int} {t : ByteArray} {r : Int} (h : Jf w W B g cb sb gm l0 p n a sz A3 c3 dg m) (hl : Kd.C k41 W A l.length l) (hcm : l.length ≤ cm) (hf : stripe_Read.f k n a sz dg l key = some (t, r)) :
    Calls Try.prog 16 #[.agg #[.int .i64 n, .int .i64 a, .int .i64 sz, .slice A3 dg.length c3], .slice A l.length cm, .int .i64 key] W fun e w' => e = .returned (.tuple #[.string t, .int .i64 r]) ∧ Below W.heap.size W w' ∧ Jf w w' B g cb sb gm l0 p n a sz A3 c3 dg m :=
  (stripe_Read.calls k n a sz A3 c3 dg A cm l key t r W h.dc.1 h.dc.2 hl hcm hf).mono fun e w' ⟨e1, e2⟩ => ⟨e1, e2, h.below e2⟩
end
end Go.Proofs.Ythfddndmhjkeiaa.L
end
section
/- law13's StripeReads: the walk along the way that the plain law tells. -/
namespace Go.Proofs.Ythfddndmhjkeiaa.L
open Go.RowKit Go.Proofs.YthfddndmhjkeiaaW.PrintWords Go.Proofs.YthfddndmhjkeiaaW.PrintLast Go.Proofs.YthfddndmhjkeiaaW.PrintMore
set_option linter.unusedVariables false
set_option linter.unusedSimpArgs false
set_option maxHeartbeats 3000000 in
set_option maxRecDepth 100000 in
theorem storagebarterlaw13_StripeReads.main (k : Nat) (A0 : Option Addr) (c0 : Nat) (l0 : List Int) (a1 : ByteArray) (a2 a3 : Int) (A4 : Option Addr) (c4 : Nat) (l4 : List S41) (n a r t : Nat) (p1 p2 p3 kk ww sz e2 : Int) (u2 u3 : ByteArray) (dg : List Int) (l part : List S41) (RB : S41 → Bool) (w : World)
    (hr0 : Kd.C (Kd.int .i64) w A0 l0.length l0) (hc0 : l0.length ≤ c0) (hr4 : Kd.C k41 w A4 l4.length l4) (hc4 : l4.length ≤ c4) (hl4 : l4.length * 24 ≤ 140737488351232)
    (ha : 1 ≤ a) (ha9 : a ≤ 9) (hn1 : 1 ≤ n) (hn : n ≤ a)
    (hF : storagebartermake_Few.f l0 = some true) (hsz : a1.size ≤ 500) (hSm : storagebarterlaw13_small.f k l4 = some true)
    (hC : storagebartermake_Code.f l0 0 = some ((n : Int), (a : Int), p1)) (hK : storagebartermake_Mod.f a2 4294967294 = some kk) (hW : storagebartermake_Mod.f a3 4294967294 = some ww)
    (hM : stripe_Make.f k n a a1 kk = some ((n : Int), (a : Int), sz, dg, l, 0)) (hl : l.length = a)
    (hNx : storagebartermake_Deck_Next.f l0 p1 ((a : Int) - n + 1) = some ((r : Int), p2)) (ht : t = n + r) (hra : r ≤ a)
    (hso : storagebarterlaw13_some.f l0 p2 l t = some (part, p3)) (hpn : n ≤ part.length) (hp9 : part.length ≤ 9)
    (hRB : ∀ x, x ∈ l4 → stripe_Right.f k n a sz dg x.f0 x.f1 = some (RB x))
    (hR1 : stripe_Read.f k n a sz dg ((l4.filter fun x => !RB x) ++ part) kk = some (a1, 0))
    (hR2 : stripe_Read.f k n a sz dg part ww = some (u2, e2)) (he2 : (kk = ww ∧ e2 = 0) ∨ (kk ≠ ww ∧ e2 = 9))
    (hR3 : stripe_Read.f k n a sz dg (part.take (n - 1)) kk = some (u3, 14)) :
    Calls Try.prog 3 #[.slice A0 l0.length c0, .string a1, .int .i64 a2, .int .i64 a3, .slice A4 l4.length c4] w fun e w' => e = .returned (.bool true) ∧ Below w.heap.size w w' := by
  have hu30 := Try.underlying30
  have hu34 := Try.underlying34
  have hu41 := Try.underlying41
  have HR0 := Aside0.mk hr0
  have HC0 := Aside0.mk hc0
  have HR4 := Aside0.mk hr4
  have HC4 := Aside0.mk hc4
  have HL4 := Aside0.mk hl4
  have HF := Aside0.mk hF
  have HSM := Aside0.mk hSm
  have HC := Aside0.mk hC
  have HK := Aside0.mk hK
  have HW := Aside0.mk hW
  have HM := Aside0.mk hM
  have HL := Aside0.mk hl
  have HNX := Aside0.mk hNx
  have HT := Aside0.mk ht
  have HSO := Aside0.mk hso
  have HRB := Aside0.mk hRB
  have HR1 := Aside0.mk hR1
  have HR2 := Aside0.mk hR2
  have HE2 := Aside0.mk he2
  have HR3 := Aside0.mk hR3
  have HNW := Aside0.mk (show storagebartermake_New.f l0 = some (l0, 0) from rfl)
  have d1 : decide ((a1.size : Int) > 500) = false := decide_eq_false (by omega)
  clear hr0 hc0 hr4 hc4 hl4 hF hSm hC hK hW hM hl hNx ht hso hRB hR1 hR2 he2 hR3
  go_enter Try.func3, Try.ntmps3
  go_wp2_with fail
  refine (storagebarterlaw13_sane.holds w).mono ?_
  rintro e w1 ⟨rfl, hb1⟩
  have HB1 := Aside0.mk hb1
  clear hb1
  go_wp2_with fail
  refine (storagebartermake_Few.calls _ _ l0 true _ (Kd.C_below HR0.out HB1.out) HC0.out HF.out).mono ?_
  rintro e w2 ⟨rfl, ⟨nd, rfl⟩⟩
  have HB1 := Aside0.mk (pw_below_drewN HB1.out nd)
  go_wp2_with fail
  refine (storagebarterlaw13_small.calls k A4 c4 l4 true _ (Kd.C_below HR4.out HB1.out) HC4.out HSM.out).mono ?_
  rintro e w2b ⟨rfl, hb2⟩
  have HB1 := Aside0.mk (below_step HB1.out hb2)
  clear hb2
  go_wp2_with fail
  refine (storagebartermake_New.calls _ _ l0 l0 0 w _ HB1.out HR0.out HC0.out HNW.out).mono ?_
  rintro e w3 ⟨g, rfl, hI3, hb3, _⟩
  have HI3 := Aside0.mk hI3
  have HB3 := Aside0.mk hb3
  clear hI3 hb3 HB1
  go_wp2_with fail
  refine (storagebartermake_Code.calls g l0 0 n a p1 w _ HI3.out HB3.out HC.out).mono ?_
  rintro e w4 ⟨rfl, hI4, hb4, hk4⟩
  have HI4 := Aside0.mk hI4
  have HB4 := Aside0.mk hb4
  clear hI4 hb4 hk4 HB3 HI3
  go_wp2_with fail
  have hgs4 : g < w4.heap.size := HI4.out.lt
  obtain ⟨W5, hW5⟩ : ∃ W5, w4.alloc (.cells #[.int .i64 (n : Int), .int .i64 (a : Int)] 30) = W5 := ⟨_, rfl⟩
  have J5 : Jc w W5 g w4.heap.size l0 p1 n a := by
    rw [← hW5]
    exact ⟨HI4.out.alloc _, below_alloc HB4.out _, blk_new w4 _, hgs4⟩
  rw [hW5]
  have H5 : w4.heap.size < W5.heap.size := J5.lt
  clear HI4 HB4 hW5
  generalize w4.heap.size = cb at J5 H5 hgs4 ⊢
  have J5 := Aside0.mk J5
  go_wp2_with fail
  refine (storagebartermake_Mod.calls _ _ kk _ HK.out).mono ?_
  rintro e w6 ⟨rfl, ⟨nd6, rfl⟩⟩
  have J5 := Aside0.mk (J5.out.below (pw_below_drewN (Below.refl _ W5) nd6))
  go_wp2_with fail
  refine (storagebartermake_Mod.calls _ _ ww _ HW.out).mono ?_
  rintro e w6 ⟨rfl, ⟨nd7, rfl⟩⟩
  have J5 := Aside0.mk (J5.out.below (pw_below_drewN (Below.refl _ _) nd7))
  have H5 := J5.out.lt
  generalize (W5.drewN nd6).drewN nd7 = W5 at J5 H5 ⊢
  have x0 := J5.out.c0
  have x1 := J5.out.c1
  go_wp2_with fail
  clear x0 x1
  refine (Jc.make J5.out HM.out).mono ?_
  rintro e w7 ⟨A3, c3, A5, c5, rfl, hO3, hO4, J7, hb7⟩
  have hlp : 0 < l.length := by have := HL.out; omega
  obtain ⟨gr, cp4, e4, hgr0, hgr1, _⟩ := Kd.R_form hO4 hlp
  injection e4 with e4 _ e4c
  subst e4 e4c
  have hg5 : g < W5.heap.size := Nat.lt_trans hgs4 H5
  have hl7 := (Kd.R_reads' hO4).2
  have hgr7 : gr ≠ g := Nat.ne_of_gt (Nat.lt_of_lt_of_le hg5 hgr0)
  obtain ⟨W8, hW8⟩ : ∃ W8, w7.alloc (.cells #[.int .i64 n, .int .i64 a, .int .i64 sz, .slice A3 dg.length c3] 34) = W8 := ⟨_, rfl⟩
  have hs8 : W8.heap.size = w7.heap.size + 1 := by rw [← hW8]; simp
  have J8 := Aside0.mk (show Jc w W8 g cb l0 p1 n a by rw [← hW8]; exact J7.alloc _)
  have M8 := Aside0.mk (show Jm W8 cb w7.heap.size n a sz A3 dg.length c3 by rw [← hW8]; exact ⟨(J7.alloc _).hc, blk_new w7 _⟩)
  have R8 := Aside0.mk (show Kd.R (Kd.int .i64) 3 W8 w.heap.size (fun k => k ≠ g ∧ k < W8.heap.size) (.slice A3 dg.length c3) dg by
    rw [← hW8]
    refine Kd.R_mono (Kd.R_bound (R_off (w := w) (Kd.R_alloc hO3 _) hg5 J5.out.hb.size)) (fun k hk => ⟨hk.1, hk.2.2.1⟩))
  have L8 := Aside0.mk (show ∀ W_, KeepBut W8 W_ g none → Kd.C k41 W_ (some ⟨gr, 0, none⟩) l.length l by
    rw [← hW8]
    exact fun W_ hk => C_block (by have := HL.out; omega) (Kd.C_alloc hl7.2 _) (hk.2 gr (by simp; omega) hgr7 (by simp)))
  have LC := Aside0.mk hl7.1
  have H7 : cb < w7.heap.size := J7.lt
  have hs7 : w7.heap.size ≠ g := Nat.ne_of_gt (Nat.lt_trans hgs4 H7)
  clear hl7 hO3 hO4 J7 hb7 HM hgr0 hgr1
  have hlb : ((l.length : Int) != (a : Int)) = false := by rw [HL.out]; simp
  have x1 := J8.out.c1
  go_wp2_with fail
  have hw1 : IntKind.i64.wrap ((a : Int) - (n : Int)) = (a : Int) - (n : Int) := (i64_w _).trans (w64' (by omega) (by omega))
  have hw2 : IntKind.i64.wrap ((a : Int) - (n : Int) + 1) = (a : Int) - (n : Int) + 1 := (i64_w _).trans (w64' (by omega) (by omega))
  have hw3 : IntKind.i64.wrap ((n : Int) + (r : Int)) = (t : Int) := by
    rw [HT.out]
    exact (i64_w _).trans ((w64' (by omega) (by omega)).trans (by omega))
  clear x1 hlb
  have y0 := J8.out.c0
  have y1 := J8.out.c1
  have hcg : cb ≠ g := Nat.ne_of_gt hgs4
  go_region_held3 (fun w' => w'.cell? ⟨cb, 0, none⟩ = some (.int .i64 (n : Int)) ∧ w'.cell? ⟨cb, 1, none⟩ = some (.int .i64 (a : Int))) (first | exact ⟨y0, y1⟩ | exact ⟨J9.c0, J9.c1⟩ | exact ⟨blk_cell K10 0, blk_cell K10 1⟩) (first | ((with_reducible refine (Jc.next (w := w) (cb := cb) (n := n) (a := a) (p := p1) J8.out.drew HNX.out).mono ?_); rintro e w9 ⟨rfl, J9, hk9⟩) | ((with_reducible refine (storagebarterlaw13_some.calls g l0 p2 (some ⟨gr, 0, none⟩) c5 l t part p3 w w9 J9.hi J9.hb (fun W_ hk => L8.out W_ (KeepBut.trans (KeepBut.trans (KeepBut.of_below (below_drew1 (Below.refl _ W8)) g none) hk9 (.inl rfl)) hk (.inl rfl))) LC.out HSO.out).mono ?_); rintro e w10 ⟨v0, rfl, hO10, hi10, hb10, hk10⟩; have K10 := hk10.blk J9.hc hcg (by simp)))
  have hk8 : KeepBut W8 w10 g none := KeepBut.trans (KeepBut.trans (KeepBut.of_below (below_drew1 (Below.refl _ W8)) g none) hk9 (.inl rfl)) hk10 (.inl rfl)
  have hz8 : W8.heap.size ≤ w9.heap.size := hk9.1
  obtain ⟨gp, cp, e9, hgp0, hgp1, curp, hgpc⟩ := Kd.R_form hO10 (by omega)
  subst e9
  have hr10 := Kd.R_reads' hO10
  have JP := Aside0.mk (show Jf w w10 W8.heap.size g cb w7.heap.size gp l0 p3 n a sz A3 c3 dg part from
    ⟨⟨hi10, hb10, K10, hgs4⟩, M8.out.keep hk8 hcg hs7, Kd.R_step R8.out (fun k ho hl => hk8.2 k hl ho.1 (by simp)), hr10.2.2, ⟨curp, hgpc⟩, by omega, ⟨by omega, by omega, by omega⟩, hs7, by have := hk8.1; omega⟩)
  have HCP := Aside0.mk hr10.2.1
  clear hr10 hO10 hi10 hb10 hk10 hgpc J8 M8 R8 L8 LC HSO J9 hk9 hk8 hw1 hw2 hw3 y0 y1 K10 HNX HT hgp0 hgp1 hz8
  have hsB : w7.heap.size < W8.heap.size := by omega
  have hcB : cb < W8.heap.size := by omega
  generalize w7.heap.size = sb at JP hs7 H7 hs8 hsB ⊢
  generalize W8.heap.size = B at JP hs8 hsB hcB
  clear hs8
  have HL42 := Aside0.mk (show l4.length ≤ 5864062014805 by have := HL4.out; omega)
  go_wp2_with fail
  go_loopw [84, 19] (fun v u wr => ∃ (j : Nat) (xs : List S41), v = .int .i64 (j : Int) ∧ j ≤ l4.length ∧ xs.length ≤ j ∧ Aside0 (xs = (l4.take j).filter fun x => !RB x) ∧ Aside0 (Jf w wr B g cb sb gp l0 p3 n a sz A3 c3 dg part) ∧ Aside0 (Kd.R k41 41 wr w.heap.size (fun k_ => k_ ≠ gp ∧ B ≤ k_) u xs)) (fun v _ _ => l4.length - (intOf v).toNat)
  case atStart => exact ⟨0, [], rfl, Nat.zero_le _, Nat.le_refl _, ⟨rfl⟩, JP, ⟨Kd.R_nil _ _ _ _ _⟩⟩
  case round =>
    obtain ⟨j, xs, rfl, hj, hxl, HXS, JR, HO⟩ := hrel
    by_cases hlt : j < l4.length
    · have hltb : decide ((j : Int) < (l4.length : Int)) = true := decide_eq_true (by omega)
      have hbw : IntKind.i64.wrap ((j : Int) + 1) = ((j + 1 : Nat) : Int) := (i64_w _).trans ((w64' (by have := HL42.out; omega) (by have := HL42.out; omega)).trans (by omega))
      have haL : (xs.length + 1) * 24 ≤ 140737488355328 := by have := HL42.out; omega
      obtain ⟨ad, e, hc0, hc1⟩ := at_T41 (Kd.C_below HR4.out JR.out.jc.hb) (j : Int) (by omega) (by omega)
      cases e
      rw [Int.toNat_natCast] at hc0 hc1
      have hRT := Aside0.mk (HRB.out (rd_T41 l4 (j : Int)) (by rw [rd_T41_get hlt]; exact List.getElem_mem hlt))
      have HTK := Aside0.mk (show l4.take (j + 1) = l4.take j ++ [rd_T41 l4 (j : Int)] by rw [List.take_add_one, List.getElem?_eq_getElem hlt, rd_T41_get hlt]; rfl)
      generalize hxx : rd_T41 l4 (j : Int) = xx at hc0 hc1 hRT HTK
      obtain ⟨x0, x1⟩ := xx
      clear hxx
      have hjl2 : (j : Int) < (l4.length : Int) := by omega
      have JA := Aside0.mk (JR.out.alloc (.cells #[.int .i64 x0, .string x1] 41))
      have HOA := Aside0.mk (Kd.R_alloc HO.out (.cells #[.int .i64 x0, .string x1] 41))
      have KX := Aside0.mk (blk_new wr (.cells #[.int .i64 x0, .string x1] 41))
      obtain ⟨_, z0, z1, z2, z3⟩ := JA.out.jm.five
      clear JR HO
      go_wp2_with fail
      refine (Jf.right JA.out hRT.out).mono ?_
      rintro e w12 ⟨rfl, hb12, J12⟩
      have J12 := Aside0.mk J12
      have HO12 := Aside0.mk (Kd.R_below HOA.out hb12)
      have KX12 := Aside0.mk (blk_below KX.out hb12)
      have v0 := (blk_cell KX12.out 0).trans (show _ = some (Value.int .i64 x0) from rfl)
      have v1 := (blk_cell KX12.out 1).trans (show _ = some (Value.string x1) from rfl)
      clear z0 z1 z2 z3 hc0 hc1 JA HOA KX hb12 hRT KX12 hjl2
      cases hrb : RB ⟨x0, x1⟩ with
      | true =>
        go_wp2_with fail
        exact ⟨⟨j + 1, xs, rfl, by omega, by omega, ⟨by rw [HTK.out, List.filter_append, ← HXS.out]; simp [hrb]⟩, J12, HO12⟩, by simp [intOf]; omega⟩
      | false =>
        go_wp2_with (first | ((with_reducible refine gate_builtin (b := .append) (xs := #[.tmp 92, .tmp 94]) rfl ?_); at_builtin; refine Kd.R_append k41 (w0 := w) w.heap.size rfl (.tmp 92) (.tmp 94) 23 41 (.agg #[(.int .i64 0), (.string ⟨#[]⟩)]) 24 rfl Try.underlying23 info41 rfl (by decide) (by omega) u19 xs (⟨x0, x1⟩ : S41) [.int .i64 x0, .string x1] (fun k_ => k_ ≠ gp ∧ B ≤ k_) (fun _ => False) rfl rfl ?aP (fun _ hk => hk.elim) ?aF ?aO ?aB ?aS ?aL ?_; (case aP => exact k41_mkM _ _ _ (⟨x0, x1⟩ : S41)); (case aB => exact J12.out.jc.hb); (case aF => exact fun k hk => ⟨Nat.ne_of_gt (Nat.lt_of_lt_of_le J12.out.lt hk), Nat.le_trans J12.out.q2.2 hk⟩); (case aO => exact HO12.out); (case aS => exact J12.out.jc.hb.size); (case aL => exact haL); intro v5 w13 ho hb hg hat))
        have J13 := Aside0.mk (J12.out.grown hg hb hcB hsB (fun b hb => HO12.out.1 b hb))
        exact ⟨⟨j + 1, xs ++ [⟨x0, x1⟩], rfl, by omega, by rw [List.length_append, List.length_singleton]; omega, ⟨by rw [HTK.out, List.filter_append, ← HXS.out]; simp [hrb]⟩, J13, ⟨ho⟩⟩, by simp [intOf]; omega⟩
    · have hltb : decide ((j : Int) < (l4.length : Int)) = false := decide_eq_false (by omega)
      obtain rfl : j = l4.length := by omega
      have haL : (xs.length + part.length) * 24 ≤ 140737488355328 := by have := HL4.out; omega
      go_upto_region 20 with (first | ((with_reducible refine gate_builtin (b := .append) (xs := #[.tmp 97, .tmp 98]) rfl ?_); at_builtin; refine Kd.R_append_rows k41 (w0 := w) w.heap.size rfl (.tmp 97) (.tmp 98) 23 41 (.agg #[(.int .i64 0), (.string ⟨#[]⟩)]) 24 rfl Try.underlying23 info41 rfl (by decide) (by omega) u19 xs part _ _ _ (fun k_ => k_ ≠ gp ∧ B ≤ k_) (fun _ => False) rfl rfl ?aO ?aR (fun _ _ h => h) (fun _ h => h.elim) ?aF ?aB ?aS ?aL ?_; (case aR => exact JR.out.mx); (case aB => exact JR.out.jc.hb); (case aF => exact fun k hk => ⟨Nat.ne_of_gt (Nat.lt_of_lt_of_le JR.out.lt hk), Nat.le_trans JR.out.q2.2 hk⟩); (case aO => exact HO.out); (case aS => exact JR.out.jc.hb.size); (case aL => exact haL); intro v5 w13 ho hb hg hat))
      have J13 := Aside0.mk (JR.out.grown hg hb hcB hsB (fun b hb => HO.out.1 b hb))
      obtain ⟨A6, c6, rfl⟩ := Kd.R_slice ho
      have hr6 := Kd.R_reads' ho
      rw [List.take_length] at HXS
      have HR1' := Jf.readAny J13.out hr6.2.2 hr6.2.1 (by rw [HXS.out]; exact HR1.out)
      rw [List.length_append] at HR1'
      replace HR1' := Aside0.mk HR1'
      obtain ⟨_, z0, z1, z2, z3⟩ := J13.out.jm.five
      clear JR HO ho hg hat hb hr6 HR1 haL hltb hlt
      go_wp2_with fail
      refine HR1'.out.mono ?_
      rintro e w14 ⟨rfl, hb14, J14⟩
      have J14 := Aside0.mk J14
      clear z0 z1 z2 z3 hb14 J13 HR1'
      have HR2' := Aside0.mk (Jf.readAny J14.out J14.out.mx HCP.out HR2.out)
      obtain ⟨_, z0, z1, z2, z3⟩ := J14.out.jm.five
      go_wp2_with fail
      refine HR2'.out.mono ?_
      rintro e w15 ⟨rfl, hb15, J15⟩
      have J15 := Aside0.mk J15
      clear z0 z1 z2 z3 hb15 J14 HR2' HR2
      have htl : (part.take (n - 1)).length = n - 1 := by rw [List.length_take]; omega
      have hrd := Jf.readAny J15.out.drew (cm := cp) (Kd.C_take J15.out.drew.mx (m := n - 1) (by omega)) (by rw [htl]; have := HCP.out; omega) HR3.out
      rw [htl] at hrd
      have hrd := Aside0.mk hrd
      obtain ⟨_, z0, z1, z2, z3⟩ := J15.out.jm.five
      have y0 := J15.out.jc.c0
      have hw1 : IntKind.i64.wrap ((n : Int) - 1) = ((n - 1 : Nat) : Int) := (i64_w _).trans ((w64' (by omega) (by omega)).trans (by omega))
      have hq1 : (0 : Int) ≤ ((n - 1 : Nat) : Int) := Int.natCast_nonneg _
      have hq2 : ((n - 1 : Nat) : Int) ≤ (cp : Int) := by have := HCP.out; omega
      go_wp2_with fail
      go_region_held3 (fun w' => w'.cell? ⟨sb, 0, none⟩ = some (.int .i64 (n : Int)) ∧ w'.cell? ⟨sb, 1, none⟩ = some (.int .i64 (a : Int)) ∧ w'.cell? ⟨sb, 2, none⟩ = some (.int .i64 sz) ∧ w'.cell? ⟨sb, 3, none⟩ = some (.slice A3 dg.length c3) ∧ w'.cell? ⟨cb, 0, none⟩ = some (.int .i64 (n : Int))) (first | exact ⟨z0, z1, z2, z3, y0⟩ | exact ⟨pw_cell_below hb16 z0, pw_cell_below hb16 z1, pw_cell_below hb16 z2, pw_cell_below hb16 z3, pw_cell_below hb16 y0⟩) (first | ((with_reducible refine hrd.out.mono ?_); rintro e w16 ⟨rfl, hb16, J16⟩))
      have HB16 := Aside0.mk J16.jc.hb
      clear z0 z1 z2 z3 y0 J15 J16 hb16 hrd hw1 hq1 hq2 HR3
      rcases HE2.out with ⟨h1, h2⟩ | ⟨h1, h2⟩
      · subst h1 h2
        go_wp2_with fail
        go_ret
        exact ⟨by simp, HB16.out⟩
      · subst h2
        have hk1 : (kk == ww) = false := beq_eq_false_iff_ne.mpr h1
        have hk2 : (kk != ww) = true := bne_iff_ne.mpr h1
        go_wp2_with fail
        go_ret
        exact ⟨by simp [hk1, hk2], HB16.out⟩
#print axioms storagebarterlaw13_StripeReads.main
end Go.Proofs.Ythfddndmhjkeiaa.L
end
section
/- law13's StripeReads: what is left to the plain law, the shards that came in laid open, and the walk of the whole. -/
namespace Go.Proofs.Ythfddndmhjkeiaa.L
open Go.RowKit Go.Proofs.YthfddndmhjkeiaaW.PrintWords Go.Proofs.YthfddndmhjkeiaaW.PrintLast Go.Proofs.YthfddndmhjkeiaaW.PrintMore
open Go.Deep Go.ChangeShapes Go.WideShapes
set_option linter.unusedVariables false
set_option linter.unusedSimpArgs false
theorem C_pairs {W : World} {ad : Addr} {l : List S41} (hl : l.length ≤ 9223372036854775807) (h : ∀ i x, l[i]? = some x → W.cell? (ad.add (i * 2)) = some (.int .i64 x.f0) ∧ W.cell? (ad.add (i * 2 + 1)) = some (.string x.f1)) : Kd.C k41 W (some ad) l.length l :=
  ⟨rfl, hl, fun _ => ⟨ad, rfl, fun j p hj => ⟨[.int .i64 p.f0, .string p.f1], rfl, k41.K_of_M (k41_mkM W 0 (fun _ => True) p), fun i u hu => by
    have hg := h j p hj
    match i, hu with
    | 0, hu => exact hg.1.trans hu
    | 1, hu => exact hg.2.trans hu
    | i + 2, hu => exact absurd hu (by simp)⟩⟩⟩
section
variable {H : Type} {enc : TypeId × Value → H} {W : World}
def NoiseRow (w : World) (a : Option Addr) (len cap : Nat) (zs : List S41) : Prop := len = zs.length ∧ len ≤ cap ∧ Kd.C k41 w a zs.length zs ∧ ∀ x, x ∈ zs → (Lit.int .i64 x.f0).wf = true
theorem noise_open {a4 : Option Addr} {len4 cap4 : Nat} {d4 : DataW H} {p4 : List MemPlace} (h : DataW.Trod enc Try.prog W 0 (fun _ => true) true 23 (.slice a4 len4 cap4) d4 p4) : ∃ zs, NoiseRow W a4 len4 cap4 zs := by
  obtain ⟨fuel, hf⟩ := h
  rcases open_slice_pairs Try.underlying23 Try.underlying41 (by kernel_rfl) rfl rfl (by kernel_rfl) (by kernel_rfl) hf with ⟨hcs, _⟩ | ⟨x, l, c, m, n, V0, V1, D0, D1, P0, P1, hcs, _, hl, hm, hmm, _, hi⟩
  · simp [Value.cells] at hcs
    obtain ⟨rfl, rfl, rfl⟩ := hcs
    exact ⟨[], rfl, Nat.le_refl _, C_empty _ _ (by simp), fun x hx => absurd hx List.not_mem_nil⟩
  · simp [Value.cells] at hcs
    obtain ⟨rfl, rfl, rfl⟩ := hcs
    have hlm : len4 ≤ m := by rw [hmm]; split <;> omega
    have each : ∀ i, i < len4 → ∃ y : S41, W.cell? (x.add (i * 2)) = some (.int .i64 y.f0) ∧ W.cell? (x.add (i * 2 + 1)) = some (.string y.f1) ∧ (Lit.int .i64 y.f0).wf = true := by
      intro i hil
      obtain ⟨c0, c1, t0, t1⟩ := hi i (by omega)
      obtain ⟨q, e0, _, hw⟩ := DataW.trod_int Try.underlying3 t0
      obtain ⟨s, e1, _, _⟩ := DataW.trod_string Try.underlying9 t1
      injection e0 with e0 _
      injection e1 with e1 _
      exact ⟨⟨q, s⟩, by rw [c0, e0], by rw [c1, e1], hw⟩
    refine ⟨(List.range len4).map fun i => if h : i < len4 then Classical.choose (each i h) else ⟨0, ⟨#[]⟩⟩, by simp, hl, ?_, fun y hy => ?_⟩
    · refine C_pairs (by have : maxLen = 9223372036854775807 := rfl
                         rw [List.length_map, List.length_range]; omega) fun i y hy => ?_
      rw [List.getElem?_map] at hy
      obtain ⟨i', hi', rfl⟩ := Option.map_eq_some_iff.1 hy
      have hil : i < len4 := by
        have := (List.getElem?_eq_some_iff.1 hi').1
        rwa [List.length_range] at this
      rw [List.getElem?_range hil] at hi'
      cases hi'
      rw [dif_pos hil]
      have := Classical.choose_spec (each i hil)
      exact ⟨this.1, this.2.1⟩
    · obtain ⟨i, hi', rfl⟩ := List.mem_map.1 hy
      have hil := List.mem_range.1 hi'
      rw [dif_pos hil]
      exact (Classical.choose_spec (each i hil)).2.2
theorem noise_sized {a4 : Option Addr} {len4 cap4 : Nat} {d4 : DataW H} {p4 : List MemPlace} {ts : List TypeId} {ds : List (DataW H)} {j : Nat} (hsz : (DataW.weightsEach Try.prog ts ds).all (· ≤ reachBytes) = true) (ht : ts[j]? = some 23) (hd : ds[j]? = some d4)
    (h : DataW.Trod enc Try.prog W 0 (fun _ => true) true 23 (.slice a4 len4 cap4) d4 p4) : len4 * 24 ≤ 140737488351232 := by
  obtain ⟨fuel, hf⟩ := h
  rcases open_slice_pairs Try.underlying23 Try.underlying41 (by kernel_rfl) rfl rfl (by kernel_rfl) (by kernel_rfl) hf with ⟨hcs, _⟩ | ⟨x, l, c, m, n, V0, V1, D0, D1, P0, P1, hcs, _, hl, hm, hmm, hx, hi⟩
  · simp [Value.cells] at hcs
    obtain ⟨rfl, rfl, rfl⟩ := hcs
    simp
  · simp [Value.cells] at hcs
    obtain ⟨rfl, rfl, rfl⟩ := hcs
    obtain ⟨hx, _⟩ := Prod.mk.inj hx
    subst hx
    have z := sized_slice hsz ht hd Try.underlying23
    rw [List.length_map, List.length_range, show Try.prog.bytesOf 41 = 24 by kernel_rfl] at z
    have hr : reachBytes = 140737488351232 := rfl
    rw [hr] at z
    exact Nat.le_trans (Nat.mul_le_mul_right _ (Nat.le_add_right _ _)) z
end
def StripeReadsMain (k : Nat) (l0 : List Int) (a1 : ByteArray) (a2 a3 : Int) (l4 : List S41) : Prop :=
  ∃ (n a r t : Nat) (p1 p2 p3 kk ww sz e2 : Int) (u2 u3 : ByteArray) (dg : List Int) (l part : List S41) (RB : S41 → Bool), 1 ≤ a ∧ a ≤ 9 ∧ 1 ≤ n ∧ n ≤ a ∧
    storagebartermake_Code.f l0 0 = some ((n : Int), (a : Int), p1) ∧ storagebartermake_Mod.f a2 4294967294 = some kk ∧ storagebartermake_Mod.f a3 4294967294 = some ww ∧
    stripe_Make.f k n a a1 kk = some ((n : Int), (a : Int), sz, dg, l, 0) ∧ l.length = a ∧ storagebartermake_Deck_Next.f l0 p1 ((a : Int) - n + 1) = some ((r : Int), p2) ∧ t = n + r ∧ r ≤ a ∧
    storagebarterlaw13_some.f l0 p2 l t = some (part, p3) ∧ n ≤ part.length ∧ part.length ≤ 9 ∧
    (∀ x, x ∈ l4 → stripe_Right.f k n a sz dg x.f0 x.f1 = some (RB x)) ∧
    stripe_Read.f k n a sz dg ((l4.filter fun x => !RB x) ++ part) kk = some (a1, 0) ∧
    stripe_Read.f k n a sz dg part ww = some (u2, e2) ∧ ((kk = ww ∧ e2 = 0) ∨ (kk ≠ ww ∧ e2 = 9)) ∧
    stripe_Read.f k n a sz dg (part.take (n - 1)) kk = some (u3, 14)
def storagebarterlaw13_StripeReads.Pure : Prop := ∀ (l0 : List Int) (a1 : ByteArray) (a2 a3 : Int) (l4 : List S41), (Lit.int .i64 a2).wf = true → (Lit.int .i64 a3).wf = true → (∀ x, x ∈ l4 → (Lit.int .i64 x.f0).wf = true) → l4.length ≤ 5864062014634 →
  ∃ k b, storagebarterlaw13_small.f k l4 = some b ∧ (l0.length ≤ 500 → a1.size ≤ 500 → b = true → StripeReadsMain k l0 a1 a2 a3 l4)
set_option maxHeartbeats 600000 in
set_option maxRecDepth 100000 in
theorem storagebarterlaw13_StripeReads.early (k : Nat) (b : Bool) (A0 : Option Addr) (c0 : Nat) (l0 : List Int) (a1 : ByteArray) (a2 a3 : Int) (A4 : Option Addr) (c4 : Nat) (l4 : List S41) (w : World)
    (hr0 : Kd.C (Kd.int .i64) w A0 l0.length l0) (hc0 : l0.length ≤ c0) (hr4 : Kd.C k41 w A4 l4.length l4) (hc4 : l4.length ≤ c4) (hSm : storagebarterlaw13_small.f k l4 = some b) (hno : ¬ (l0.length ≤ 500 ∧ a1.size ≤ 500 ∧ b = true)) :
    Calls Try.prog 3 #[.slice A0 l0.length c0, .string a1, .int .i64 a2, .int .i64 a3, .slice A4 l4.length c4] w fun e w' => e = .returned (.bool true) ∧ Below w.heap.size w w' := by
  have HR0 := Aside0.mk hr0
  have HC0 := Aside0.mk hc0
  have HR4 := Aside0.mk hr4
  have HC4 := Aside0.mk hc4
  have HSM := Aside0.mk hSm
  clear hr0 hc0 hr4 hc4 hSm
  by_cases hF : l0.length ≤ 500
  · have HF := Aside0.mk (show storagebartermake_Few.f l0 = some true by unfold storagebartermake_Few.f; rw [decide_eq_true (by omega)])
    by_cases hz : a1.size ≤ 500
    · have d1 : decide ((a1.size : Int) > 500) = false := decide_eq_false (by omega)
      have hb : b = false := by
        cases b with
        | true => exact absurd ⟨hF, hz, rfl⟩ hno
        | false => rfl
      subst hb
      clear hF hno hz
      go_enter Try.func3, Try.ntmps3
      go_wp2_with fail
      refine (storagebarterlaw13_sane.holds w).mono ?_
      rintro e w1 ⟨rfl, hb1⟩
      have HB1 := Aside0.mk hb1
      clear hb1
      go_wp2_with fail
      refine (storagebartermake_Few.calls _ _ l0 true _ (Kd.C_below HR0.out HB1.out) HC0.out HF.out).mono ?_
      rintro e w2 ⟨rfl, ⟨nd, rfl⟩⟩
      have HB1 := Aside0.mk (pw_below_drewN HB1.out nd)
      go_wp2_with fail
      refine (storagebarterlaw13_small.calls k A4 c4 l4 false _ (Kd.C_below HR4.out HB1.out) HC4.out HSM.out).mono ?_
      rintro e w2b ⟨rfl, hb2⟩
      have HB1 := Aside0.mk (below_step HB1.out hb2)
      clear hb2
      go_wp2_with fail
      go_ret
      exact ⟨rfl, HB1.out⟩
    · have d1 : decide ((a1.size : Int) > 500) = true := decide_eq_true (by omega)
      clear hF hno hz
      go_enter Try.func3, Try.ntmps3
      go_wp2_with fail
      refine (storagebarterlaw13_sane.holds w).mono ?_
      rintro e w1 ⟨rfl, hb1⟩
      have HB1 := Aside0.mk hb1
      clear hb1
      go_wp2_with fail
      refine (storagebartermake_Few.calls _ _ l0 true _ (Kd.C_below HR0.out HB1.out) HC0.out HF.out).mono ?_
      rintro e w2 ⟨rfl, ⟨nd, rfl⟩⟩
      go_wp2_with fail
      go_ret
      exact ⟨rfl, pw_below_drewN HB1.out _⟩
  · have HF := Aside0.mk (show storagebartermake_Few.f l0 = some false by unfold storagebartermake_Few.f; rw [decide_eq_false (by omega)])
    clear hF hno
    go_enter Try.func3, Try.ntmps3
    go_wp2_with fail
    refine (storagebarterlaw13_sane.holds w).mono ?_
    rintro e w1 ⟨rfl, hb1⟩
    have HB1 := Aside0.mk hb1
    clear hb1
    go_wp2_with fail
    refine (storagebartermake_Few.calls _ _ l0 false _ (Kd.C_below HR0.out HB1.out) HC0.out HF.out).mono ?_
    rintro e w2 ⟨rfl, ⟨nd, rfl⟩⟩
    go_wp2_with fail
    go_ret
    exact ⟨rfl, pw_below_drewN HB1.out _⟩
theorem storagebarterlaw13_StripeReads.walk (P : storagebarterlaw13_StripeReads.Pure) (a0 : Option Addr) (len0 cap0 : Nat) (z0 : List Int) (a1 : ByteArray) (a2 a3 : Int) (a4 : Option Addr) (len4 cap4 : Nat) (z4 : List S41) (w : World) (w0 : (a0 = none ∧ len0 = 0 ∧ cap0 = 0 ∧ z0 = []) ∨ ∃ x, a0 = some x ∧ len0 ≤ cap0 ∧ cap0 ≤ maxLen ∧ z0.length = cap0 ∧ (∀ i, i < z0.length → w.cell? (x.add i) = some (.int .i64 (z0.getD i 0))) ∧ ∀ n ∈ z0, (Lit.int .i64 n).wf = true) (y0 : len0 * 8 ≤ 140737488351232) (w1 : a1.size ≤ 140737488351232) (w2 : (Lit.int .i64 a2).wf = true) (w3 : (Lit.int .i64 a3).wf = true) (w4 : NoiseRow w a4 len4 cap4 z4) (y4 : len4 * 24 ≤ 140737488351232) :
    Calls Try.prog 3 #[.slice a0 len0 cap0, .string a1, .int .i64 a2, .int .i64 a3, .slice a4 len4 cap4] w fun e w' => e = .returned (.bool true) ∧ Below w.heap.size w w' := by
  obtain ⟨l0, rfl, hr0, hm0, hw0, hc0⟩ := ReadsInt.ofRowC w0
  have hr := Kd.C_of_reads (d := (0 : Int)) (h1 := fun _ => rfl) hr0
  obtain ⟨rfl, hc4, hr4, hwf⟩ := w4
  obtain ⟨k, b, hSm, hM⟩ := P l0 a1 a2 a3 z4 w2 w3 hwf (by omega)
  by_cases hno : l0.length ≤ 500 ∧ a1.size ≤ 500 ∧ b = true
  · obtain ⟨h1, h2, rfl⟩ := hno
    obtain ⟨n, a, r, t, p1, p2, p3, kk, ww, sz, e2, u2, u3, dg, l, part, RB, q1, q2, q3, q4, q5, q6, q7, q8, q9, q10, q11, q12, q13, q14, q15, q16, q17, q18, q19, q20⟩ := hM h1 h2 rfl
    exact storagebarterlaw13_StripeReads.main k _ _ l0 a1 a2 a3 a4 cap4 z4 n a r t p1 p2 p3 kk ww sz e2 u2 u3 dg l part RB w hr hc0 hr4 hc4 y4 q1 q2 q3 q4 (by unfold storagebartermake_Few.f; rw [decide_eq_true (by omega)]) h2 hSm q5 q6 q7 q8 q9 q10 q11 q12 q13 q14 q15 q16 q17 q18 q19 q20
  · exact storagebarterlaw13_StripeReads.early k b _ _ l0 a1 a2 a3 a4 cap4 z4 w hr hc0 hr4 hc4 hSm hno
#print axioms storagebarterlaw13_StripeReads.walk
end Go.Proofs.Ythfddndmhjkeiaa.L
end
section
/- The plain law of the erasure code, part A: the field, bytes, combine, shard. -/
namespace Go.Proofs.Ythfddndmhjkeiaa.L
open Go.RowKit Go.Proofs.YthfddndmhjkeiaaW.PrintWords Go.Proofs.YthfddndmhjkeiaaW.PrintLast Go.Proofs.YthfddndmhjkeiaaW.PrintMore
set_option linter.unusedVariables false
set_option linter.unusedSimpArgs false

/-! ### more rounds -/
theorem upk {α : Type} {g : Nat → Option α} (h : ∀ k, LeO (g k) (g (k + 1))) {k k' : Nat} (hk : k ≤ k') {r : α} (hr : g k = some r) : g k' = some r := by
  have := more_rounds h k (k' - k) r hr
  rwa [Nat.add_sub_cancel' hk] at this

/-! ### the field -/
theorem f_dist : ∀ a b c : Fin 16, gm a.1 (gx b.1 c.1) = gx (gm a.1 b.1) (gm a.1 c.1) ∧ gm (gx b.1 c.1) a.1 = gx (gm b.1 a.1) (gm c.1 a.1) := by decide +kernel
theorem f_assoc : ∀ a b c : Fin 16, gm a.1 (gm b.1 c.1) = gm (gm a.1 b.1) c.1 ∧ gx a.1 (gx b.1 c.1) = gx (gx a.1 b.1) c.1 := by decide +kernel
theorem f_comm : ∀ a b : Fin 16, gx a.1 b.1 = gx b.1 a.1 ∧ gx a.1 0 = a.1 ∧ gx 0 a.1 = a.1 ∧ gm a.1 0 = 0 ∧ gm 0 a.1 = 0 ∧ gm 1 a.1 = a.1 ∧ gm a.1 1 = a.1 := by decide +kernel
theorem gm_gx {a b c : Int} (ha : El a) (hb : El b) (hc : El c) : gm a (gx b c) = gx (gm a b) (gm a c) := by
  obtain ⟨i, rfl⟩ := ha.fin; obtain ⟨j, rfl⟩ := hb.fin; obtain ⟨k, rfl⟩ := hc.fin
  exact (f_dist i j k).1
theorem gx_gm {a b c : Int} (ha : El a) (hb : El b) (hc : El c) : gm (gx b c) a = gx (gm b a) (gm c a) := by
  obtain ⟨i, rfl⟩ := ha.fin; obtain ⟨j, rfl⟩ := hb.fin; obtain ⟨k, rfl⟩ := hc.fin
  exact (f_dist i j k).2
theorem gm_gm {a b c : Int} (ha : El a) (hb : El b) (hc : El c) : gm a (gm b c) = gm (gm a b) c := by
  obtain ⟨i, rfl⟩ := ha.fin; obtain ⟨j, rfl⟩ := hb.fin; obtain ⟨k, rfl⟩ := hc.fin
  exact (f_assoc i j k).1
theorem gx_gx {a b c : Int} (ha : El a) (hb : El b) (hc : El c) : gx a (gx b c) = gx (gx a b) c := by
  obtain ⟨i, rfl⟩ := ha.fin; obtain ⟨j, rfl⟩ := hb.fin; obtain ⟨k, rfl⟩ := hc.fin
  exact (f_assoc i j k).2
theorem gx_comm {a b : Int} (ha : El a) (hb : El b) : gx a b = gx b a := by
  obtain ⟨i, rfl⟩ := ha.fin; obtain ⟨j, rfl⟩ := hb.fin
  exact (f_comm i j).1
theorem gx_0 {a : Int} (ha : El a) : gx a 0 = a ∧ gx 0 a = a ∧ gm a 0 = 0 ∧ gm 0 a = 0 ∧ gm 1 a = a ∧ gm a 1 = a := by
  obtain ⟨i, rfl⟩ := ha.fin
  exact (f_comm i i).2
theorem El0 : El 0 := ⟨by decide, by decide⟩
theorem El1 : El 1 := ⟨by decide, by decide⟩
/-- The sum of n elements. -/
def gsum (n : Nat) (F : Nat → Int) : Int := match n with
  | 0 => 0
  | n + 1 => gx (gsum n F) (F n)
theorem gsum_el {F : Nat → Int} : ∀ n, (∀ j, j < n → El (F j)) → El (gsum n F)
  | 0, _ => El0
  | n + 1, h => gx_el (gsum_el n fun j hj => h j (by omega)) (h n (by omega))
theorem gsum_congr {F G : Nat → Int} : ∀ n, (∀ j, j < n → F j = G j) → gsum n F = gsum n G
  | 0, _ => rfl
  | n + 1, h => by
    show gx _ _ = gx _ _
    rw [gsum_congr n fun j hj => h j (by omega), h n (by omega)]
theorem gsum_zero : ∀ n, gsum n (fun _ => 0) = 0
  | 0 => rfl
  | n + 1 => by
    show gx _ _ = _
    rw [gsum_zero n]
    exact (gx_0 El0).1
theorem gsum_mul {F : Nat → Int} {c : Int} (hc : El c) : ∀ n, (∀ j, j < n → El (F j)) → gm c (gsum n F) = gsum n fun j => gm c (F j)
  | 0, _ => (gx_0 hc).2.2.1
  | n + 1, h => by
    show gm c (gx _ _) = gx _ _
    rw [gm_gx hc (gsum_el n fun j hj => h j (by omega)) (h n (by omega)), gsum_mul hc n fun j hj => h j (by omega)]
theorem gsum_mul' {F : Nat → Int} {c : Int} (hc : El c) : ∀ n, (∀ j, j < n → El (F j)) → gm (gsum n F) c = gsum n fun j => gm (F j) c
  | 0, _ => (gx_0 hc).2.2.2.1
  | n + 1, h => by
    show gm (gx _ _) c = gx _ _
    rw [gx_gm hc (gsum_el n fun j hj => h j (by omega)) (h n (by omega)), gsum_mul' hc n fun j hj => h j (by omega)]
theorem gsum_add {F G : Nat → Int} : ∀ n, (∀ j, j < n → El (F j)) → (∀ j, j < n → El (G j)) → (gsum n fun j => gx (F j) (G j)) = gx (gsum n F) (gsum n G)
  | 0, _, _ => ((gx_0 El0).1).symm
  | n + 1, hF, hG => by
    have e1 := gsum_el n fun j hj => hF j (Nat.lt_succ_of_lt hj)
    have e2 := gsum_el n fun j hj => hG j (Nat.lt_succ_of_lt hj)
    have e3 := hF n (Nat.lt_succ_self n)
    have e4 := hG n (Nat.lt_succ_self n)
    show gx _ (gx _ _) = gx (gx _ _) (gx _ _)
    rw [gsum_add n (fun j hj => hF j (Nat.lt_succ_of_lt hj)) (fun j hj => hG j (Nat.lt_succ_of_lt hj))]
    rw [← gx_gx e1 e2 (gx_el e3 e4), gx_gx e2 e3 e4, gx_comm e2 e3, ← gx_gx e3 e2 e4, gx_gx e1 e3 (gx_el e2 e4)]
theorem gsum_swap {F : Nat → Nat → Int} (m : Nat) : ∀ n, (∀ i j, i < n → j < m → El (F i j)) → (gsum n fun i => gsum m fun j => F i j) = gsum m fun j => gsum n fun i => F i j
  | 0, _ => (gsum_zero m).symm
  | n + 1, h => by
    show gx _ _ = gsum m fun j => gx _ _
    rw [gsum_swap m n fun i j hi hj => h i j (by omega) hj, gsum_add m (fun j hj => gsum_el n fun i hi => h i j (by omega) hj) (fun j hj => h n j (by omega) hj)]
/-- Only one element is not nought. -/
theorem gsum_unit {F : Nat → Int} {i : Nat} : ∀ n, (∀ j, j < n → El (F j)) → (gsum n fun j => gm (if i = j then 1 else 0) (F j)) = if i < n then F i else 0
  | 0, _ => by simp [gsum]
  | n + 1, h => by
    show gx _ (gm (if i = n then 1 else 0) (F n)) = _
    rw [gsum_unit n fun j hj => h j (by omega)]
    have hn := h n (by omega)
    by_cases e : i = n
    · subst e
      rw [if_neg (by omega), if_pos rfl, if_pos (by omega), (gx_0 hn).2.2.2.2.1, (gx_0 hn).2.1]
    · rw [if_neg e, (gx_0 hn).2.2.2.1]
      by_cases hi : i < n
      · rw [if_pos hi, if_pos (by omega), (gx_0 (h i (by omega))).1]
      · rw [if_neg hi, if_neg (by omega), (gx_0 El0).1]
/-- What was made by P and is taken back by Q. -/
theorem back {n : Nat} {Q P : Nat → Nat → Int} {x : Nat → Int} (hQ : ∀ i j, i < n → j < n → El (Q i j)) (hP : ∀ i j, i < n → j < n → El (P i j)) (hx : ∀ j, j < n → El (x j))
    (hI : ∀ i j, i < n → j < n → (gsum n fun l => gm (Q i l) (P l j)) = if i = j then 1 else 0) {i : Nat} (hi : i < n) : (gsum n fun l => gm (Q i l) (gsum n fun j => gm (P l j) (x j))) = x i := by
  have e1 : (gsum n fun l => gm (Q i l) (gsum n fun j => gm (P l j) (x j))) = gsum n fun l => gsum n fun j => gm (gm (Q i l) (P l j)) (x j) := by
    refine gsum_congr n fun l hl => ?_
    rw [gsum_mul (hQ i l hi hl) n fun j hj => gm_el (hP l j hl hj) (hx j hj)]
    exact gsum_congr n fun j hj => gm_gm (hQ i l hi hl) (hP l j hl hj) (hx j hj)
  rw [e1, gsum_swap n n fun l j hl hj => gm_el (gm_el (hQ i l hi hl) (hP l j hl hj)) (hx j hj)]
  have e2 : (gsum n fun j => gsum n fun l => gm (gm (Q i l) (P l j)) (x j)) = gsum n fun j => gm (if i = j then 1 else 0) (x j) := by
    refine gsum_congr n fun j hj => ?_
    rw [← gsum_mul' (hx j hj) n fun l hl => gm_el (hQ i l hi hl) (hP l j hl hj), hI i j hi hj]
  rw [e2, gsum_unit n hx, if_pos hi]

/-! ### bytes -/
def By (b : Int) : Prop := 0 ≤ b ∧ b ≤ 255
theorem By.fin {a : Int} (h : By a) : ∃ i : Fin 256, a = (i.1 : Int) := ⟨⟨a.toNat, by unfold By at h; omega⟩, by unfold By at h; simp; omega⟩
def lo (b : Int) : Int := Go.bits .and .i64 b 15
def hi (b : Int) : Int := Go.bits .and .i64 (b / 16) 15
def x8 (a b : Int) : Int := Go.bits .xor .u8 a b
def pack (l h : Int) : Int := (Go.bits .or .i64 l (wrap64 (h * 16))) % 256
def mulb (c b : Int) : Int := pack (gm c (lo b)) (gm c (hi b))
theorem b_nib : ∀ a : Fin 256, El (lo a.1) ∧ El (hi a.1) ∧ (a.1 : Int) = lo a.1 + 16 * hi a.1 := by
  unfold El
  decide +kernel
theorem b_pack : ∀ a b : Fin 16, By (pack a.1 b.1) ∧ lo (pack a.1 b.1) = a.1 ∧ hi (pack a.1 b.1) = b.1 := by
  unfold By
  decide +kernel
theorem b_nat : ∀ a : Fin 256, lo a.1 = ((a.1 % 16 : Nat) : Int) ∧ hi a.1 = ((a.1 / 16 : Nat) : Int) := by decide +kernel
theorem gx_nat : ∀ a b : Fin 16, gx a.1 b.1 = ((a.1 ^^^ b.1 : Nat) : Int) := by decide +kernel
theorem x8_nat {m n : Nat} (hm : m < 256) (hn : n < 256) : x8 m n = ((m ^^^ n : Nat) : Int) := by
  have hx : m ^^^ n < 256 := Nat.xor_lt_two_pow (n := 8) hm hn
  show IntKind.u8.wrap (((BitVec.ofInt 8 (m : Int) ^^^ BitVec.ofInt 8 (n : Int) : BitVec 8).toNat : Nat) : Int) = _
  rw [BitVec.toNat_xor, BitVec.ofInt_natCast, BitVec.ofInt_natCast, BitVec.toNat_ofNat, BitVec.toNat_ofNat, Nat.mod_eq_of_lt (show m < 2 ^ 8 from hm), Nat.mod_eq_of_lt (show n < 2 ^ 8 from hn)]
  generalize m ^^^ n = q at hx
  rw [IntKind.wrap_u8]
  omega
theorem b_x8 {a b : Int} (ha : By a) (hb : By b) : By (x8 a b) ∧ lo (x8 a b) = gx (lo a) (lo b) ∧ hi (x8 a b) = gx (hi a) (hi b) := by
  obtain ⟨i, rfl⟩ := ha.fin
  obtain ⟨j, rfl⟩ := hb.fin
  have hx : i.1 ^^^ j.1 < 256 := Nat.xor_lt_two_pow (n := 8) i.2 j.2
  rw [x8_nat i.2 j.2]
  have h1 := b_nat ⟨i.1 ^^^ j.1, hx⟩
  have h2 := b_nat i
  have h3 := b_nat j
  simp only at h1
  rw [h1.1, h1.2, h2.1, h2.2, h3.1, h3.2]
  have e1 := gx_nat ⟨i.1 % 16, by omega⟩ ⟨j.1 % 16, by omega⟩
  have e2 := gx_nat ⟨i.1 / 16, by omega⟩ ⟨j.1 / 16, by omega⟩
  simp only at e1 e2
  rw [e1, e2]
  refine ⟨⟨by omega, by omega⟩, ?_, ?_⟩
  · rw [Nat.xor_mod_two_pow (n := 4)]
  · rw [Nat.xor_div_two_pow (n := 4)]
end Go.Proofs.Ythfddndmhjkeiaa.L
end
section
/- The plain law of the erasure code, part I1: every square part of a Cauchy matrix over the field of 16 elements has no kernel. -/
namespace Go.Proofs.Ythfddndmhjkeiaa.L
open Go.RowKit Go.Proofs.YthfddndmhjkeiaaW.PrintWords Go.Proofs.YthfddndmhjkeiaaW.PrintLast Go.Proofs.YthfddndmhjkeiaaW.PrintMore
set_option linter.unusedVariables false
set_option linter.unusedSimpArgs false

/-! ### more of the field -/
theorem f_comm2 : ∀ a b : Fin 16, gm a.1 b.1 = gm b.1 a.1 ∧ gx a.1 a.1 = 0 ∧ (gm a.1 b.1 = 0 → a = 0 ∨ b = 0) ∧ (gx a.1 b.1 = 0 → a = b) := by decide +kernel
theorem f_inv : ∀ a : Fin 16, a ≠ 0 → gm a.1 (ginv a.1) = 1 ∧ ginv a.1 ≠ 0 := by decide +kernel
theorem f_cauchy : ∀ u v t : Fin 16, u ≠ 0 → v ≠ 0 → gx (gm (gx u.1 t.1) (ginv u.1)) (gm (gx v.1 t.1) (ginv v.1)) = gm (gm (gx u.1 v.1) t.1) (gm (ginv u.1) (ginv v.1)) := by decide +kernel
theorem f_shift : ∀ a b c : Fin 16, gx (gx a.1 c.1) (gx b.1 c.1) = gx a.1 b.1 := by decide +kernel
theorem gm_comm {a b : Int} (ha : El a) (hb : El b) : gm a b = gm b a := by
  obtain ⟨i, rfl⟩ := ha.fin; obtain ⟨j, rfl⟩ := hb.fin
  exact (f_comm2 i j).1
theorem gx_self {a : Int} (ha : El a) : gx a a = 0 := by
  obtain ⟨i, rfl⟩ := ha.fin
  exact (f_comm2 i i).2.1
theorem fin_ne {i : Fin 16} (h : (i.1 : Int) ≠ 0) : i ≠ 0 := by
  rintro rfl
  exact h rfl
theorem gm_zero {a b : Int} (ha : El a) (hb : El b) (h : gm a b = 0) : a = 0 ∨ b = 0 := by
  obtain ⟨i, rfl⟩ := ha.fin; obtain ⟨j, rfl⟩ := hb.fin
  rcases (f_comm2 i j).2.2.1 h with rfl | rfl
  · exact .inl rfl
  · exact .inr rfl
theorem gx_zero {a b : Int} (ha : El a) (hb : El b) (h : gx a b = 0) : a = b := by
  obtain ⟨i, rfl⟩ := ha.fin; obtain ⟨j, rfl⟩ := hb.fin
  rw [(f_comm2 i j).2.2.2 h]
theorem gm_ginv {a : Int} (ha : El a) (h : a ≠ 0) : gm a (ginv a) = 1 ∧ ginv a ≠ 0 := by
  obtain ⟨i, rfl⟩ := ha.fin
  exact f_inv i (fin_ne h)
theorem gm_left {a b c : Int} (ha : El a) (hb : El b) (hc : El c) : gm a (gm b c) = gm b (gm a c) := by
  rw [gm_gm ha hb hc, gm_comm ha hb, ← gm_gm hb ha hc]
/-- The one identity that the proof needs. -/
theorem cauchy_id {i a b j : Int} (hi : El i) (ha : El a) (hb : El b) (hj : El j) (h1 : i ≠ j) (h2 : a ≠ j) :
    gx (gm (gx i b) (ginv (gx i j))) (gm (gx a b) (ginv (gx a j))) = gm (gm (gx i a) (gx j b)) (gm (ginv (gx i j)) (ginv (gx a j))) := by
  obtain ⟨u, hu⟩ := (gx_el hi hj).fin
  obtain ⟨v, hv⟩ := (gx_el ha hj).fin
  obtain ⟨t, ht⟩ := (gx_el hj hb).fin
  have hu0 : u ≠ 0 := fin_ne (fun e => h1 (gx_zero hi hj (by rw [hu]; exact e)))
  have hv0 : v ≠ 0 := fin_ne (fun e => h2 (gx_zero ha hj (by rw [hv]; exact e)))
  have h := f_cauchy u v t hu0 hv0
  have s1 : gx i b = gx u.1 t.1 := by
    rw [← hu, ← ht, gx_gx (gx_el hi hj) hj hb, ← gx_gx hi hj hj, gx_self hj, (gx_0 hi).1]
  have s2 : gx a b = gx v.1 t.1 := by
    rw [← hv, ← ht, gx_gx (gx_el ha hj) hj hb, ← gx_gx ha hj hj, gx_self hj, (gx_0 ha).1]
  have s3 : gx i a = gx u.1 v.1 := by
    rw [← hu, ← hv]
    obtain ⟨i', rfl⟩ := hi.fin; obtain ⟨a', rfl⟩ := ha.fin; obtain ⟨j', rfl⟩ := hj.fin
    exact (f_shift i' a' j').symm
  rw [s1, s2, s3, hu, hv, ht]
  exact h
/-- The sum over a list. -/
def lsum {α : Type} (l : List α) (F : α → Int) : Int := match l with
  | [] => 0
  | x :: l => gx (F x) (lsum l F)
theorem lsum_el {α : Type} {F : α → Int} : ∀ l : List α, (∀ j, j ∈ l → El (F j)) → El (lsum l F)
  | [], _ => El0
  | x :: l, h => gx_el (h x (List.mem_cons_self ..)) (lsum_el l fun j hj => h j (List.mem_cons_of_mem _ hj))
theorem lsum_congr {α : Type} {F G : α → Int} : ∀ l : List α, (∀ j, j ∈ l → F j = G j) → lsum l F = lsum l G
  | [], _ => rfl
  | x :: l, h => by
    show gx _ _ = gx _ _
    rw [h x (List.mem_cons_self ..), lsum_congr l fun j hj => h j (List.mem_cons_of_mem _ hj)]
theorem lsum_zero {α : Type} {F : α → Int} : ∀ l : List α, (∀ j, j ∈ l → F j = 0) → lsum l F = 0
  | [], _ => rfl
  | x :: l, h => by
    show gx _ _ = _
    rw [h x (List.mem_cons_self ..), lsum_zero l fun j hj => h j (List.mem_cons_of_mem _ hj)]
    exact (gx_0 El0).1
theorem lsum_mul {α : Type} {F : α → Int} {c : Int} (hc : El c) : ∀ l : List α, (∀ j, j ∈ l → El (F j)) → gm c (lsum l F) = lsum l fun j => gm c (F j)
  | [], _ => (gx_0 hc).2.2.1
  | x :: l, h => by
    have h1 := h x (List.mem_cons_self ..)
    have h2 := fun j hj => h j (List.mem_cons_of_mem x hj)
    show gm c (gx _ _) = gx _ _
    rw [gm_gx hc h1 (lsum_el l h2), lsum_mul hc l h2]
theorem lsum_add {α : Type} {F G : α → Int} : ∀ l : List α, (∀ j, j ∈ l → El (F j)) → (∀ j, j ∈ l → El (G j)) → (lsum l fun j => gx (F j) (G j)) = gx (lsum l F) (lsum l G)
  | [], _, _ => ((gx_0 El0).1).symm
  | x :: l, hF, hG => by
    have f1 := hF x (List.mem_cons_self ..)
    have f2 := fun j hj => hF j (List.mem_cons_of_mem x hj)
    have g1 := hG x (List.mem_cons_self ..)
    have g2 := fun j hj => hG j (List.mem_cons_of_mem x hj)
    have e1 := lsum_el l f2
    have e2 := lsum_el l g2
    show gx (gx _ _) _ = gx (gx _ _) (gx _ _)
    rw [lsum_add l f2 g2, ← gx_gx f1 g1 (gx_el e1 e2), gx_gx g1 e1 e2, gx_comm g1 e1, ← gx_gx e1 g1 e2, gx_gx f1 e1 (gx_el g1 e2)]
theorem lsum_append {α : Type} {F : α → Int} (l' : List α) (h' : ∀ j, j ∈ l' → El (F j)) : ∀ l : List α, (∀ j, j ∈ l → El (F j)) → lsum (l ++ l') F = gx (lsum l F) (lsum l' F)
  | [], _ => ((gx_0 (lsum_el l' h')).2.1).symm
  | x :: l, h => by
    have h1 := h x (List.mem_cons_self ..)
    have h2 := fun j hj => h j (List.mem_cons_of_mem x hj)
    show gx (F x) (lsum (l ++ l') F) = gx (gx _ _) _
    rw [lsum_append l' h' l h2, gx_gx h1 (lsum_el l h2) (lsum_el l' h')]
theorem lsum_filter {α : Type} {F : α → Int} (p : α → Bool) : ∀ l : List α, (∀ j, j ∈ l → El (F j)) → (∀ j, j ∈ l → p j = false → F j = 0) → lsum (l.filter p) F = lsum l F
  | [], _, _ => rfl
  | x :: l, h, hz => by
    have h1 := h x (List.mem_cons_self ..)
    have h2 := fun j hj => h j (List.mem_cons_of_mem x hj)
    have ih := lsum_filter p l h2 fun j hj => hz j (List.mem_cons_of_mem x hj)
    rw [List.filter_cons]
    split
    · show gx _ _ = gx _ _
      rw [ih]
    · rename_i e
      show _ = gx _ _
      rw [ih, hz x (List.mem_cons_self ..) (by simpa using e), (gx_0 (lsum_el l h2)).2.1]
theorem gsum_lsum {F : Nat → Int} : ∀ n, (∀ j, j < n → El (F j)) → gsum n F = lsum (List.range n) F
  | 0, _ => rfl
  | n + 1, h => by
    have h1 : ∀ j, j ∈ List.range n → El (F j) := fun j hj => h j (by have := List.mem_range.1 hj; omega)
    have h2 : ∀ j, j ∈ [n] → El (F j) := fun j hj => by rw [List.mem_singleton.1 hj]; exact h n (by omega)
    rw [List.range_succ, lsum_append [n] h2 _ h1, ← gsum_lsum n fun j hj => h j (by omega)]
    show gx _ _ = gx _ (gx _ _)
    rw [show lsum ([] : List Nat) F = 0 from rfl, (gx_0 (h n (by omega))).1]
/-- One step's term. -/
theorem cauchy_term {x p q c1 c2 ia jb : Int} (hx : El x) (hp : El p) (hq : El q) (h1 : El c1) (h2 : El c2) (hi : El ia) (hj : El jb) (h : gx (gm c1 p) (gm c2 q) = gm (gm ia jb) (gm p q)) :
    gx (gm c1 (gm x p)) (gm c2 (gm x q)) = gm ia (gm (gm x (gm jb q)) p) := by
  rw [gm_left h1 hx hp, gm_left h2 hx hq, ← gm_gx hx (gm_el h1 hp) (gm_el h2 hq), h, ← gm_gm hi hj (gm_el hp hq), gm_left hx hi (gm_el hj (gm_el hp hq)), gm_comm hp hq, gm_gm hj hq hp, gm_gm hx (gm_el hj hq) hp]
/-- A row of elements that all rows of a square part of a Cauchy matrix take to nought is nought. -/
theorem cauchy {al be : Nat → Int} : ∀ (J I : List Nat) (x : Nat → Int), J.Pairwise (fun a b => be a ≠ be b) → I.Pairwise (fun a b => al a ≠ al b) → (∀ j, j ∈ J → El (be j)) → (∀ i, i ∈ I → El (al i)) →
    (∀ i, i ∈ I → ∀ j, j ∈ J → al i ≠ be j) → (∀ j, j ∈ J → El (x j)) → J.length ≤ I.length → (∀ i, i ∈ I → lsum J (fun j => gm (x j) (ginv (gx (al i) (be j)))) = 0) → ∀ j, j ∈ J → x j = 0
  | [], _, _, _, _, _, _, _, _, _, _ => fun j hj => absurd hj (List.not_mem_nil)
  | b :: J, [], _, _, _, _, _, _, _, hl, _ => by simp at hl
  | b :: J, a :: I, x, hJ, hI, eJ, eI, hne, ex, hl, hs => by
    have hJ' := List.pairwise_cons.1 hJ
    have hI' := List.pairwise_cons.1 hI
    have eb := eJ b (List.mem_cons_self ..)
    have ea := eI a (List.mem_cons_self ..)
    have xb := ex b (List.mem_cons_self ..)
    have eJ' := fun j hj => eJ j (List.mem_cons_of_mem b hj)
    have eI' := fun i hi => eI i (List.mem_cons_of_mem a hi)
    have ex' := fun j hj => ex j (List.mem_cons_of_mem b hj)
    have hab := hne a (List.mem_cons_self ..) b (List.mem_cons_self ..)
    have eg : ∀ i, El i → ∀ j, j ∈ J → El (gm (x j) (ginv (gx i (be j)))) := fun i hi j hj => gm_el (ex' j hj) (ginv_el (gx_el hi (eJ' j hj)))
    have one : ∀ i, El (al i) → al i ≠ be b → lsum (b :: J) (fun j => gm (x j) (ginv (gx (al i) (be j)))) = 0 → gm (gx (al i) (be b)) (lsum J (fun j => gm (x j) (ginv (gx (al i) (be j))))) = x b := by
      intro i hi hib h0
      have hn : gx (al i) (be b) ≠ 0 := fun e => hib (gx_zero hi eb e)
      have hgi := gm_ginv (gx_el hi eb) hn
      have h1 : gm (x b) (ginv (gx (al i) (be b))) = lsum J (fun j => gm (x j) (ginv (gx (al i) (be j)))) :=
        gx_zero (gm_el xb (ginv_el (gx_el hi eb))) (lsum_el J (eg _ hi)) h0
      rw [← h1, gm_left (gx_el hi eb) xb (ginv_el (gx_el hi eb)), hgi.1, (gx_0 xb).2.2.2.2.2]
    have hxa := one a ea hab (hs a (List.mem_cons_self ..))
    have key : ∀ j, j ∈ J → gm (x j) (gm (gx (be j) (be b)) (ginv (gx (al a) (be j)))) = 0 := by
      refine cauchy J I _ hJ'.2 hI'.2 eJ' eI' (fun i hi j hj => hne i (List.mem_cons_of_mem a hi) j (List.mem_cons_of_mem b hj)) (fun j hj => gm_el (ex' j hj) (gm_el (gx_el (eJ' j hj) eb) (ginv_el (gx_el ea (eJ' j hj))))) (by simpa using hl) ?_
      intro i hi
      have hei := eI' i hi
      have hxi := one i hei (hne i (List.mem_cons_of_mem a hi) b (List.mem_cons_self ..)) (hs i (List.mem_cons_of_mem a hi))
      have hia : gx (al i) (al a) ≠ 0 := fun e => (hI'.1 i hi) (gx_zero hei ea e).symm
      have e0 : gx (gm (gx (al i) (be b)) (lsum J (fun j => gm (x j) (ginv (gx (al i) (be j)))))) (gm (gx (al a) (be b)) (lsum J (fun j => gm (x j) (ginv (gx (al a) (be j)))))) = 0 := by
        rw [hxi, hxa, gx_self xb]
      rw [lsum_mul (gx_el hei eb) J (eg _ hei), lsum_mul (gx_el ea eb) J (eg _ ea), ← lsum_add J (fun j hj => gm_el (gx_el hei eb) (eg _ hei j hj)) (fun j hj => gm_el (gx_el ea eb) (eg _ ea j hj))] at e0
      have e1 : (lsum J fun j => gx (gm (gx (al i) (be b)) (gm (x j) (ginv (gx (al i) (be j))))) (gm (gx (al a) (be b)) (gm (x j) (ginv (gx (al a) (be j)))))) =
          lsum J fun j => gm (gx (al i) (al a)) (gm (gm (x j) (gm (gx (be j) (be b)) (ginv (gx (al a) (be j))))) (ginv (gx (al i) (be j)))) := by
        refine lsum_congr J fun j hj => ?_
        exact cauchy_term (ex' j hj) (ginv_el (gx_el hei (eJ' j hj))) (ginv_el (gx_el ea (eJ' j hj))) (gx_el hei eb) (gx_el ea eb) (gx_el hei ea) (gx_el (eJ' j hj) eb)
          (cauchy_id hei ea eb (eJ' j hj) (hne i (List.mem_cons_of_mem a hi) j (List.mem_cons_of_mem b hj)) (hne a (List.mem_cons_self ..) j (List.mem_cons_of_mem b hj)))
      have ey : ∀ j, j ∈ J → El (gm (gm (x j) (gm (gx (be j) (be b)) (ginv (gx (al a) (be j))))) (ginv (gx (al i) (be j)))) := fun j hj => gm_el (gm_el (ex' j hj) (gm_el (gx_el (eJ' j hj) eb) (ginv_el (gx_el ea (eJ' j hj))))) (ginv_el (gx_el hei (eJ' j hj)))
      rw [e1, ← lsum_mul (gx_el hei ea) J ey] at e0
      rcases gm_zero (gx_el hei ea) (lsum_el J ey) e0 with h | h
      · exact absurd h hia
      · exact h
    have hz : ∀ j, j ∈ J → x j = 0 := by
      intro j hj
      have haj : gx (al a) (be j) ≠ 0 := fun e => hne a (List.mem_cons_self ..) j (List.mem_cons_of_mem b hj) (gx_zero ea (eJ' j hj) e)
      have hbj : gx (be j) (be b) ≠ 0 := fun e => hJ'.1 j hj (gx_zero (eJ' j hj) eb e).symm
      have eg2 := ginv_el (gx_el ea (eJ' j hj))
      rcases gm_zero (ex' j hj) (gm_el (gx_el (eJ' j hj) eb) eg2) (key j hj) with h | h
      · exact h
      · rcases gm_zero (gx_el (eJ' j hj) eb) eg2 h with h | h
        · exact absurd h hbj
        · exact absurd h (gm_ginv (gx_el ea (eJ' j hj)) haj).2
    intro j hj
    rcases List.mem_cons.1 hj with rfl | hj
    · rw [← hxa, lsum_zero J (fun q hq => by rw [hz q hq]; exact (gx_0 (ginv_el (gx_el ea (eJ' q hq)))).2.2.2.1), (gx_0 (gx_el ea eb)).2.2.1]
    · exact hz j hj
end Go.Proofs.Ythfddndmhjkeiaa.L
end
