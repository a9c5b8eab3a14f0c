/- Texts of this claim, put together by a small program of the session's own: F15, MSomeA, MSome, MStrA, MNotA, MForA, MFor, MForW, PA, PI1, PI2. -/
import Derived.Test.YthfddndmhjkeiaaK0
import Derived.Test.YthfddndmhjkeiaaK3
import Derived.Test.YthfddndmhjkeiaaK5
import Derived.Test.YthfddndmhjkeiaaK4
import Derived.Deep.Upon
import Derived.Deep.RegionLaw
import Derived.Test.YthfddndmhjkeiaaK6
import Derived.Test.YthfddndmhjkeiaaK2
section
-- Printed for this claim by a small program of the session's own, drv.py, round the kit's print.py. Lean checks it.
namespace Go.Proofs.Ythfddndmhjkeiaa.L
open Go.RowKit Go.Proofs.YthfddndmhjkeiaaW.PrintWords Go.Proofs.YthfddndmhjkeiaaW.PrintLast Go.Proofs.YthfddndmhjkeiaaW.PrintMore
attribute [local go_sem] max2_int min2_int max_two min_two max_three min_three max_four min_four   -- for this text's walks alone
set_option linter.unusedVariables false
set_option linter.unusedSimpArgs false

/-! ### stripe_Right: function 15 -/
def stripe_Right.f (k : Nat) (a0_0 : Int) (a0_1 : Int) (a0_2 : Int) (l0_3 : List Int) (a1_0 : Int) (a1_1 : ByteArray) : Option (Bool) := (stripe_Check.f a0_0 a0_1 a0_2 l0_3).bind fun t223 => (if t223 = 0 then ((stripe_right.f k a0_0 a0_1 a0_2 l0_3 a1_0 a1_1).bind fun t224 => (some t224)) else (some false))
theorem stripe_Right.mono : ∀ a0 a1 a2 a3 a4 a5 k, LeO (stripe_Right.f k a0 a1 a2 a3 a4 a5) (stripe_Right.f (k + 1) a0 a1 a2 a3 a4 a5) := by
  intro a0 a1 a2 a3 a4 a5 k
  unfold stripe_Right.f
  repeat' first | (with_reducible exact stripe_right.mono _ _ _ _ _ _ _) | (with_reducible exact LeO.refl _) | (with_reducible refine LeO.ite ?_ ?_) | (with_reducible refine LeO.bind ?_ (fun _ => ?_))
set_option maxHeartbeats 8000000 in
set_option maxRecDepth 100000 in
theorem stripe_Right.calls (k : Nat) (a0_0 : Int) (a0_1 : Int) (a0_2 : Int) (A0_3 : Option Addr) (c0_3 : Nat) (l0_3 : List Int) (a1_0 : Int) (a1_1 : ByteArray) (r : Bool) (w : World) (hr0_3 : Kd.C (Kd.int .i64) w A0_3 l0_3.length l0_3) (hc0_3 : l0_3.length ≤ c0_3) (h : stripe_Right.f k a0_0 a0_1 a0_2 l0_3 a1_0 a1_1 = some r) :
    Calls Try.prog 15 #[.agg #[.int .i64 a0_0, .int .i64 a0_1, .int .i64 a0_2, .slice A0_3 l0_3.length c0_3], .agg #[.int .i64 a1_0, .string a1_1]] w fun e w' => e = .returned (.bool r) ∧ Below w.heap.size w w' := by
  have hu34 := Try.underlying34
  have hu41 := Try.underlying41
  have HR0_3 := Aside0.mk hr0_3
  have HC0_3 := Aside0.mk hc0_3
  clear hr0_3 hc0_3
  have HB := Aside0.mk (Below.refl w.heap.size w)
  have H : ((stripe_Check.f a0_0 a0_1 a0_2 l0_3).bind fun t223 => (if t223 = 0 then ((stripe_right.f k a0_0 a0_1 a0_2 l0_3 a1_0 a1_1).bind fun t224 => (some t224)) else (some false))) = some r := h
  clear h
  replace H := Option.bind_eq_some_iff.mp H
  obtain ⟨t223, A30, H⟩ := H
  replace H : (if t223 = 0 then ((stripe_right.f k a0_0 a0_1 a0_2 l0_3 a1_0 a1_1).bind fun t224 => (some t224)) else (some false)) = some r := H
  have A3 := Aside0.mk A30
  clear A30
  by_cases c4 : t223 = 0
  · rw [if_pos c4] at H
    have c4b0 : (t223 == 0) = true := beq_iff_eq.mpr c4
    have c4b1 : (t223 != 0) = false := bne_eq_false_iff_eq.mpr c4
    clear c4
    replace H := Option.bind_eq_some_iff.mp H
    obtain ⟨t224, A50, H⟩ := H
    replace H : (some t224) = some r := H
    have A5 := Aside0.mk A50
    clear A50
    obtain rfl := Option.some.inj H
    go_enter Try.func15, Try.ntmps15
    go_wp2_with (first | ((with_reducible refine gate_dst (N := 2) rfl ?_); refine box_event ?hg (N := 2) ?hd (cs := #[.int .i64 a0_0, .int .i64 a0_1, .int .i64 a0_2, .slice A0_3 l0_3.length c0_3]) (t := 34) ?hr ?_; (case hd => rfl); (case hg => rfl); (case hr => (go_simp; done)); intro gb221 hg w6 hbox hb; have n0_ := Aside0.mk (below_step HB.out hb); have n1_ := Aside0.mk (hbox); have n2_ := Aside0.mk ((by rw [hg]; exact (below_size HB.out) : w.heap.size ≤ gb221)); have n3_ := Aside0.mk ((by rw [hg]; exact (below_size HB.out) : w.heap.size ≤ gb221)); clear HB; have HB := n0_; have BK221 := n1_; have GW221 := n2_; have GE221 := n3_; clear n0_ n1_ n2_ n3_; clear hb hbox hg) | ((with_reducible refine gate_dst (N := 3) rfl ?_); refine box_event ?hg (N := 3) ?hd (cs := #[.int .i64 a1_0, .string a1_1]) (t := 41) ?hr ?_; (case hd => rfl); (case hg => rfl); (case hr => (go_simp; done)); intro gb222 hg w7 hbox hb; have n0_ := Aside0.mk (blk_below (g := gb221) (o := .cells #[.int .i64 a0_0, .int .i64 a0_1, .int .i64 a0_2, .slice A0_3 l0_3.length c0_3] 34 (0, 0)) (by exact BK221.out) hb); have n1_ := Aside0.mk (below_step HB.out hb); have n2_ := Aside0.mk (hbox); have n3_ := Aside0.mk ((by rw [hg]; exact (below_size HB.out) : w.heap.size ≤ gb222)); have n4_ := Aside0.mk ((by rw [hg]; exact (below_size HB.out) : w.heap.size ≤ gb222)); have n5_ := Aside0.mk ((by rw [hg]; exact Nat.ne_of_lt (blk_lt (g := gb221) (o := .cells #[.int .i64 a0_0, .int .i64 a0_1, .int .i64 a0_2, .slice A0_3 l0_3.length c0_3] 34 (0, 0)) (by exact BK221.out)) : gb221 ≠ gb222)); have n6_ := Aside0.mk ((by rw [hg]; exact Nat.ne_of_gt (blk_lt (g := gb221) (o := .cells #[.int .i64 a0_0, .int .i64 a0_1, .int .i64 a0_2, .slice A0_3 l0_3.length c0_3] 34 (0, 0)) (by exact BK221.out)) : gb222 ≠ gb221)); clear BK221 HB; have BK221 := n0_; have HB := n1_; have BK222 := n2_; have GW222 := n3_; have GE222 := n4_; have NB221_222 := n5_; have NB222_221 := n6_; clear n0_ n1_ n2_ n3_ n4_ n5_ n6_; clear hb hbox hg; have hnb8 := NB221_222.out; have hnc8 := NB222_221.out; have hcz9_0 : w7.cell? ⟨gb221, 0, none⟩ = some (.int .i64 a0_0) := (blk_cell BK221.out 0).trans rfl; have hcz9_1 : w7.cell? ⟨gb221, 1, none⟩ = some (.int .i64 a0_1) := (blk_cell BK221.out 1).trans rfl; have hcz9_2 : w7.cell? ⟨gb221, 2, none⟩ = some (.int .i64 a0_2) := (blk_cell BK221.out 2).trans rfl; have hcz9_3 : w7.cell? ⟨gb221, 3, none⟩ = some (.slice A0_3 l0_3.length c0_3) := (blk_cell BK221.out 3).trans rfl; have hfz9_0 := blk_frozen BK221.out 0; have hfz9_1 := blk_frozen BK221.out 1; have hfz9_2 := blk_frozen BK221.out 2; have hfz9_3 := blk_frozen BK221.out 3) | ((with_reducible refine gate_callee (f := 18) rfl ?_); refine goesL_ (some 6) rfl rfl Try.func18 (by kernel_rfl) rfl #[.agg #[.int .i64 a0_0, .int .i64 a0_1, .int .i64 a0_2, .slice A0_3 l0_3.length c0_3]] rfl (by ((simp only [List.map_toArray, List.map_cons, List.map_nil])); (rfl)) ?_; (with_reducible refine (stripe_Check.calls a0_0 a0_1 a0_2 _ _ l0_3 t223 _ ?side1 ?side2 A3.out).mono ?_); (case side1 => repeat ((exact (Kd.C_below HR0_3.out HB.out)))); (case side2 => exact HC0_3.out); rintro e w10 ⟨rfl, hb⟩; refine ⟨_, rfl, ?_⟩; have n0_ := Aside0.mk (blk_below (g := gb221) (o := .cells #[.int .i64 a0_0, .int .i64 a0_1, .int .i64 a0_2, .slice A0_3 l0_3.length c0_3] 34 (0, 0)) (by exact BK221.out) hb); have n1_ := Aside0.mk (blk_below (g := gb222) (o := .cells #[.int .i64 a1_0, .string a1_1] 41 (0, 0)) (by exact BK222.out) hb); have n2_ := Aside0.mk (below_step HB.out hb); clear BK221 BK222 HB; have BK221 := n0_; have BK222 := n1_; have HB := n2_; clear n0_ n1_ n2_; clear hb; have hcz11_0 : w10.cell? ⟨gb221, 0, none⟩ = some (.int .i64 a0_0) := (blk_cell BK221.out 0).trans rfl; have hcz11_1 : w10.cell? ⟨gb221, 1, none⟩ = some (.int .i64 a0_1) := (blk_cell BK221.out 1).trans rfl; have hcz11_2 : w10.cell? ⟨gb221, 2, none⟩ = some (.int .i64 a0_2) := (blk_cell BK221.out 2).trans rfl; have hcz11_3 : w10.cell? ⟨gb221, 3, none⟩ = some (.slice A0_3 l0_3.length c0_3) := (blk_cell BK221.out 3).trans rfl; have hfz11_0 := blk_frozen BK221.out 0; have hfz11_1 := blk_frozen BK221.out 1; have hfz11_2 := blk_frozen BK221.out 2; have hfz11_3 := blk_frozen BK221.out 3; have hcz12_0 : w10.cell? ⟨gb222, 0, none⟩ = some (.int .i64 a1_0) := (blk_cell BK222.out 0).trans rfl; have hcz12_1 : w10.cell? ⟨gb222, 1, none⟩ = some (.string a1_1) := (blk_cell BK222.out 1).trans rfl; have hfz12_0 := blk_frozen BK222.out 0; have hfz12_1 := blk_frozen BK222.out 1) | (go_at_call 24; (with_reducible refine (stripe_right.calls k a0_0 a0_1 a0_2 _ _ l0_3 a1_0 a1_1 t224 _ ?side1 ?side2 A5.out).mono ?_); (case side1 => repeat ((exact (Kd.C_below HR0_3.out HB.out)))); (case side2 => exact HC0_3.out); rintro e w13 ⟨rfl, hb⟩; have n0_ := Aside0.mk (blk_below (g := gb221) (o := .cells #[.int .i64 a0_0, .int .i64 a0_1, .int .i64 a0_2, .slice A0_3 l0_3.length c0_3] 34 (0, 0)) (by exact BK221.out) hb); have n1_ := Aside0.mk (blk_below (g := gb222) (o := .cells #[.int .i64 a1_0, .string a1_1] 41 (0, 0)) (by exact BK222.out) hb); have n2_ := Aside0.mk (below_step HB.out hb); clear BK221 BK222 HB; have BK221 := n0_; have BK222 := n1_; have HB := n2_; clear n0_ n1_ n2_; clear hb))
    go_ret
    exact ⟨by (rfl), HB.out⟩
  · rw [if_neg c4] at H
    have c4b0 : (t223 == 0) = false := beq_eq_false_iff_ne.mpr c4
    have c4b1 : (t223 != 0) = true := bne_iff_ne.mpr c4
    obtain rfl := Option.some.inj H
    go_enter Try.func15, Try.ntmps15
    go_wp2_with (first | ((with_reducible refine gate_dst (N := 2) rfl ?_); refine box_event ?hg (N := 2) ?hd (cs := #[.int .i64 a0_0, .int .i64 a0_1, .int .i64 a0_2, .slice A0_3 l0_3.length c0_3]) (t := 34) ?hr ?_; (case hd => rfl); (case hg => rfl); (case hr => (go_simp; done)); intro gb221 hg w14 hbox hb; have n0_ := Aside0.mk (below_step HB.out hb); have n1_ := Aside0.mk (hbox); have n2_ := Aside0.mk ((by rw [hg]; exact (below_size HB.out) : w.heap.size ≤ gb221)); have n3_ := Aside0.mk ((by rw [hg]; exact (below_size HB.out) : w.heap.size ≤ gb221)); clear HB; have HB := n0_; have BK221 := n1_; have GW221 := n2_; have GE221 := n3_; clear n0_ n1_ n2_ n3_; clear hb hbox hg) | ((with_reducible refine gate_dst (N := 3) rfl ?_); refine box_event ?hg (N := 3) ?hd (cs := #[.int .i64 a1_0, .string a1_1]) (t := 41) ?hr ?_; (case hd => rfl); (case hg => rfl); (case hr => (go_simp; done)); intro gb222 hg w15 hbox hb; have n0_ := Aside0.mk (blk_below (g := gb221) (o := .cells #[.int .i64 a0_0, .int .i64 a0_1, .int .i64 a0_2, .slice A0_3 l0_3.length c0_3] 34 (0, 0)) (by exact BK221.out) hb); have n1_ := Aside0.mk (below_step HB.out hb); have n2_ := Aside0.mk (hbox); have n3_ := Aside0.mk ((by rw [hg]; exact (below_size HB.out) : w.heap.size ≤ gb222)); have n4_ := Aside0.mk ((by rw [hg]; exact (below_size HB.out) : w.heap.size ≤ gb222)); have n5_ := Aside0.mk ((by rw [hg]; exact Nat.ne_of_lt (blk_lt (g := gb221) (o := .cells #[.int .i64 a0_0, .int .i64 a0_1, .int .i64 a0_2, .slice A0_3 l0_3.length c0_3] 34 (0, 0)) (by exact BK221.out)) : gb221 ≠ gb222)); have n6_ := Aside0.mk ((by rw [hg]; exact Nat.ne_of_gt (blk_lt (g := gb221) (o := .cells #[.int .i64 a0_0, .int .i64 a0_1, .int .i64 a0_2, .slice A0_3 l0_3.length c0_3] 34 (0, 0)) (by exact BK221.out)) : gb222 ≠ gb221)); clear BK221 HB; have BK221 := n0_; have HB := n1_; have BK222 := n2_; have GW222 := n3_; have GE222 := n4_; have NB221_222 := n5_; have NB222_221 := n6_; clear n0_ n1_ n2_ n3_ n4_ n5_ n6_; clear hb hbox hg; have hnb16 := NB221_222.out; have hnc16 := NB222_221.out; have hcz17_0 : w15.cell? ⟨gb221, 0, none⟩ = some (.int .i64 a0_0) := (blk_cell BK221.out 0).trans rfl; have hcz17_1 : w15.cell? ⟨gb221, 1, none⟩ = some (.int .i64 a0_1) := (blk_cell BK221.out 1).trans rfl; have hcz17_2 : w15.cell? ⟨gb221, 2, none⟩ = some (.int .i64 a0_2) := (blk_cell BK221.out 2).trans rfl; have hcz17_3 : w15.cell? ⟨gb221, 3, none⟩ = some (.slice A0_3 l0_3.length c0_3) := (blk_cell BK221.out 3).trans rfl; have hfz17_0 := blk_frozen BK221.out 0; have hfz17_1 := blk_frozen BK221.out 1; have hfz17_2 := blk_frozen BK221.out 2; have hfz17_3 := blk_frozen BK221.out 3) | ((with_reducible refine gate_callee (f := 18) rfl ?_); refine goesL_ (some 6) rfl rfl Try.func18 (by kernel_rfl) rfl #[.agg #[.int .i64 a0_0, .int .i64 a0_1, .int .i64 a0_2, .slice A0_3 l0_3.length c0_3]] rfl (by ((simp only [List.map_toArray, List.map_cons, List.map_nil])); (rfl)) ?_; (with_reducible refine (stripe_Check.calls a0_0 a0_1 a0_2 _ _ l0_3 t223 _ ?side1 ?side2 A3.out).mono ?_); (case side1 => repeat ((exact (Kd.C_below HR0_3.out HB.out)))); (case side2 => exact HC0_3.out); rintro e w18 ⟨rfl, hb⟩; refine ⟨_, rfl, ?_⟩; have n0_ := Aside0.mk (blk_below (g := gb221) (o := .cells #[.int .i64 a0_0, .int .i64 a0_1, .int .i64 a0_2, .slice A0_3 l0_3.length c0_3] 34 (0, 0)) (by exact BK221.out) hb); have n1_ := Aside0.mk (blk_below (g := gb222) (o := .cells #[.int .i64 a1_0, .string a1_1] 41 (0, 0)) (by exact BK222.out) hb); have n2_ := Aside0.mk (below_step HB.out hb); clear BK221 BK222 HB; have BK221 := n0_; have BK222 := n1_; have HB := n2_; clear n0_ n1_ n2_; clear hb))
    go_ret
    exact ⟨by (rfl), HB.out⟩

end Go.Proofs.Ythfddndmhjkeiaa.L
end
section
/- law07's some: what it returns, and what its append of a cut row gives. -/
namespace Go.Proofs.Ythfddndmhjkeiaa.L
open Go.RowKit Go.Proofs.YthfddndmhjkeiaaW.PrintWords Go.Proofs.YthfddndmhjkeiaaW.PrintLast Go.Proofs.YthfddndmhjkeiaaW.PrintMore
set_option linter.unusedVariables false
set_option linter.unusedSimpArgs false

theorem w64' {x : Int} (h0 : -9223372036854775808 ≤ x) (h1 : x ≤ 9223372036854775807) : wrap64 x = x := IntWalk.wrap64_in _ ⟨h0, h1⟩
theorem w64s {k : Nat} (h : k ≤ 1000000) : wrap64 ((k : Int) + 1) = ((k + 1 : Nat) : Int) := by rw [w64'] <;> omega
theorem i64s {k lo : Nat} (h : k ≤ 1000000) (e : lo = k + 1) : IntKind.i64.wrap ((k : Int) + 1) = (lo : Int) := by rw [e, ← w64s h]; exact i64_w _
theorem i64t {k m c : Nat} (h : k ≤ 1000000) (hm : k + 1 < m) (hc : k + 1 < c) : IntKind.i64.wrap ((k : Int) + 1) = (k : Int) + 1 ∧ (0 : Int) ≤ (k : Int) + 1 ∧ (k : Int) + 1 ≤ (m : Int) ∧ ((c = k + 1) = False) ∧ ((k : Int) + 1).toNat = k + 1 := by
  have h1 := i64s h rfl
  refine ⟨h1.trans rfl, by omega, by omega, eq_false (by omega), by omega⟩
theorem i64u {k m : Nat} (h : k ≤ 1000000) (hm : k + 1 = m) : IntKind.i64.wrap ((k : Int) + 1) = (k : Int) + 1 ∧ (0 : Int) ≤ (k : Int) + 1 ∧ (k : Int) + 1 ≤ (m : Int) ∧ ((k : Int) + 1).toNat = k + 1 := by
  have h1 := i64s h rfl
  exact ⟨h1.trans rfl, by omega, by omega, by omega⟩
theorem len_step {a b n k w : Nat} (h : a + b = n) (hw : w = a - 1) (hk : k < a) : w + (b + 1) = n := by omega
theorem below_of_grown {W W' : World} (hg : W.drew.grownBy W' none) : Below W.heap.size W W' := ⟨hg.os, hg.tape, hg.output, hg.size, fun i hi => hg.block i hi (by simp)⟩
/-- The row without its element i. -/
def without (l : List S41) (i : Nat) : List S41 := l.take i ++ l.drop (i + 1)
def someAt (s0_0 : List Int) (n : Int) : Nat → List S41 → List S41 → Int → Option (List S41 × Int)
  | 0, _, _, _ => none
  | k + 1, rest, out, s => if (out.length : Int) < n ∧ 0 < rest.length then
      ((storagebartermake_Deck_Next.f s0_0 s (rest.length : Int)).bind fun t => if 0 ≤ t.1 ∧ t.1 < (rest.length : Int) then someAt s0_0 n k (without rest t.1.toNat) (out ++ [rd_T41 rest t.1]) t.2 else none)
    else some (out, s)
def storagebarterlaw13_some.f (s0_0 : List Int) (s0_1 : Int) (l : List S41) (n : Int) : Option (List S41 × Int) :=
  if l.length ≤ 1000000 then someAt s0_0 n (l.length + 1) l [] s0_1 else none

theorem without_length {l : List S41} {i : Nat} (h : i < l.length) : (without l i).length = l.length - 1 := by
  unfold without
  rw [List.length_append, List.length_take, List.length_drop]
  omega
def cells37 : List S41 → List Value
  | [] => []
  | x :: l => .int .i64 x.f0 :: .string x.f1 :: cells37 l
theorem cells37_length : ∀ l, (cells37 l).length = l.length * 2
  | [] => rfl
  | x :: l => by simp only [cells37, List.length_cons, cells37_length l]; omega
theorem cells37_one : ∀ l, ∀ u ∈ cells37 l, u.oneCell' = true
  | [], u, h => absurd h (by simp [cells37])
  | x :: l, u, h => by
    simp only [cells37, List.mem_cons] at h
    rcases h with rfl | rfl | h
    · rfl
    · rfl
    · exact cells37_one l u h
theorem cells37_append : ∀ a b, cells37 (a ++ b) = cells37 a ++ cells37 b
  | [], b => rfl
  | x :: a, b => by simp only [cells37, List.cons_append, cells37_append a b]
theorem cells37_get : ∀ (l : List S41) (q : Nat), (cells37 l)[q * 2]? = (l[q]?.map fun x => Value.int .i64 x.f0) ∧ (cells37 l)[q * 2 + 1]? = (l[q]?.map fun x => Value.string x.f1)
  | [], q => by simp [cells37]
  | x :: l, 0 => by simp [cells37]
  | x :: l, q + 1 => by
    have h := cells37_get l q
    have e : (q + 1) * 2 = q * 2 + 1 + 1 := by omega
    rw [e]
    simp only [cells37, List.getElem?_cons_succ]
    exact h
theorem C37_of_cells {W : World} {ad : Addr} {l : List S41} (hl : l.length ≤ 1000000) (h : ∀ j u, (cells37 l)[j]? = some u → W.cell? (ad.add j) = some u) : Kd.C k41 W (some ad) l.length l :=
  ⟨rfl, by omega, fun _ => ⟨ad, rfl, fun j p hj => ⟨[.int .i64 p.f0, .string p.f1], rfl, k41.K_of_M (k41_mkM W 0 (fun _ => True) p), fun i u hu => by
    have hg := cells37_get l j
    rw [hj] at hg
    match i, hu with
    | 0, hu => exact h _ _ (by rw [show j * k41.sz + 0 = j * 2 from rfl, hg.1]; exact hu)
    | 1, hu => exact h _ _ (by rw [show j * k41.sz + 1 = j * 2 + 1 from rfl, hg.2]; exact hu)
    | i + 2, hu => exact absurd hu (by simp)⟩⟩⟩
theorem cells_of_C37 {W : World} {ad : Addr} {n : Nat} {l : List S41} (h : Kd.C k41 W (some ad) n l) : ∀ j u, (cells37 l)[j]? = some u → W.cell? (ad.add j) = some u := by
  intro j u hj
  have hlt := (List.getElem?_eq_some_iff.1 hj).1
  rw [cells37_length] at hlt
  obtain ⟨ad', e, hc⟩ := h.2.2 (by have := h.1; omega)
  cases e
  have hq : j / 2 < l.length := by omega
  have hg := cells37_get l (j / 2)
  rw [List.getElem?_eq_getElem hq] at hg
  obtain ⟨cs, h1, h2, h3⟩ := hc (j / 2) _ (List.getElem?_eq_getElem hq)
  obtain rfl := k41_open h2
  rcases Nat.mod_two_eq_zero_or_one j with hm | hm
  · have e1 : j / 2 * 2 = j := by omega
    rw [e1] at hg
    have := hj.symm.trans hg.1
    injection this with this
    subst this
    have h4 := h3 0 _ rfl
    rwa [show j / 2 * k41.sz + 0 = j from by show j / 2 * 2 + 0 = j; omega] at h4
  · have e1 : j / 2 * 2 + 1 = j := by omega
    rw [e1] at hg
    have := hj.symm.trans hg.2
    injection this with this
    subst this
    have h4 := h3 1 _ rfl
    rwa [show j / 2 * k41.sz + 1 = j from by show j / 2 * 2 + 1 = j; omega] at h4
theorem add_off (g o j : Nat) : (⟨g, o, none⟩ : Addr).add j = ⟨g, o + j, none⟩ := by
  unfold Addr.add
  split <;> simp_all
/-- What an append of all behind element k onto all ahead of it gives. -/
theorem cut_append {W : World} {gr k c : Nat} {rest : List S41} {u : Value} (hk : k < rest.length) (hcap : rest.length ≤ c) (hl : rest.length ≤ 1000000)
    (hC : Kd.C k41 W (some ⟨gr, 0, none⟩) rest.length rest) (hu1 : k + 1 < rest.length → u = .slice (some ⟨gr, (k + 1) * 2, none⟩) (rest.length - (k + 1)) (c - (k + 1))) (hu2 : k + 1 = rest.length → ∃ A' c', u = .slice A' 0 c') :
    ∃ A1 c1 w1, (Builtin.append_ #[23, 23] 23 #[.slice (some ⟨gr, 0, none⟩) k k, u]).run Try.prog W = .ok (.slice A1 (without rest k).length c1) w1 ∧ (without rest k).length ≤ c1 ∧ (0 < (without rest k).length → ∃ gr1, A1 = some ⟨gr1, 0, none⟩ ∧ (gr1 = gr ∨ W.heap.size ≤ gr1)) ∧ Kd.C k41 w1 A1 (without rest k).length (without rest k) ∧ W.grownBy w1 none := by
  obtain ⟨i0, hi, hzz⟩ := Option.map_eq_some_iff.1 info41
  simp only [Prod.mk.injEq] at hzz
  obtain ⟨hz0, hz1, hz2⟩ := hzz
  have hcs := cells_of_C37 hC
  simp only [add_plain] at hcs
  have hsplit : rest = rest.take k ++ rest.drop k := (List.take_append_drop _ _).symm
  have hsplit2 : rest = rest.take (k + 1) ++ rest.drop (k + 1) := (List.take_append_drop _ _).symm
  have hol : (cells37 (rest.take k)).length = k * 2 := by rw [cells37_length, List.length_take]; omega
  have holds : ∀ j u, (cells37 (rest.take k))[j]? = some u → W.cell? ⟨gr, j, none⟩ = some u := by
    intro j u hj
    refine hcs j u ?_
    have hlt := (List.getElem?_eq_some_iff.1 hj).1
    rw [hsplit, cells37_append, List.getElem?_append_left hlt]
    exact hj
  by_cases hlast : k + 1 = rest.length
  · obtain ⟨A', c', rfl⟩ := hu2 hlast
    have hw : without rest k = rest.take k := by
      unfold without
      rw [hlast, List.drop_length, List.append_nil]
    have hwl : (without rest k).length = k := by rw [without_length hk]; omega
    have hrun := run_append_nothing (P := Try.prog) W 23 23 23 41 i0 Try.underlying23 hi (some ⟨gr, 0, none⟩) k k (Nat.le_refl _) (.slice A' 0 c') (by
      cases A' with
      | none => exact Src.ofNil W Try.underlying23 c'
      | some ad => exact Src.ofSlice W Try.underlying23 ad 0 c' [] (by simp) (by intro j u hj; simp at hj) (by intro u hu; cases hu))
    refine ⟨some ⟨gr, 0, none⟩, k, W, by rw [hwl]; exact hrun, by omega, fun _ => ⟨gr, rfl, .inl rfl⟩, ?_, World.grownBy.refl W _⟩
    refine C37_of_cells (by omega) ?_
    intro j u hj
    rw [hw] at hj
    rw [add_plain]
    exact holds j u hj
  · have hlt : k + 1 < rest.length := by omega
    obtain rfl := hu1 hlt
    have hnl : (cells37 (rest.drop (k + 1))).length = (rest.length - (k + 1)) * 2 := by rw [cells37_length, List.length_drop]
    have hsrc : Src Try.prog i0.size 23 (.slice (some ⟨gr, (k + 1) * 2, none⟩) (rest.length - (k + 1)) (c - (k + 1))) (rest.length - (k + 1)) (cells37 (rest.drop (k + 1))) W := by
      rw [hz1]
      refine Src.ofSlice W Try.underlying23 _ _ _ _ hnl ?_ (cells37_one _)
      intro j u hj
      rw [add_off]
      refine hcs _ u ?_
      rw [hsplit2, cells37_append, List.getElem?_append_right (by rw [cells37_length, List.length_take]; omega), cells37_length, List.length_take]
      rw [show (k + 1) * 2 + j - min (k + 1) rest.length * 2 = j by rw [Nat.min_eq_left (Nat.le_of_lt hlt)]; omega]
      exact hj
    have hold : (Builtin.firstCells i0.size k (.slice (some ⟨gr, 0, none⟩) k k)).run Try.prog W.drew = .ok (cells37 (rest.take k)).toArray W.drew := by
      rw [hz1]
      refine run_firstCells_some W.drew 2 k _ _ _ _ hol ?_
      intro j u hj
      rw [add_plain]
      exact holds j u hj
    have hrun := run_append_grow_src (P := Try.prog) W 23 23 23 41 i0 _ Try.underlying23 hi hz0 (some ⟨gr, 0, none⟩) k k _ hold _ _ _ hsrc (by omega) (by omega) (growslice_fits (by omega) (by rw [hz2]; omega))
    have hge := grownCap_ge W (k + (rest.length - (k + 1))) k 41
    have hwl : (without rest k).length = k + (rest.length - (k + 1)) := by rw [without_length hk]; omega
    refine ⟨_, _, _, by rw [hwl]; exact hrun, by rw [hwl]; exact hge, fun _ => ⟨_, rfl, .inr (Nat.le_refl _)⟩, ?_, ?_⟩
    · refine C37_of_cells (by omega) ?_
      intro j u hj
      rw [add_plain]
      refine (World.cell?_alloc_new W.drew _ _ j).trans ?_
      unfold without at hj
      rw [cells37_append] at hj
      have hjl := (List.getElem?_eq_some_iff.1 hj).1
      rw [Array.getElem?_append_left (by rw [List.size_toArray]; exact hjl), List.getElem?_toArray]
      exact hj
    · exact grown_of_below ((Below.refl _ _).trans (below_alloc (below_drew1 (Below.refl _ _)) _)) none
/-- The row that is drawn from: it lies neither in the deck's block nor in the block of what was drawn. -/
def RestOk (g : Nat) (v8 : Value) (W : World) (A : Option Addr) (rest : List S41) : Prop :=
  rest.length ≤ 1000000 ∧ (0 < rest.length → ∃ gr, A = some ⟨gr, 0, none⟩ ∧ gr ≠ g ∧ some gr ≠ v8.ownBlock ∧ gr < W.heap.size) ∧ Kd.C k41 W A rest.length rest
theorem C_empty (W : World) (A : Option Addr) {l : List S41} (h : ¬ 0 < l.length) : Kd.C k41 W A l.length l := ⟨rfl, by omega, fun h' => absurd h' h⟩
theorem C_block {W W' : World} {gr : Nat} {l : List S41} (hl : l.length ≤ 1000000) (h : Kd.C k41 W (some ⟨gr, 0, none⟩) l.length l) (he : W'.heap[gr]? = W.heap[gr]?) : Kd.C k41 W' (some ⟨gr, 0, none⟩) l.length l := by
  refine C37_of_cells hl fun j u hj => ?_
  have h1 := cells_of_C37 h j u hj
  rw [add_plain] at h1 ⊢
  exact (World.cell?_of_block (a := ⟨gr, j, none⟩) he).trans h1
theorem RestOk.keep {g : Nat} {v8 : Value} {W W' : World} {A : Option Addr} {rest : List S41} (h : RestOk g v8 W A rest) (hk : KeepBut W W' g none) : RestOk g v8 W' A rest := by
  obtain ⟨h0, h1, h2⟩ := h
  by_cases hr : 0 < rest.length
  · obtain ⟨gr, rfl, a1, a2, a3⟩ := h1 hr
    exact ⟨h0, fun _ => ⟨gr, rfl, a1, a2, Nat.lt_of_lt_of_le a3 hk.1⟩, C_block h0 h2 (hk.2 gr a3 a1 (by simp))⟩
  · exact ⟨h0, fun h => absurd h hr, C_empty _ _ hr⟩
theorem RestOk.grown {g : Nat} {v8 v1 : Value} {W W' : World} {A : Option Addr} {rest : List S41} (h : RestOk g v8 W A rest) (hg : W.grownBy W' v8.ownBlock) (hat : v1.ownBlock = v8.ownBlock ∨ ∃ b, v1.ownBlock = some b ∧ W.heap.size ≤ b) : RestOk g v1 W' A rest := by
  obtain ⟨h0, h1, h2⟩ := h
  by_cases hr : 0 < rest.length
  · obtain ⟨gr, rfl, a1, a2, a3⟩ := h1 hr
    refine ⟨h0, fun _ => ⟨gr, rfl, a1, ?_, Nat.lt_of_lt_of_le a3 hg.size⟩, C_block h0 h2 (hg.block gr a3 a2)⟩
    rcases hat with e | ⟨b, e, hb⟩
    · rw [e]
      exact a2
    · rw [e]
      intro he
      injection he with he
      omega
  · exact ⟨h0, fun h => absurd h hr, C_empty _ _ hr⟩
theorem R_start {W : World} {base g : Nat} {ok : Nat → Prop} {v : Value} {xs : List S41} (hl : xs.length ≤ 1000000) (h : Kd.R k41 41 W base ok v xs) (hg : g < base) : ∃ A c, v = .slice A xs.length c ∧ xs.length ≤ c ∧ RestOk g (.slice none 0 0) W A xs := by
  obtain ⟨A, c, rfl, hlc, hC⟩ := Kd.R_reads h
  refine ⟨A, c, rfl, hlc, hl, fun hp => ?_, hC⟩
  obtain ⟨gr, cap, e, h1, h2, _⟩ := Kd.R_form h hp
  injection e with e
  exact ⟨gr, e, by omega, by simp [Value.ownBlock], h2⟩
/-- The append of the cut row, seen from the loop. -/
theorem rest_append {W : World} {g k c : Nat} {v8 : Value} {A : Option Addr} {rest : List S41} (hk : k < rest.length) (hcap : rest.length ≤ c) (h : RestOk g v8 W A rest) (hg : g < W.heap.size) (hv : ∀ b, v8.ownBlock = some b → b < W.heap.size) :
    ∃ gr, A = some ⟨gr, 0, none⟩ ∧ ∀ u, (k + 1 < rest.length → u = .slice (some ⟨gr, (k + 1) * 2, none⟩) (rest.length - (k + 1)) (c - (k + 1))) → (k + 1 = rest.length → ∃ A' c', u = .slice A' 0 c') →
      ∃ A1 c1 w1, (Builtin.append_ #[23, 23] 23 #[.slice (some ⟨gr, 0, none⟩) k k, u]).run Try.prog W = .ok (.slice A1 (without rest k).length c1) w1 ∧ (without rest k).length ≤ c1 ∧ RestOk g v8 w1 A1 (without rest k) ∧ W.grownBy w1 none := by
  obtain ⟨h0, h1, h2⟩ := h
  obtain ⟨gr, rfl, a1, a2, a3⟩ := h1 (by omega)
  refine ⟨gr, rfl, fun u hu1 hu2 => ?_⟩
  obtain ⟨A1, c1, w1, b1, b2, b3, b4, b5⟩ := cut_append hk hcap h0 h2 hu1 hu2
  refine ⟨A1, c1, w1, b1, b2, ⟨by rw [without_length hk]; omega, fun hp => ?_, b4⟩, b5⟩
  obtain ⟨gr1, e, hgr⟩ := b3 hp
  subst e
  have hlt : gr1 < w1.heap.size := Kd.C_lt b4 hp (by decide)
  refine ⟨gr1, rfl, ?_, ?_, hlt⟩
  · rcases hgr with rfl | hgr
    · exact a1
    · omega
  · rcases hgr with rfl | hgr
    · exact a2
    · intro e
      have := hv gr1 e.symm
      omega
theorem keep_then {w W W' : World} {g : Nat} (h : KeepBut w W g none) (hb : Below w.heap.size W W') : KeepBut w W' g none :=
  ⟨Nat.le_trans h.1 hb.size, fun i hi h1 h2 => (hb.block i hi).trans (h.2 i hi h1 h2)⟩
section
variable {P : Program} {ops : Array Oper} {Q : Exit → Act → World → Prop} {rest : List Oper} {a : Act} {o : Oper} {W : World}
/-- An append whose run is known. -/
theorem append_run (hgd : o.guard = none) (s x : Operand) (t : TypeId) (ho : o.op = .call { callee := .builtin .append, args := #[s, x], argTypes := #[t, t] }) {v u v1 : Value} {w1 : World} (hs : a.eval s = v) (hx : a.eval x = u)
    (hr : (Builtin.append_ #[t, t] o.type #[v, u]).run P W = .ok v1 w1) (h : wpList P ops Q rest (a.put o.dst v1) w1) : wpList P ops Q (o :: rest) a W := by
  refine wpList_plain hgd fun K hK => ?_
  unfold Oper.wp execOp
  simp only [ho, resolve, invoke, builtin, Sem.run_bind, Sem.run_pure, Result.andThen_ok, List.map_toArray, List.map_cons, List.map_nil, hs, hx, hr]
  exact hK _ _ h
theorem append_run_step {Kc : Act → World → Prop} (hw : Region.wanted o (yielded ops a.tmps) = true) (s x : Operand) (t : TypeId) (ho : o.op = .call { callee := .builtin .append, args := #[s, x], argTypes := #[t, t] }) {v u v1 : Value} {w1 : World} (hs : a.eval s = v) (hx : a.eval x = u)
    (hr : (Builtin.append_ #[t, t] o.type #[v, u]).run P W = .ok v1 w1) (h : Kc (a.put o.dst v1) w1) : if Region.wanted o (yielded ops a.tmps) = true then Oper.wp P o a W Kc Q else Kc (a.put o.dst undef) W := by
  rw [if_pos hw]
  unfold Oper.wp execOp
  simp only [ho, resolve, invoke, builtin, Sem.run_bind, Sem.run_pure, Result.andThen_ok, List.map_toArray, List.map_cons, List.map_nil, hs, hx, hr]
  exact h
end
end Go.Proofs.Ythfddndmhjkeiaa.L
end
section
/- law07's some. -/
namespace Go.Proofs.Ythfddndmhjkeiaa.L
open Go.RowKit Go.Proofs.YthfddndmhjkeiaaW.PrintWords Go.Proofs.YthfddndmhjkeiaaW.PrintLast Go.Proofs.YthfddndmhjkeiaaW.PrintMore
set_option linter.unusedVariables false
set_option linter.unusedSimpArgs false
set_option maxHeartbeats 2000000 in
set_option maxRecDepth 100000 in
theorem storagebarterlaw13_some.calls (g : Nat) (s0_0 : List Int) (s0_1 : Int) (A1 : Option Addr) (c1 : Nat) (l1 : List S41) (a2 : Int) (r1 : List S41) (r2 : Int) (w0 w : World) (hI : IsS52 w0 w g s0_0 s0_1) (hB : Below w0.heap.size w0 w) (hr1 : ∀ W_, KeepBut w W_ g none → Kd.C k41 W_ A1 l1.length l1) (hc1 : l1.length ≤ c1) (h : storagebarterlaw13_some.f s0_0 s0_1 l1 a2 = some (r1, r2)) :
    Calls Try.prog 13 #[.pointer (some ⟨g, 0, none⟩), .slice A1 l1.length c1, .int .i64 a2] w fun e w' => ∃ v0_ : Value, e = .returned v0_ ∧ Kd.R k41 41 w' w.heap.size (fun _ => True) v0_ r1 ∧ IsS52 w0 w' g s0_0 r2 ∧ Below w0.heap.size w0 w' ∧ KeepBut w w' g none := by
  have hl : l1.length ≤ 1000000 := by
    unfold storagebarterlaw13_some.f at h
    split at h
    · assumption
    · cases h
  unfold storagebarterlaw13_some.f at h
  rw [if_pos hl] at h
  have HI := Aside0.mk hI
  have HB := Aside0.mk hB
  have HR1 := Aside0.mk (hr1 w (KeepBut.refl w g none))
  have HC1 := Aside0.mk hc1
  have H := Aside0.mk h
  have HG := Aside0.mk hI.lt
  have HW := Aside0.mk hB.size
  clear hI hB hr1 hc1 h
  go_enter Try.func13, Try.ntmps13
  go_wp2_with (at_builtin; refine Kd.R_append_rows k41 (Rr := k41.K w) (w0 := w) w.heap.size (by rfl) (.const (.slice none 0 0)) (.tmp 10) 23 41 (.agg #[.int .i64 0, .string ⟨#[]⟩]) 24 rfl Try.underlying23 info41 rfl (by decide) (by omega) (.slice none 0 0) [] l1 A1 l1.length c1 (fun _ => True) (fun _ => False) rfl rfl (Kd.R_nil _ _ _ _ _) HR1.out (fun _ _ h => k41_KM h) (fun _ h => h.elim) (fun _ _ => trivial) (Below.refl _ _) (Nat.le_refl _) ?aL ?_)
  case aL => simp only [List.length_nil]; omega
  intro v1 w1 ho hb hg hat
  replace ho : Kd.R k41 41 w1 w.heap.size (fun _ => True) v1 l1 := ho
  obtain ⟨A7, c7, rfl, h7c, h7⟩ := R_start hl ho HG.out
  have HS := Aside0.mk h7
  have HB1 := Aside0.mk hb
  clear ho hb hg hat h7
  go_wp2_with fail
  go_loopg [7, 8] (l1.length + 1) (fun kq v7 v8 wr => ∃ (rest out : List S41) (s : Int) (A : Option Addr) (c : Nat), v7 = .slice A rest.length c ∧ rest.length ≤ c ∧ Aside0 (rest.length + out.length = l1.length) ∧ Aside0 (someAt s0_0 a2 kq rest out s = some (r1, r2)) ∧ Aside0 (Kd.R k41 41 wr w.heap.size (fun _ => True) v8 out) ∧ Aside0 (RestOk g v8 wr A rest) ∧ Aside0 (IsS52 w0 wr g s0_0 s) ∧ Aside0 (Below w0.heap.size w0 wr) ∧ Aside0 (KeepBut w wr g none) ∧ Aside0 (kq ≤ l1.length + 1))
  case atStart => exact ⟨l1, [], s0_1, A7, c7, rfl, h7c, ⟨rfl⟩, H, ⟨Kd.R_nil _ _ _ _ _⟩, HS, ⟨HI.out.below HB1.out⟩, ⟨HB.out.trans (HB1.out.mono HW.out)⟩, ⟨keep_then (KeepBut.refl w g none) HB1.out⟩, ⟨Nat.le_refl _⟩⟩
  case round =>
    obtain ⟨rest, out, s, A, c, rfl, hrc, HL, HA, HO, HS2, HI2, HB2, HK2, HKQ⟩ := hrel
    cases gk with
    | zero => exact absurd HA.out (by simp [someAt])
    | succ k1 =>
      have hA := HA.out
      unfold someAt at hA
      have ho8 := Kd.R_slice HO.out
      obtain ⟨A8, c8, rfl⟩ := ho8
      by_cases hc : (out.length : Int) < a2 ∧ 0 < rest.length
      · rw [if_pos hc] at hA
        replace hA := Option.bind_eq_some_iff.mp hA
        obtain ⟨⟨t1, t2⟩, hD, hA⟩ := hA
        simp only at hA
        split at hA
        case isFalse => cases hA
        rename_i ht
        obtain ⟨kk, rfl⟩ : ∃ kk : Nat, t1 = (kk : Int) := ⟨t1.toNat, by omega⟩
        rw [Int.toNat_natCast] at hA
        have hkk : kk < rest.length := by omega
        have hrl := HS2.out.1
        have hol : out.length ≤ 1000000 := by have := HL.out; omega
        have d1 : decide ((out.length : Int) < a2) = true := decide_eq_true hc.1
        have d2 : decide (0 < (rest.length : Int)) = true := decide_eq_true (by omega)
        have hD' := Aside0.mk hD
        have hA' := Aside0.mk hA
        clear hD hA hc ht HA
        go_wp2_with fail
        refine (storagebartermake_Deck_Next.calls g s0_0 s (rest.length : Int) (kk : Int) t2 w0 _ HI2.out HB2.out hD'.out).mono ?_
        rintro e w5 ⟨rfl, hi5, hb5, hk5⟩
        have HO5 := Aside0.mk (Kd.R_mono (Kd.R_oldK (IsS52.apart HI2.out HO.out (by decide)) hk5) (ok' := fun _ => True) (fun _ _ => trivial))
        have HS5 := Aside0.mk (HS2.out.keep hk5)
        have HI5 := Aside0.mk hi5
        have HB5 := Aside0.mk hb5
        have HK5 := Aside0.mk (HK2.out.trans hk5 (.inl rfl))
        clear hi5 hb5 hk5 HO HS2 HI2 HB2 HK2
        obtain ⟨ad, e, hcell0, hcell1⟩ := at_T41 HS5.out.2.2 (kk : Int) (by omega) (by omega)
        obtain ⟨gr, e2, _, _, _⟩ := HS5.out.2.1 (by omega)
        subst e2
        cases e
        rw [Int.toNat_natCast, add_plain] at hcell0 hcell1
        go_wp2_with (at_builtin; refine Kd.R_append k41 (w0 := w5) w.heap.size rfl (.tmp 25) (.tmp 30) 23 41 (.agg #[(.int .i64 0), (.string ⟨#[]⟩)]) 24 rfl Try.underlying23 info41 rfl (by decide) (by omega) (.slice A8 out.length c8) out (rd_T41 rest (kk : Int)) [.int .i64 (rd_T41 rest (kk : Int)).f0, .string (rd_T41 rest (kk : Int)).f1] (fun _ => True) (fun _ => False) rfl rfl (k41_mkM _ _ _ _) (fun _ h => h.elim) (fun _ _ => trivial) HO5.out (Below.refl _ _) HK5.out.1 (by omega) ?_)
        intro v6 w6 ho6 hb6 hg6 hat6
        go_wp2_with fail
        have HS6 := HS5.out.grown hg6 hat6
        have hg5 : g < w5.heap.size := HI5.out.lt
        obtain ⟨gr', e3, happ⟩ := rest_append (W := w6.drew) hkk hrc ⟨HS6.1, HS6.2.1, Kd.C_drew HS6.2.2⟩ (Nat.lt_of_lt_of_le hg5 hb6.size) (Kd.R_lt ho6)
        cases e3
        have HO6 := Aside0.mk ho6
        have HI6 := Aside0.mk (HI5.out.grown hg6 (IsS52.own_ne HI5.out HO5.out (by decide)))
        have HB6 := Aside0.mk (HB5.out.trans (hb6.mono HW.out))
        have HK6 := Aside0.mk (keep_then HK5.out hb6)
        clear ho6 hg6 hat6 hb6 HS5 HI5 HB5 HK5 HO5 hcell0 hcell1 d1 d2 HS6
        have hwl := without_length hkk
        have HWL := Aside0.mk hwl
        have hkc : kk < c := Nat.lt_of_lt_of_le hkk hrc
        have hkk0 : (kk : Int) ≤ (c : Int) := Int.ofNat_le.2 (Nat.le_of_lt hkc)
        clear hwl
        by_cases hlast : kk + 1 < rest.length
        · obtain ⟨A1', c1', w7, hrun, hle7, HS7, hg7⟩ := happ _ (fun _ => rfl) (fun e => absurd e (Nat.ne_of_lt hlast))
          have hkl : kk + 1 < c := Nat.lt_of_lt_of_le hlast hrc
          clear happ
          obtain ⟨hw1, hw2, hw3, hw4, hw5⟩ := i64t (Nat.le_trans (Nat.le_of_lt hkk) hrl) hlast hkl
          have hp1 : (0 : Int) ≤ (kk : Int) := Int.natCast_nonneg _
          have hp2 : (kk : Int) ≤ (rest.length : Int) := Int.ofNat_le.2 (Nat.le_of_lt hkk)
          clear hkl hrl hol hkc h7c hrc
          go_region_held3 (fun w' => True) (exact trivial) (refine append_run_step rfl (.tmp 35) (.tmp 39) 23 rfl rfl rfl hrun ?_)
          have hb7 := below_of_grown hg7
          go_wp2_with fail
          go_roundg k1
          case measure => exact Nat.lt_succ_self k1
          case rel => exact ⟨without rest kk, out ++ [rd_T41 rest (kk : Int)], t2, A1', c1', rfl, hle7, ⟨by rw [List.length_append, List.length_singleton]; exact len_step HL.out HWL.out hkk⟩, hA', ⟨Kd.R_below HO6.out hb7⟩, ⟨HS7⟩, ⟨HI6.out.below hb7⟩, ⟨HB6.out.trans (hb7.mono (Nat.le_trans HW.out HK6.out.1))⟩, ⟨keep_then HK6.out (hb7.mono HK6.out.1)⟩, ⟨Nat.le_of_succ_le HKQ.out⟩⟩
        · have hlast : kk + 1 = rest.length := Nat.le_antisymm hkk (Nat.le_of_not_lt hlast)
          obtain ⟨hw1, hw2, hw3, hw5⟩ := i64u (Nat.le_trans (Nat.le_of_lt hkk) hrl) hlast
          have hp1 : (0 : Int) ≤ (kk : Int) := Int.natCast_nonneg _
          have hp2 : (kk : Int) ≤ (rest.length : Int) := Int.ofNat_le.2 (Nat.le_of_lt hkk)
          by_cases hcc : c = rest.length
          · obtain ⟨A1', c1', w7, hrun, hle7, HS7, hg7⟩ := happ (.slice (some ⟨gr, 0, none⟩) 0 (c - rest.length)) (fun e => absurd e (by rw [hlast]; exact Nat.lt_irrefl _)) (fun e => ⟨_, _, rfl⟩)
            clear happ
            have hw4 : (c = rest.length) = True := eq_true hcc
            clear hcc hrl hol hkc h7c hrc
            go_region_held3 (fun w' => True) (exact trivial) (refine append_run_step rfl (.tmp 35) (.tmp 39) 23 rfl rfl rfl hrun ?_)
            have hb7 := below_of_grown hg7
            go_wp2_with fail
            go_roundg k1
            case measure => exact Nat.lt_succ_self k1
            case rel => exact ⟨without rest kk, out ++ [rd_T41 rest (kk : Int)], t2, A1', c1', rfl, hle7, ⟨by rw [List.length_append, List.length_singleton]; exact len_step HL.out HWL.out hkk⟩, hA', ⟨Kd.R_below HO6.out hb7⟩, ⟨HS7⟩, ⟨HI6.out.below hb7⟩, ⟨HB6.out.trans (hb7.mono (Nat.le_trans HW.out HK6.out.1))⟩, ⟨keep_then HK6.out (hb7.mono HK6.out.1)⟩, ⟨Nat.le_of_succ_le HKQ.out⟩⟩
          · obtain ⟨A1', c1', w7, hrun, hle7, HS7, hg7⟩ := happ (.slice (some ⟨gr, rest.length * 2, none⟩) 0 (c - rest.length)) (fun e => absurd e (by rw [hlast]; exact Nat.lt_irrefl _)) (fun e => ⟨_, _, rfl⟩)
            clear happ
            have hw4 : (c = rest.length) = False := eq_false hcc
            clear hcc hrl hol hkc h7c hrc
            go_region_held3 (fun w' => True) (exact trivial) (refine append_run_step rfl (.tmp 35) (.tmp 39) 23 rfl rfl rfl hrun ?_)
            have hb7 := below_of_grown hg7
            go_wp2_with fail
            go_roundg k1
            case measure => exact Nat.lt_succ_self k1
            case rel => exact ⟨without rest kk, out ++ [rd_T41 rest (kk : Int)], t2, A1', c1', rfl, hle7, ⟨by rw [List.length_append, List.length_singleton]; exact len_step HL.out HWL.out hkk⟩, hA', ⟨Kd.R_below HO6.out hb7⟩, ⟨HS7⟩, ⟨HI6.out.below hb7⟩, ⟨HB6.out.trans (hb7.mono (Nat.le_trans HW.out HK6.out.1))⟩, ⟨keep_then HK6.out (hb7.mono HK6.out.1)⟩, ⟨Nat.le_of_succ_le HKQ.out⟩⟩
      · rw [if_neg hc] at hA
        injection hA with hA
        injection hA with hA1 hA2
        subst hA1 hA2
        by_cases d1 : (out.length : Int) < a2
        · have hr0 : rest.length = 0 := by omega
          have d1' : decide ((out.length : Int) < a2) = true := decide_eq_true d1
          have d2 : decide (0 < (rest.length : Int)) = false := decide_eq_false (by omega)
          go_wp2_with fail
          go_ret
          exact ⟨_, rfl, HO.out, HI2.out, HB2.out, HK2.out⟩
        · have d1' : decide ((out.length : Int) < a2) = false := decide_eq_false d1
          go_wp2_with fail
          go_ret
          exact ⟨_, rfl, HO.out, HI2.out, HB2.out, HK2.out⟩
#print axioms storagebarterlaw13_some.calls
end Go.Proofs.Ythfddndmhjkeiaa.L
end
section
/- law13's StripeRepairs: what holds at each world of its regions. -/
namespace Go.Proofs.Ythfddndmhjkeiaa.L
open Go.RowKit Go.Proofs.YthfddndmhjkeiaaW.PrintWords Go.Proofs.YthfddndmhjkeiaaW.PrintLast Go.Proofs.YthfddndmhjkeiaaW.PrintMore
set_option linter.unusedVariables false
set_option linter.unusedSimpArgs false
/-- The deck at g, the code at cb. -/
structure Jc (w W : World) (g cb : Nat) (l0 : List Int) (p n a : Int) : Prop where
  hi : IsS52 w W g l0 p
  hb : Below w.heap.size w W
  hc : W.heap[cb]? = some (.cells #[.int .i64 n, .int .i64 a] 30 (0, 0))
  hn : g < cb
section
variable {w W W' : World} {g cb : Nat} {l0 : List Int} {p p' n a : Int}
theorem Jc.alloc (h : Jc w W g cb l0 p n a) (o : Obj) : Jc w (W.alloc o) g cb l0 p n a := ⟨h.hi.alloc o, below_alloc h.hb o, blk_alloc h.hc o, h.hn⟩
theorem Jc.drew (h : Jc w W g cb l0 p n a) : Jc w W.drew g cb l0 p n a := ⟨h.hi.drew, below_drew1 h.hb, blk_drew h.hc, h.hn⟩
theorem Jc.below (h : Jc w W g cb l0 p n a) (hb : Below W.heap.size W W') : Jc w W' g cb l0 p n a := ⟨h.hi.below hb, below_step h.hb hb, blk_below h.hc hb, h.hn⟩
theorem Jc.c0 (h : Jc w W g cb l0 p n a) : W.cell? ⟨cb, 0, none⟩ = some (.int .i64 n) := blk_cell h.hc 0
theorem Jc.c1 (h : Jc w W g cb l0 p n a) : W.cell? ⟨cb, 1, none⟩ = some (.int .i64 a) := blk_cell h.hc 1
theorem Jc.lt (h : Jc w W g cb l0 p n a) : cb < W.heap.size := blk_lt h.hc
/-- A store into a block that is neither. -/
theorem Jc.far (h : Jc w W g cb l0 p n a) {q : Addr} (hq : cb < q.block) (u : Value) : Jc w (W.setCell q u) g cb l0 p n a :=
  ⟨h.hi.far (Nat.ne_of_lt (Nat.lt_trans h.hn hq)) u, h.hb.setCell (Nat.le_trans (IsS52.ge h.hi) (Nat.le_of_lt (Nat.lt_trans h.hn hq))) u, blk_far h.hc (Nat.ne_of_lt hq) u, h.hn⟩
theorem Jc.next {m r : Int} (h : Jc w W g cb l0 p n a) (hf : storagebartermake_Deck_Next.f l0 p m = some (r, p')) :
    Calls Try.prog 14 #[.pointer (some ⟨g, 0, none⟩), .int .i64 m] W fun e w' => e = .returned (.int .i64 r) ∧ Jc w w' g cb l0 p' n a ∧ KeepBut W w' g none :=
  (storagebartermake_Deck_Next.calls g l0 p m r p' w W h.hi h.hb hf).mono fun e w' ⟨e1, e2, e3, e4⟩ => ⟨e1, ⟨e2, e3, (e4.2 cb h.lt (Nat.ne_of_gt h.hn) (by simp)).trans h.hc, h.hn⟩, e4⟩
theorem Jc.make {k : Nat} {t : ByteArray} {key sz : Int} {dg : List Int} {l : List S41} (h : Jc w W g cb l0 p n a) (hf : stripe_Make.f k n a t key = some (n, a, sz, dg, l, 0)) :
    Calls Try.prog 12 #[.agg #[.int .i64 n, .int .i64 a], .string t, .int .i64 key] W fun e w' => ∃ A3 c3 A4 c4, e = .returned (.tuple #[.agg #[.int .i64 n, .int .i64 a, .int .i64 sz, .slice A3 dg.length c3], .slice A4 l.length c4, .int .i64 0]) ∧ Kd.R (Kd.int .i64) 3 w' W.heap.size (fun _ => True) (.slice A3 dg.length c3) dg ∧ Kd.R k41 41 w' W.heap.size (fun _ => True) (.slice A4 l.length c4) l ∧ Jc w w' g cb l0 p n a ∧ Below W.heap.size W w' :=
  (stripe_Make.calls k n a t key n a sz dg l 0 W hf).mono fun e w' ⟨v3, v4, e1, e2, e3, e4⟩ => by
    obtain ⟨A3, c3, rfl⟩ := Kd.R_slice e2
    obtain ⟨A4, c4, rfl⟩ := Kd.R_slice e3
    exact ⟨A3, c3, A4, c4, e1, e2, e3, h.below e4, e4⟩
end
/-- The code at cb, the stripe at sb. -/
structure Jm (W : World) (cb sb : Nat) (n a sz : Int) (A3 : Option Addr) (m3 c3 : Nat) : Prop where
  hc : W.heap[cb]? = some (.cells #[.int .i64 n, .int .i64 a] 30 (0, 0))
  hs : W.heap[sb]? = some (.cells #[.int .i64 n, .int .i64 a, .int .i64 sz, .slice A3 m3 c3] 34 (0, 0))
section
variable {W W' : World} {cb sb g : Nat} {n a sz : Int} {A3 : Option Addr} {m3 c3 : Nat}
theorem Jm.alloc (h : Jm W cb sb n a sz A3 m3 c3) (o : Obj) : Jm (W.alloc o) cb sb n a sz A3 m3 c3 := ⟨blk_alloc h.hc o, blk_alloc h.hs o⟩
theorem Jm.drew (h : Jm W cb sb n a sz A3 m3 c3) : Jm W.drew cb sb n a sz A3 m3 c3 := ⟨blk_drew h.hc, blk_drew h.hs⟩
theorem Jm.below (h : Jm W cb sb n a sz A3 m3 c3) (hb : Below W.heap.size W W') : Jm W' cb sb n a sz A3 m3 c3 := ⟨blk_below h.hc hb, blk_below h.hs hb⟩
theorem Jm.keep (h : Jm W cb sb n a sz A3 m3 c3) (hk : KeepBut W W' g none) (h1 : cb ≠ g) (h2 : sb ≠ g) : Jm W' cb sb n a sz A3 m3 c3 := ⟨hk.blk h.hc h1 (by simp), hk.blk h.hs h2 (by simp)⟩
theorem Jm.far (h : Jm W cb sb n a sz A3 m3 c3) {q : Addr} (h1 : cb ≠ q.block) (h2 : sb ≠ q.block) (u : Value) : Jm (W.setCell q u) cb sb n a sz A3 m3 c3 := ⟨blk_far h.hc h1 u, blk_far h.hs h2 u⟩
theorem Jm.five (h : Jm W cb sb n a sz A3 m3 c3) : W.cell? ⟨cb, 0, none⟩ = some (.int .i64 n) ∧ W.cell? ⟨sb, 0, none⟩ = some (.int .i64 n) ∧ W.cell? ⟨sb, 1, none⟩ = some (.int .i64 a) ∧ W.cell? ⟨sb, 2, none⟩ = some (.int .i64 sz) ∧ W.cell? ⟨sb, 3, none⟩ = some (.slice A3 m3 c3) :=
  ⟨blk_cell h.hc 0, blk_cell h.hs 0, blk_cell h.hs 1, blk_cell h.hs 2, blk_cell h.hs 3⟩
end
theorem R_off {α : Type} {d : Kd α} {e : Nat} {w W : World} {base g : Nat} {ok : Nat → Prop} {v : Value} {xs : List α} (h : d.R e W base ok v xs) (hg : g < base) (hb : w.heap.size ≤ base) : d.R e W w.heap.size (fun k => k ≠ g) v xs :=
  Kd.R_mono (Kd.R_lower (Kd.R_mono (Kd.R_bound h) (fun k hk => show k ≠ g from Nat.ne_of_gt (Nat.lt_of_lt_of_le hg hk.2.1))) hb) (fun _ hk => hk)
theorem R_keep {α : Type} {d : Kd α} {e : Nat} {W W' : World} {base g : Nat} {v : Value} {xs : List α} (h : d.R e W base (fun k => k ≠ g) v xs) (hk : KeepBut W W' g none) : d.R e W' base (fun k => k ≠ g) v xs :=
  Kd.R_step h (fun k ho hl => hk.2 k hl ho (by simp))
/-- All that region 12 needs of its world. -/
structure Js (w W : World) (g cb sb gr : Nat) (l0 : List Int) (p n a sz : Int) (A3 : Option Addr) (c3 c4 : Nat) (dg : List Int) (l : List S41) : Prop where
  jc : Jc w W g cb l0 p n a
  jm : Jm W cb sb n a sz A3 dg.length c3
  rd : Kd.R (Kd.int .i64) 3 W w.heap.size (fun k => k ≠ g) (.slice A3 dg.length c3) dg
  rl : Kd.C k41 W (some ⟨gr, 0, none⟩) l.length l
  lt : gr < W.heap.size
  l4 : l.length ≤ c4
  ll : l.length ≤ 1000000
  sg : sb ≠ g
  gg : gr ≠ g
section
variable {w W W' : World} {g cb sb gr : Nat} {l0 : List Int} {p p' n a sz : Int} {A3 : Option Addr} {c3 c4 : Nat} {dg : List Int} {l : List S41}
theorem Js.alloc (h : Js w W g cb sb gr l0 p n a sz A3 c3 c4 dg l) (o : Obj) : Js w (W.alloc o) g cb sb gr l0 p n a sz A3 c3 c4 dg l := ⟨h.jc.alloc o, h.jm.alloc o, Kd.R_alloc h.rd o, Kd.C_alloc h.rl o, Nat.lt_of_lt_of_le h.lt (by simp), h.l4, h.ll, h.sg, h.gg⟩
theorem Js.drew (h : Js w W g cb sb gr l0 p n a sz A3 c3 c4 dg l) : Js w W.drew g cb sb gr l0 p n a sz A3 c3 c4 dg l := ⟨h.jc.drew, h.jm.drew, Kd.R_drew h.rd, Kd.C_drew h.rl, h.lt, h.l4, h.ll, h.sg, h.gg⟩
theorem Js.below (h : Js w W g cb sb gr l0 p n a sz A3 c3 c4 dg l) (hb : Below W.heap.size W W') : Js w W' g cb sb gr l0 p n a sz A3 c3 c4 dg l := ⟨h.jc.below hb, h.jm.below hb, Kd.R_below h.rd hb, Kd.C_below h.rl hb, Nat.lt_of_lt_of_le h.lt hb.size, h.l4, h.ll, h.sg, h.gg⟩
theorem Js.lc (h : Js w W g cb sb gr l0 p n a sz A3 c3 c4 dg l) : Kd.C k41 W (some ⟨gr, 0, none⟩) l.length l ∧ l.length ≤ c4 := ⟨h.rl, h.l4⟩
theorem Js.dc (h : Js w W g cb sb gr l0 p n a sz A3 c3 c4 dg l) : Kd.C (Kd.int .i64) W A3 dg.length dg ∧ dg.length ≤ c3 := ⟨(Kd.R_reads' h.rd).2.2, (Kd.R_reads' h.rd).2.1⟩
theorem Js.new (h : Js w W g cb sb gr l0 p n a sz A3 c3 c4 dg l) : cb < W.heap.size ∧ sb ≠ W.heap.size ∧ gr ≠ W.heap.size ∧ W.heap.size ≠ g := ⟨h.jc.lt, Nat.ne_of_lt (blk_lt h.jm.hs), Nat.ne_of_lt h.lt, Nat.ne_of_gt (IsS52.lt h.jc.hi)⟩
theorem Js.far {xb j t : Nat} {cs : Array Value} (h : Js w W g cb sb gr l0 p n a sz A3 c3 c4 dg l) (hx : W.heap[xb]? = some (.cells cs t (0, 0))) (ht : t ≠ 3) (hq : cb < xb ∧ sb ≠ xb ∧ gr ≠ xb ∧ xb ≠ g) (u : Value) : Js w (W.setCell ⟨xb, j, none⟩ u) g cb sb gr l0 p n a sz A3 c3 c4 dg l :=
  ⟨h.jc.far hq.1 u, h.jm.far (Nat.ne_of_lt hq.1) hq.2.1 u, Kd.R_mono (Kd.R_far (p := ⟨xb, j, none⟩) (Kd.R_types h.rd hx (fun q hq => by
    rcases List.mem_cons.1 hq with e | e
    · rw [e]; exact fun e => ht e.symm
    · exact absurd (show q ∈ ([] : List Nat) from e) List.not_mem_nil)) (fun _ hk => hk.2) u) (fun _ hk => hk.1), C_block h.ll h.rl (Below.heap_setCell W ⟨xb, j, none⟩ u gr hq.2.2.1), Nat.lt_of_lt_of_le h.lt (by simp), h.l4, h.ll, h.sg, h.gg⟩
/-- .. and a row that the deck's callee may read. -/
def Jt (w W : World) (g cb sb gr : Nat) (l0 : List Int) (p n a sz : Int) (A3 : Option Addr) (c3 c4 : Nat) (dg : List Int) (l : List S41) (A1 : Option Addr) (m : List S41) : Prop :=
  Js w W g cb sb gr l0 p n a sz A3 c3 c4 dg l ∧ ∀ W_, KeepBut W W_ g none → Kd.C k41 W_ A1 m.length m
theorem Jt.alloc {A1 : Option Addr} {m : List S41} (h : Jt w W g cb sb gr l0 p n a sz A3 c3 c4 dg l A1 m) (o : Obj) : Jt w (W.alloc o) g cb sb gr l0 p n a sz A3 c3 c4 dg l A1 m :=
  ⟨h.1.alloc o, fun W_ hk => h.2 W_ (KeepBut.trans (KeepBut.of_below (below_alloc (Below.refl _ _) o) g none) hk (.inl rfl))⟩
theorem Js.cut {i : Nat} {u : Value} (h : Js w W g cb sb gr l0 p n a sz A3 c3 c4 dg l) (hi : i < l.length) (hu1 : i + 1 < l.length → u = .slice (some ⟨gr, (i + 1) * 2, none⟩) (l.length - (i + 1)) (c4 - (i + 1))) (hu2 : i + 1 = l.length → ∃ A' c', u = .slice A' 0 c') :
    ∃ A1 c1 w1, (Builtin.append_ #[23, 23] 23 #[.slice (some ⟨gr, 0, none⟩) i i, u]).run Try.prog W = .ok (.slice A1 (without l i).length c1) w1 ∧ (without l i).length ≤ c1 ∧ Below W.heap.size W w1 ∧ Jt w w1 g cb sb gr l0 p n a sz A3 c3 c4 dg l A1 (without l i) := by
  obtain ⟨A1, c1, w1, hrun, hle, hA, hC, hg⟩ := cut_append (W := W) hi h.l4 h.ll h.rl hu1 hu2
  have hb : Below W.heap.size W w1 := ⟨hg.os, hg.tape, hg.output, hg.size, fun i hi => hg.block i hi (by simp)⟩
  refine ⟨A1, c1, w1, hrun, hle, hb, h.below hb, fun W_ hk => ?_⟩
  by_cases hp : 0 < (without l i).length
  · obtain ⟨gr1, e, hgr⟩ := hA hp
    subst e
    have hlt := Kd.C_lt hC hp (by decide)
    refine C_block (by have := h.ll; rw [without_length hi]; omega) hC (hk.2 gr1 hlt ?_ (by simp))
    rcases hgr with rfl | hgr
    · exact h.gg
    · exact Nat.ne_of_gt (Nat.lt_of_lt_of_le (IsS52.lt h.jc.hi) hgr)
  · exact C_empty _ _ hp
/-- .. and a row that is drawn. -/
def Ju (w W : World) (g cb sb gr : Nat) (l0 : List Int) (p n a sz : Int) (A3 : Option Addr) (c3 c4 : Nat) (dg : List Int) (l : List S41) (A2 : Option Addr) (m : List S41) : Prop :=
  Js w W g cb sb gr l0 p n a sz A3 c3 c4 dg l ∧ Kd.C k41 W A2 m.length m
theorem Ju.alloc {A1 : Option Addr} {m : List S41} (h : Ju w W g cb sb gr l0 p n a sz A3 c3 c4 dg l A1 m) (o : Obj) : Ju w (W.alloc o) g cb sb gr l0 p n a sz A3 c3 c4 dg l A1 m :=
  ⟨h.1.alloc o, Kd.C_alloc h.2 o⟩
theorem Jt.some {A1 : Option Addr} {c1 : Nat} {m part : List S41} {q : Int} (h : Jt w W g cb sb gr l0 p n a sz A3 c3 c4 dg l A1 m) (hle : m.length ≤ c1) (hf : storagebarterlaw13_some.f l0 p m q = some (part, p')) :
    Calls Try.prog 13 #[.pointer (some ⟨g, 0, none⟩), .slice A1 m.length c1, .int .i64 q] W fun e w' => ∃ A2 c2, e = .returned (.slice A2 part.length c2) ∧ part.length ≤ c2 ∧ KeepBut W w' g none ∧ Ju w w' g cb sb gr l0 p' n a sz A3 c3 c4 dg l A2 part :=
  (storagebarterlaw13_some.calls g l0 p A1 c1 m q part p' w W h.1.jc.hi h.1.jc.hb h.2 hle hf).mono fun e w' ⟨v0, e1, e2, e3, e4, e5⟩ => by
    obtain ⟨A2, c2, rfl⟩ := Kd.R_slice e2
    have hr := Kd.R_reads' e2
    have hcg : cb ≠ g := Nat.ne_of_gt h.1.jc.hn
    exact ⟨A2, c2, e1, hr.2.1, e5, ⟨⟨e3, e4, e5.blk h.1.jc.hc hcg (by simp), h.1.jc.hn⟩, h.1.jm.keep e5 hcg h.1.sg, R_keep h.1.rd e5, C_block h.1.ll h.1.rl (e5.2 gr h.1.lt h.1.gg (by simp)), Nat.lt_of_lt_of_le h.1.lt e5.1, h.1.l4, h.1.ll, h.1.sg, h.1.gg⟩, hr.2.2⟩
theorem Ju.repair {A2 : Option Addr} {c2 k : Nat} {m : List S41} {q x0 : Int} {x1 : ByteArray} (h : Ju w W g cb sb gr l0 p n a sz A3 c3 c4 dg l A2 m) (hle : m.length ≤ c2) (hf : stripe_Repair.f k n a sz dg m q = some (x0, x1, 0)) :
    Calls Try.prog 17 #[.agg #[.int .i64 n, .int .i64 a, .int .i64 sz, .slice A3 dg.length c3], .slice A2 m.length c2, .int .i64 q] W fun e w' => e = .returned (.tuple #[.agg #[.int .i64 x0, .string x1], .int .i64 0]) ∧ Below W.heap.size W w' ∧ Js w w' g cb sb gr l0 p n a sz A3 c3 c4 dg l :=
  (stripe_Repair.calls k n a sz A3 c3 dg A2 c2 m q x0 x1 0 W h.1.dc.1 h.1.dc.2 h.2 hle hf).mono fun e w' ⟨e1, e2⟩ => ⟨e1, e2, h.1.below e2⟩
end
/-- The world at hand is W, as it is spelled. -/
theorem at_world (W : World) {P : Program} {o : Oper} {a : Act} {Kc : Act → World → Prop} {Q : Exit → Act → World → Prop} {c : Bool} (h : if c = true then Oper.wp P o a W Kc Q else Kc (a.put o.dst undef) W) : if c = true then Oper.wp P o a W Kc Q else Kc (a.put o.dst undef) W := h
end Go.Proofs.Ythfddndmhjkeiaa.L
end
section
/- A shard's data stored anew in a row of shards. -/
namespace Go.Proofs.Ythfddndmhjkeiaa.L
open Go.RowKit Go.Proofs.YthfddndmhjkeiaaW.PrintWords Go.Proofs.YthfddndmhjkeiaaW.PrintLast Go.Proofs.YthfddndmhjkeiaaW.PrintMore
set_option linter.unusedVariables false
set_option linter.unusedSimpArgs false
/-- The row with the data of element k put anew. -/
def setData (l : List S41) (k : Nat) (s : ByteArray) : List S41 := l.set k ⟨(rd_T41 l (k : Int)).f0, s⟩
theorem setData_length (l : List S41) (k : Nat) (s : ByteArray) : (setData l k s).length = l.length := List.length_set ..
theorem rd_T41_get {l : List S41} {k : Nat} (h : k < l.length) : rd_T41 l (k : Int) = l[k] := by
  unfold rd_T41
  rw [Int.toNat_natCast, List.getD_eq_getElem?_getD, List.getElem?_eq_getElem h]
  rfl
theorem setData_get {l : List S41} {k j : Nat} {s : ByteArray} (hk : k < l.length) (hj : j < l.length) : rd_T41 (setData l k s) (j : Int) = if k = j then ⟨(rd_T41 l (k : Int)).f0, s⟩ else rd_T41 l (j : Int) := by
  rw [rd_T41_get (by rw [setData_length]; exact hj), rd_T41_get hj]
  unfold setData
  rw [List.getElem_set]
theorem C37_set {W : World} {g n k : Nat} {l : List S41} {t : TypeId} {cur : Array Value} {s : ByteArray} (hb : W.heap[g]? = some (.cells cur t (0, 0))) (h : Kd.C k41 W (some ⟨g, 0, none⟩) n l) (hl : l.length ≤ 1000000) (hk : k < l.length) :
    Kd.C k41 (W.setCell ⟨g, k * 2 + 1, none⟩ (.string s)) (some ⟨g, 0, none⟩) (setData l k s).length (setData l k s) := by
  have hc := cells_of_C37 h
  simp only [add_plain] at hc
  refine C37_of_cells (by rw [setData_length]; exact hl) fun j u hj => ?_
  rw [add_plain]
  have hq := cells37_get (setData l k s) (j / 2)
  have hq2 := cells37_get l (j / 2)
  have hjl := (List.getElem?_eq_some_iff.1 hj).1
  rw [cells37_length, setData_length] at hjl
  have hj2 : j / 2 < l.length := by omega
  have hset := blk_set hb (k * 2 + 1) (.string s)
  have hcur : ∀ j u, (cells37 l)[j]? = some u → cur[j]? = some u := fun j u h' => by
    have := hc j u h'
    rwa [blk_cell hb] at this
  rw [blk_cell hset]
  have hks : k * 2 + 1 < cur.size := by
    have h1 := (cells37_get l k).2
    rw [List.getElem?_eq_getElem hk] at h1
    have h2 := hcur _ _ h1
    exact (Array.getElem?_eq_some_iff.1 h2).1
  by_cases e : k * 2 + 1 = j
  · subst e
    rw [Array.getElem?_setIfInBounds_self_of_lt hks]
    have hd : (k * 2 + 1) / 2 = k := by omega
    rw [hd] at hq
    have h2 := hq.2
    rw [hj] at h2
    unfold setData at h2
    rw [List.getElem?_set_self hk] at h2
    exact h2.symm
  · rw [Array.getElem?_setIfInBounds_ne e]
    refine hcur j u ?_
    rw [← hj]
    rcases Nat.mod_two_eq_zero_or_one j with hm | hm
    · have e1 : j / 2 * 2 = j := by omega
      rw [e1] at hq hq2
      rw [hq.1, hq2.1]
      unfold setData
      by_cases ek : k = j / 2
      · rw [← ek, List.getElem?_set_self hk, List.getElem?_eq_getElem hk, ← rd_T41_get hk]
        rfl
      · rw [List.getElem?_set_ne ek]
    · have e1 : j / 2 * 2 + 1 = j := by omega
      rw [e1] at hq hq2
      rw [hq.2, hq2.2]
      unfold setData
      rw [List.getElem?_set_ne (by omega)]
end Go.Proofs.Ythfddndmhjkeiaa.L
end
section
/- law13's StripeForged: what holds at each world of its rounds. -/
namespace Go.Proofs.Ythfddndmhjkeiaa.L
open Go.RowKit Go.Proofs.YthfddndmhjkeiaaW.PrintWords Go.Proofs.YthfddndmhjkeiaaW.PrintLast Go.Proofs.YthfddndmhjkeiaaW.PrintMore
set_option linter.unusedVariables false
set_option linter.unusedSimpArgs false
/-- The deck, the code, the stripe with its digests, and the row of shards at gm. Blocks from B on are younger than the stripe. -/
structure Jf (w W : World) (B g cb sb gm : Nat) (l0 : List Int) (p n a sz : Int) (A3 : Option Addr) (c3 : Nat) (dg : List Int) (m : List S41) : Prop where
  jc : Jc w W g cb l0 p n a
  jm : Jm W cb sb n a sz A3 dg.length c3
  rd : Kd.R (Kd.int .i64) 3 W w.heap.size (fun k => k ≠ g ∧ k < B) (.slice A3 dg.length c3) dg
  mx : Kd.C k41 W (some ⟨gm, 0, none⟩) m.length m
  mb : ∃ cur, W.heap[gm]? = some (.cells cur 41 (0, 0))
  ml : m.length ≤ 1000
  q1 : cb < gm ∧ sb ≠ gm ∧ B ≤ gm
  q2 : sb ≠ g ∧ B ≤ W.heap.size
section
variable {w W W' : World} {B g cb sb gm : Nat} {l0 : List Int} {p p' n a sz : Int} {A3 : Option Addr} {c3 : Nat} {dg : List Int} {m : List S41}
theorem Jf.lt (h : Jf w W B g cb sb gm l0 p n a sz A3 c3 dg m) : gm < W.heap.size := by obtain ⟨cur, hc⟩ := h.mb; exact blk_lt hc
theorem Jf.gg (h : Jf w W B g cb sb gm l0 p n a sz A3 c3 dg m) : gm ≠ g := Nat.ne_of_gt (Nat.lt_trans h.jc.hn h.q1.1)
theorem Jf.below (h : Jf w W B g cb sb gm l0 p n a sz A3 c3 dg m) (hb : Below W.heap.size W W') : Jf w W' B g cb sb gm l0 p n a sz A3 c3 dg m :=
  ⟨h.jc.below hb, h.jm.below hb, Kd.R_below h.rd hb, Kd.C_below h.mx hb, by obtain ⟨cur, hc⟩ := h.mb; exact ⟨cur, blk_below hc hb⟩, h.ml, h.q1, h.q2.1, Nat.le_trans h.q2.2 hb.size⟩
theorem Jf.drew (h : Jf w W B g cb sb gm l0 p n a sz A3 c3 dg m) : Jf w W.drew B g cb sb gm l0 p n a sz A3 c3 dg m := h.below (below_drew1 (Below.refl _ _))
theorem Jf.dc (h : Jf w W B g cb sb gm l0 p n a sz A3 c3 dg m) : Kd.C (Kd.int .i64) W A3 dg.length dg ∧ dg.length ≤ c3 := ⟨(Kd.R_reads' h.rd).2.2, (Kd.R_reads' h.rd).2.1⟩
theorem Jf.next {q r : Int} (h : Jf w W B g cb sb gm l0 p n a sz A3 c3 dg m) (hf : storagebartermake_Deck_Next.f l0 p q = some (r, p')) :
    Calls Try.prog 14 #[.pointer (some ⟨g, 0, none⟩), .int .i64 q] W fun e w' => e = .returned (.int .i64 r) ∧ Jf w w' B g cb sb gm l0 p' n a sz A3 c3 dg m ∧ KeepBut W w' g none :=
  (h.jc.next hf).mono fun e w' ⟨e1, e2, e3⟩ => by
    have hcg : cb ≠ g := Nat.ne_of_gt h.jc.hn
    refine ⟨e1, ⟨e2, h.jm.keep e3 hcg h.q2.1, Kd.R_step h.rd (fun k ho hl => e3.2 k hl ho.1 (by simp)), C_block (by have := h.ml; omega) h.mx (e3.2 gm h.lt h.gg (by simp)), ?_, h.ml, h.q1, h.q2.1, Nat.le_trans h.q2.2 e3.1⟩, e3⟩
    obtain ⟨cur, hc⟩ := h.mb
    exact ⟨cur, e3.blk hc h.gg (by simp)⟩
/-- A store into a block that is none of these. -/
theorem Jf.far (h : Jf w W B g cb sb gm l0 p n a sz A3 c3 dg m) {q : Addr} (hq : cb < q.block ∧ sb ≠ q.block ∧ gm ≠ q.block ∧ B ≤ q.block) (u : Value) : Jf w (W.setCell q u) B g cb sb gm l0 p n a sz A3 c3 dg m :=
  ⟨h.jc.far hq.1 u, h.jm.far (Nat.ne_of_lt hq.1) hq.2.1 u, Kd.R_far h.rd (fun k ho => Nat.ne_of_lt (Nat.lt_of_lt_of_le ho.2 hq.2.2.2)) u, C_block (by have := h.ml; omega) h.mx (Below.heap_setCell W q u gm hq.2.2.1),
    by obtain ⟨cur, hc⟩ := h.mb; exact ⟨cur, blk_far hc hq.2.2.1 u⟩, h.ml, h.q1, h.q2.1, by have := h.q2.2; simpa using this⟩
/-- A shard's data stored anew. -/
theorem Jf.put (h : Jf w W B g cb sb gm l0 p n a sz A3 c3 dg m) {k : Nat} (hk : k < m.length) (s : ByteArray) : Jf w (W.setCell ⟨gm, k * 2 + 1, none⟩ (.string s)) B g cb sb gm l0 p n a sz A3 c3 dg (setData m k s) := by
  obtain ⟨cur, hc⟩ := h.mb
  exact ⟨h.jc.far h.q1.1 _, h.jm.far (Nat.ne_of_lt h.q1.1) h.q1.2.1 _, Kd.R_far h.rd (fun k ho => Nat.ne_of_lt (Nat.lt_of_lt_of_le ho.2 h.q1.2.2)) _, C37_set hc h.mx (by have := h.ml; omega) hk, ⟨_, blk_set hc (k * 2 + 1) (.string s)⟩, by rw [setData_length]; exact h.ml, h.q1, h.q2.1, by have := h.q2.2; simpa using this⟩
theorem Jf.cells (h : Jf w W B g cb sb gm l0 p n a sz A3 c3 dg m) {k : Nat} (hk : k < m.length) : W.cell? ⟨gm, k * 2, none⟩ = some (.int .i64 (rd_T41 m (k : Int)).f0) ∧ W.cell? ⟨gm, k * 2 + 1, none⟩ = some (.string (rd_T41 m (k : Int)).f1) ∧ W.frozen? ⟨gm, k * 2 + 1, none⟩ = false := by
  obtain ⟨ad, e, hc0, hc1⟩ := at_T41 h.mx (k : Int) (by omega) (by omega)
  cases e
  rw [Int.toNat_natCast, add_plain] at hc0 hc1
  obtain ⟨cur, hc⟩ := h.mb
  exact ⟨hc0, hc1, blk_frozen hc _⟩
theorem Jf.right {k : Nat} {f0 : Int} {f1 : ByteArray} {r : Bool} (h : Jf w W B g cb sb gm l0 p n a sz A3 c3 dg m) (hf : stripe_Right.f k n a sz dg f0 f1 = some r) :
    Calls Try.prog 15 #[.agg #[.int .i64 n, .int .i64 a, .int .i64 sz, .slice A3 dg.length c3], .agg #[.int .i64 f0, .string f1]] W fun e w' => e = .returned (.bool r) ∧ Below W.heap.size W w' ∧ Jf w w' B g cb sb gm l0 p n a sz A3 c3 dg m :=
  (stripe_Right.calls k n a sz A3 c3 dg f0 f1 r W h.dc.1 h.dc.2 hf).mono fun e w' ⟨e1, e2⟩ => ⟨e1, e2, h.below e2⟩
theorem Jf.read {k cm : Nat} {key : Int} {t : ByteArray} {r : Int} (h : Jf w W B g cb sb gm l0 p n a sz A3 c3 dg m) (hcm : m.length ≤ cm) (hf : stripe_Read.f k n a sz dg m key = some (t, r)) :
    Calls Try.prog 16 #[.agg #[.int .i64 n, .int .i64 a, .int .i64 sz, .slice A3 dg.length c3], .slice (some ⟨gm, 0, none⟩) m.length cm, .int .i64 key] W fun e w' => e = .returned (.tuple #[.string t, .int .i64 r]) ∧ Below W.heap.size W w' :=
  stripe_Read.calls k n a sz A3 c3 dg (some ⟨gm, 0, none⟩) cm m key t r W h.dc.1 h.dc.2 h.mx hcm hf
end
end Go.Proofs.Ythfddndmhjkeiaa.L
end
section
/- law13's StripeForged: the walk along the way that the plain law tells. -/
namespace Go.Proofs.Ythfddndmhjkeiaa.L
open Go.RowKit Go.Proofs.YthfddndmhjkeiaaW.PrintWords Go.Proofs.YthfddndmhjkeiaaW.PrintLast Go.Proofs.YthfddndmhjkeiaaW.PrintMore
set_option linter.unusedVariables false
set_option linter.unusedSimpArgs false
/-- One round: the shard's byte is changed, and the answer told. -/
def ForgeStep (k : Nat) (l0 : List Int) (n a sz : Int) (dg : List Int) (a2 : Int) (j : Nat) (m m' : List S41) (q q' : Int) : Prop :=
  ∃ i : Nat, i < (rd_T41 m (j : Int)).f1.size ∧ (rd_T41 m (j : Int)).f1.size ≤ 1000 ∧ storagebartermake_Deck_Next.f l0 q ((rd_T41 m (j : Int)).f1.size : Int) = some ((i : Int), q') ∧
    m' = setData m j (strOfNums ((bytesOf (rd_T41 m (j : Int)).f1).set i a2)) ∧
    stripe_Right.f k n a sz dg (rd_T41 m (j : Int)).f0 (strOfNums ((bytesOf (rd_T41 m (j : Int)).f1).set i a2)) = some ((bytesOf (rd_T41 m (j : Int)).f1).getD i 0 == a2)
set_option maxHeartbeats 3000000 in
set_option maxRecDepth 100000 in
theorem storagebarterlaw13_StripeForged.main (k : Nat) (A0 : Option Addr) (c0 : Nat) (l0 : List Int) (a1 : ByteArray) (a2 : Int) (n a : Nat) (p1 sz : Int) (dg : List Int) (l : List S41) (ms : Nat → List S41) (qs : Nat → Int) (w : World)
    (hr0 : Kd.C (Kd.int .i64) w A0 l0.length l0) (hc0 : l0.length ≤ c0)
    (ha : 1 ≤ a) (ha9 : a ≤ 9) (hn : n ≤ a)
    (hF : storagebartermake_Few.f l0 = some true) (hsz : a1.size ≤ 400)
    (hC : storagebartermake_Code.f l0 0 = some ((n : Int), (a : Int), p1))
    (hM : stripe_Make.f k n a a1 9 = some ((n : Int), (a : Int), sz, dg, l, 0)) (hl : l.length = a)
    (hso : storagebarterlaw13_some.f l0 p1 l a = some (ms 0, qs 0)) (hms : ∀ j, (ms j).length = a)
    (hst : ∀ j, j < a - n → ForgeStep k l0 n a sz dg a2 j (ms j) (ms (j + 1)) (qs j) (qs (j + 1)))
    (hRd : stripe_Read.f k n a sz dg (ms (a - n)) 9 = some (a1, 0)) :
    Calls Try.prog 5 #[.slice A0 l0.length c0, .string a1, .int .u8 a2] w fun e w' => e = .returned (.bool true) ∧ Below w.heap.size w w' := by
  have hu30 := Try.underlying30
  have hu34 := Try.underlying34
  have hu41 := Try.underlying41
  have HR0 := Aside0.mk hr0
  have HC0 := Aside0.mk hc0
  have HF := Aside0.mk hF
  have HC := Aside0.mk hC
  have HM := Aside0.mk hM
  have HL := Aside0.mk hl
  have HSO := Aside0.mk hso
  have HMS := Aside0.mk hms
  have HST := Aside0.mk hst
  have HRD := Aside0.mk hRd
  have HNW := Aside0.mk (show storagebartermake_New.f l0 = some (l0, 0) from rfl)
  have d1 : decide ((a1.size : Int) > 400) = false := decide_eq_false (by omega)
  clear hr0 hc0 hF hC hM hl hso hms hst hRd
  go_enter Try.func5, Try.ntmps5
  go_wp2_with fail
  refine (storagebarterlaw13_sane.holds w).mono ?_
  rintro e w1 ⟨rfl, hb1⟩
  have HB1 := Aside0.mk hb1
  clear hb1
  go_wp2_with fail
  refine (storagebartermake_Few.calls _ _ l0 true _ (Kd.C_below HR0.out HB1.out) HC0.out HF.out).mono ?_
  rintro e w2 ⟨rfl, ⟨nd, rfl⟩⟩
  go_wp2_with fail
  refine (storagebartermake_New.calls _ _ l0 l0 0 w _ (pw_below_drewN HB1.out _) HR0.out HC0.out HNW.out).mono ?_
  rintro e w3 ⟨g, rfl, hI3, hb3, _⟩
  have HI3 := Aside0.mk hI3
  have HB3 := Aside0.mk hb3
  clear hI3 hb3 HB1
  go_wp2_with fail
  refine (storagebartermake_Code.calls g l0 0 n a p1 w _ HI3.out HB3.out HC.out).mono ?_
  rintro e w4 ⟨rfl, hI4, hb4, hk4⟩
  have HI4 := Aside0.mk hI4
  have HB4 := Aside0.mk hb4
  clear hI4 hb4 hk4 HB3 HI3
  go_wp2_with fail
  have hgs4 : g < w4.heap.size := HI4.out.lt
  obtain ⟨W5, hW5⟩ : ∃ W5, w4.alloc (.cells #[.int .i64 (n : Int), .int .i64 (a : Int)] 30) = W5 := ⟨_, rfl⟩
  have J5 : Jc w W5 g w4.heap.size l0 p1 n a := by
    rw [← hW5]
    exact ⟨HI4.out.alloc _, below_alloc HB4.out _, blk_new w4 _, hgs4⟩
  rw [hW5]
  have H5 : w4.heap.size < W5.heap.size := J5.lt
  clear HI4 HB4 hW5
  generalize w4.heap.size = cb at J5 H5 hgs4 ⊢
  have J5 := Aside0.mk J5
  refine (Jc.make J5.out HM.out).mono ?_
  rintro e w7 ⟨A3, c3, A4, c4, rfl, hO3, hO4, J7, hb7⟩
  have hlp : 0 < l.length := by have := HL.out; omega
  obtain ⟨gr, cp4, e4, hgr0, hgr1, _⟩ := Kd.R_form hO4 hlp
  injection e4 with e4 _ e4c
  subst e4 e4c
  have hg5 : g < W5.heap.size := Nat.lt_trans hgs4 H5
  have hl7 := (Kd.R_reads' hO4).2
  have hgr7 : gr ≠ g := Nat.ne_of_gt (Nat.lt_of_lt_of_le hg5 hgr0)
  obtain ⟨W8, hW8⟩ : ∃ W8, w7.alloc (.cells #[.int .i64 n, .int .i64 a, .int .i64 sz, .slice A3 dg.length c3] 34) = W8 := ⟨_, rfl⟩
  have hs8 : W8.heap.size = w7.heap.size + 1 := by rw [← hW8]; simp
  have J8 := Aside0.mk (show Jc w W8 g cb l0 p1 n a by rw [← hW8]; exact J7.alloc _)
  have M8 := Aside0.mk (show Jm W8 cb w7.heap.size n a sz A3 dg.length c3 by rw [← hW8]; exact ⟨(J7.alloc _).hc, blk_new w7 _⟩)
  have R8 := Aside0.mk (show Kd.R (Kd.int .i64) 3 W8 w.heap.size (fun k => k ≠ g ∧ k < W8.heap.size) (.slice A3 dg.length c3) dg by
    rw [← hW8]
    refine Kd.R_mono (Kd.R_bound (R_off (w := w) (Kd.R_alloc hO3 _) hg5 J5.out.hb.size)) (fun k hk => ⟨hk.1, hk.2.2.1⟩))
  have L8 := Aside0.mk (show ∀ W_, KeepBut W8 W_ g none → Kd.C k41 W_ (some ⟨gr, 0, none⟩) l.length l by
    rw [← hW8]
    exact fun W_ hk => C_block (by have := HL.out; omega) (Kd.C_alloc hl7.2 _) (hk.2 gr (by simp; omega) hgr7 (by simp)))
  have LC := Aside0.mk hl7.1
  have H7 : cb < w7.heap.size := J7.lt
  have hs7 : w7.heap.size ≠ g := Nat.ne_of_gt (Nat.lt_trans hgs4 H7)
  clear hl7 hO3 hO4 J7 hb7 HM hgr0 hgr1
  have hlb : ((l.length : Int) != (a : Int)) = false := by rw [HL.out]; simp
  have x1 := J8.out.c1
  go_wp2_with fail
  refine (storagebarterlaw13_some.calls g l0 p1 (some ⟨gr, 0, none⟩) c4 l a (ms 0) (qs 0) w _ J8.out.hi J8.out.hb L8.out LC.out HSO.out).mono ?_
  rintro e w9 ⟨v0, rfl, hO9, hi9, hb9, hk9⟩
  obtain ⟨gm, cpm, e9, hgm0, hgm1, curm, hgmc⟩ := Kd.R_form hO9 (by have := HMS.out 0; omega)
  subst e9
  have hcg : cb ≠ g := Nat.ne_of_gt hgs4
  have hr9 := Kd.R_reads' hO9
  have J9 := Aside0.mk (show Jf w w9 W8.heap.size g cb w7.heap.size gm l0 (qs 0) n a sz A3 c3 dg (ms 0) from
    ⟨⟨hi9, hb9, hk9.blk J8.out.hc hcg (by simp), hgs4⟩, M8.out.keep hk9 hcg hs7, Kd.R_step R8.out (fun k ho hl => hk9.2 k hl ho.1 (by simp)), hr9.2.2, ⟨curm, hgmc⟩, by have := HMS.out 0; omega, ⟨by omega, by omega, hgm0⟩, hs7, hk9.1⟩)
  have HCM := Aside0.mk (show a ≤ cpm by have h1 := hr9.2.1; have := HMS.out 0; omega)
  have h0l := HMS.out 0
  rw [h0l]
  clear hr9 hO9 hi9 hb9 hk9 hgmc J8 M8 R8 L8 LC HSO hgm0 hgm1 hlb x1 h0l
  generalize w7.heap.size = sb at J9 hs7 H7 hs8 ⊢
  generalize W8.heap.size = B at J9 hs8
  have hw0 : IntKind.i64.wrap ((a : Int) - (n : Int)) = ((a - n : Nat) : Int) := (i64_w _).trans ((w64' (by omega) (by omega)).trans (by omega))
  have y0 := J9.out.jc.c0
  have y1 := J9.out.jc.c1
  clear y0 y1
  go_wp2_with fail
  go_loopw [13] (fun v wr => ∃ j : Nat, v = .int .i64 (j : Int) ∧ j ≤ a - n ∧ Aside0 (Jf w wr B g cb sb gm l0 (qs j) n a sz A3 c3 dg (ms j))) (fun v _ => a - n - (intOf v).toNat)
  case atStart => exact ⟨0, rfl, Nat.zero_le _, J9⟩
  case round =>
    obtain ⟨j, rfl, hj, JR⟩ := hrel
    have y0 := JR.out.jc.c0
    have y1 := JR.out.jc.c1
    by_cases hlt : j < a - n
    · have hltb : decide ((j : Int) < ((a - n : Nat) : Int)) = true := decide_eq_true (by omega)
      obtain ⟨i, hi0, hi1, hN, hms', hRt⟩ := HST.out j hlt
      go_upto_region 14 with (fail)
      clear y0 y1 hltb
      have HN := Aside0.mk hN
      have HRT := Aside0.mk hRt
      have HMS1 := Aside0.mk hms'
      have hjl : j < (ms j).length := by have := HMS.out j; omega
      obtain ⟨hc0, hc1, _⟩ := JR.out.cells hjl
      have hjc : (j : Int) < (a : Int) := by omega
      generalize hx0 : (rd_T41 (ms j) (j : Int)).f0 = x0 at hc0 HRT
      generalize hx1 : (rd_T41 (ms j) (j : Int)).f1 = x at hc1 HRT HMS1 HN hi0 hi1
      obtain ⟨cbb, wb, hcv, hBR, hbb, hcb⟩ := conv_bytes wr x (by omega)
      have JB := Aside0.mk (JR.out.below hbb)
      have HBR := Aside0.mk hBR
      have hxb : gm ≠ wr.heap.size := Nat.ne_of_lt JR.out.lt
      have HXQ := Aside0.mk (show cb < wr.heap.size ∧ sb ≠ wr.heap.size ∧ gm ≠ wr.heap.size ∧ B ≤ wr.heap.size from ⟨JR.out.jc.lt, Nat.ne_of_lt (blk_lt JR.out.jm.hs), hxb, JR.out.q2.2⟩)
      have hxg : wr.heap.size ≠ g := Nat.ne_of_gt (IsS52.lt JR.out.jc.hi)
      have hxz := hbb.size
      have hws := JR.out.jc.hb.size
      have HX0 := Aside0.mk hx0
      clear hN hRt hms' hc0 hx1 hBR hbb JR hx0
      go_wp2_with fail
      refine (Jf.next JB.out HN.out).mono ?_
      rintro e w10 ⟨rfl, J10, hk10⟩
      have HBR10 := Aside0.mk (HBR.out.block (hk10.2 wr.heap.size HBR.out.lt hxg (by simp)))
      have J10 := Aside0.mk J10
      clear JB hk10 HBR HN hc1 hcv
      generalize wr.heap.size = xb at HBR10 HXQ hxb hxg hxz hws ⊢
      have hlx : (bytesOf x).length = x.size := by rw [bytesOf_length]
      have b0 := HBR10.out.cell (j := i) (by rw [hlx]; exact hi0)
      have f0 := HBR10.out.frozen (j := i) (by rw [hlx]; exact hi0)
      have HBE := Aside0.mk (HBR10.out.set i a2)
      have hcv2 := HBE.out.string
      rw [List.length_set, hlx] at hcv2
      have hil2 : (i : Int) < (x.size : Int) := by omega
      have JE := Aside0.mk (J10.out.far (q := ⟨xb, i, none⟩) HXQ.out (.int .u8 a2))
      obtain ⟨hd0, hd1, hdf⟩ := JE.out.cells hjl
      have JP := Aside0.mk (JE.out.put hjl (strOfNums ((bytesOf x).set i a2)))
      rw [← HMS1.out] at JP
      clear HBE HBR10 J10 hlx
      go_upto_region 19 with (fail)
      clear b0 f0 hcv2 hd0 hd1 hdf hil2
      have hjl1 : j < (ms (j + 1)).length := by have := HMS.out (j + 1); omega
      obtain ⟨he0, he1, _⟩ := JP.out.cells hjl1
      have hget : rd_T41 (ms (j + 1)) (j : Int) = ⟨x0, strOfNums ((bytesOf x).set i a2)⟩ := by
        rw [HMS1.out, setData_get hjl hjl, if_pos rfl, HX0.out]
      rw [hget] at he0 he1
      have HRT2 := Aside0.mk (HRT.out.trans (by rw [List.getD_eq_getElem?_getD] : _ = some ((bytesOf x)[i]?.getD 0 == a2)))
      clear HRT hget HX0 HMS1 JE
      generalize ((bytesOf x)[i]?.getD 0 == a2) = same at HRT2 ⊢
      generalize strOfNums ((bytesOf x).set i a2) = nd at HRT2 he0 he1 JP ⊢
      obtain ⟨_, z0, z1, z2, z3⟩ := JP.out.jm.five
      have hne : (same != same) = false := by simp
      have JPd := Aside0.mk JP.out.drew
      clear hjl hjl1
      generalize ((w10.setCell ⟨xb, i, none⟩ (.int .u8 a2)).setCell ⟨gm, j * 2 + 1, none⟩ (.string nd)) = w11 at JP JPd he0 he1 z0 z1 z2 z3 ⊢
      go_region_held3 (fun w' => w'.cell? ⟨sb, 0, none⟩ = some (.int .i64 (n : Int)) ∧ w'.cell? ⟨sb, 1, none⟩ = some (.int .i64 (a : Int)) ∧ w'.cell? ⟨sb, 2, none⟩ = some (.int .i64 sz) ∧ w'.cell? ⟨sb, 3, none⟩ = some (.slice A3 dg.length c3) ∧ w'.cell? ⟨gm, j * 2, none⟩ = some (.int .i64 x0) ∧ w'.cell? ⟨gm, j * 2 + 1, none⟩ = some (.string nd)) (first | exact ⟨z0, z1, z2, z3, he0, he1⟩ | exact ⟨pw_cell_below hb12 z0, pw_cell_below hb12 z1, pw_cell_below hb12 z2, pw_cell_below hb12 z3, pw_cell_below hb12 he0, pw_cell_below hb12 he1⟩) (first | ((with_reducible refine (Jf.right JPd.out HRT2.out).mono ?_); rintro e w12 ⟨rfl, hb12, J12⟩))
      go_wp2_with fail
      exact ⟨⟨j + 1, rfl, by omega, ⟨J12⟩⟩, by simp [intOf]; omega⟩
    · have hltb : decide ((j : Int) < ((a - n : Nat) : Int)) = false := decide_eq_false (by omega)
      obtain rfl : j = a - n := by omega
      go_upto_region 21 with (fail)
      clear y0 y1 hltb
      obtain ⟨_, z0, z1, z2, z3⟩ := JR.out.jm.five
      have hR := Jf.read JR.out (cm := cpm) (by have := HMS.out (a - n); have := HCM.out; omega) HRD.out
      rw [HMS.out (a - n)] at hR
      have HBR := Aside0.mk JR.out.jc.hb
      clear JR HRD HST HMS
      go_wp2_with fail
      refine hR.mono ?_
      rintro e w12 ⟨rfl, hb12⟩
      have HB12 := Aside0.mk (below_step HBR.out hb12)
      clear hb12 hR
      go_wp2_with fail
      go_ret
      exact ⟨rfl, HB12.out⟩
#print axioms storagebarterlaw13_StripeForged.main
end Go.Proofs.Ythfddndmhjkeiaa.L
end
section
/- law13's StripeForged: what is left to the plain law, and the walk of the whole. -/
namespace Go.Proofs.Ythfddndmhjkeiaa.L
open Go.RowKit Go.Proofs.YthfddndmhjkeiaaW.PrintWords Go.Proofs.YthfddndmhjkeiaaW.PrintLast Go.Proofs.YthfddndmhjkeiaaW.PrintMore
set_option linter.unusedVariables false
set_option linter.unusedSimpArgs false
def StripeForgedMain (k : Nat) (l0 : List Int) (a1 : ByteArray) (a2 : Int) : Prop :=
  ∃ (n a : Nat) (p1 sz : Int) (dg : List Int) (l : List S41) (ms : Nat → List S41) (qs : Nat → Int), 1 ≤ a ∧ a ≤ 9 ∧ n ≤ a ∧ storagebartermake_Code.f l0 0 = some ((n : Int), (a : Int), p1) ∧
    stripe_Make.f k n a a1 9 = some ((n : Int), (a : Int), sz, dg, l, 0) ∧ l.length = a ∧ storagebarterlaw13_some.f l0 p1 l a = some (ms 0, qs 0) ∧ (∀ j, (ms j).length = a) ∧
    (∀ j, j < a - n → ForgeStep k l0 n a sz dg a2 j (ms j) (ms (j + 1)) (qs j) (qs (j + 1))) ∧ stripe_Read.f k n a sz dg (ms (a - n)) 9 = some (a1, 0)
def storagebarterlaw13_StripeForged.Pure : Prop := ∀ (l0 : List Int) (a1 : ByteArray) (a2 : Int), 0 ≤ a2 → a2 ≤ 255 → l0.length ≤ 500 → a1.size ≤ 400 → ∃ k, StripeForgedMain k l0 a1 a2
set_option maxHeartbeats 600000 in
set_option maxRecDepth 100000 in
theorem storagebarterlaw13_StripeForged.early (A0 : Option Addr) (c0 : Nat) (l0 : List Int) (a1 : ByteArray) (a2 : Int) (w : World)
    (hr0 : Kd.C (Kd.int .i64) w A0 l0.length l0) (hc0 : l0.length ≤ c0) (h20 : 0 ≤ a2) (h2 : a2 ≤ 255) (hno : ¬ (l0.length ≤ 500 ∧ a1.size ≤ 400)) :
    Calls Try.prog 5 #[.slice A0 l0.length c0, .string a1, .int .u8 a2] w fun e w' => e = .returned (.bool true) ∧ Below w.heap.size w w' := by
  have HR0 := Aside0.mk hr0
  have HC0 := Aside0.mk hc0
  clear hr0 hc0
  by_cases hF : l0.length ≤ 500
  · have HF := Aside0.mk (show storagebartermake_Few.f l0 = some true by unfold storagebartermake_Few.f; rw [decide_eq_true (by omega)])
    have d1 : decide ((a1.size : Int) > 400) = true := decide_eq_true (by omega)
    clear hF hno
    go_enter Try.func5, Try.ntmps5
    go_wp2_with fail
    refine (storagebarterlaw13_sane.holds w).mono ?_
    rintro e w1 ⟨rfl, hb1⟩
    have HB1 := Aside0.mk hb1
    clear hb1
    go_wp2_with fail
    refine (storagebartermake_Few.calls _ _ l0 true _ (Kd.C_below HR0.out HB1.out) HC0.out HF.out).mono ?_
    rintro e w2 ⟨rfl, ⟨nd, rfl⟩⟩
    go_wp2_with fail
    go_ret
    exact ⟨rfl, pw_below_drewN HB1.out _⟩
  · have HF := Aside0.mk (show storagebartermake_Few.f l0 = some false by unfold storagebartermake_Few.f; rw [decide_eq_false (by omega)])
    clear hF hno
    go_enter Try.func5, Try.ntmps5
    go_wp2_with fail
    refine (storagebarterlaw13_sane.holds w).mono ?_
    rintro e w1 ⟨rfl, hb1⟩
    have HB1 := Aside0.mk hb1
    clear hb1
    go_wp2_with fail
    refine (storagebartermake_Few.calls _ _ l0 false _ (Kd.C_below HR0.out HB1.out) HC0.out HF.out).mono ?_
    rintro e w2 ⟨rfl, ⟨nd, rfl⟩⟩
    go_wp2_with fail
    go_ret
    exact ⟨rfl, pw_below_drewN HB1.out _⟩
theorem u8_wf' {a : Int} (h : (Lit.int .u8 a).wf = true) : 0 ≤ a ∧ a ≤ 255 := by
  simp only [Lit.wf, Bool.and_eq_true, decide_eq_true_eq] at h
  exact ⟨h.1, h.2⟩
theorem storagebarterlaw13_StripeForged.walk (P : storagebarterlaw13_StripeForged.Pure) (a0 : Option Addr) (len0 cap0 : Nat) (z0 : List Int) (a1 : ByteArray) (a2 : Int) (w : World) (w0 : (a0 = none ∧ len0 = 0 ∧ cap0 = 0 ∧ z0 = []) ∨ ∃ x, a0 = some x ∧ len0 ≤ cap0 ∧ cap0 ≤ maxLen ∧ z0.length = cap0 ∧ (∀ i, i < z0.length → w.cell? (x.add i) = some (.int .i64 (z0.getD i 0))) ∧ ∀ n ∈ z0, (Lit.int .i64 n).wf = true) (y0 : len0 * 8 ≤ 140737488351232) (w1 : a1.size ≤ 140737488351232) (w2 : (Lit.int .u8 a2).wf = true) :
    Calls Try.prog 5 #[.slice a0 len0 cap0, .string a1, .int .u8 a2] w fun e w' => e = .returned (.bool true) ∧ Below w.heap.size w w' := by
  obtain ⟨l0, rfl, hr0, hm0, hw0, hc0⟩ := ReadsInt.ofRowC w0
  obtain ⟨h20, h2⟩ := u8_wf' w2
  have hr := Kd.C_of_reads (d := (0 : Int)) (h1 := fun _ => rfl) hr0
  by_cases hno : l0.length ≤ 500 ∧ a1.size ≤ 400
  · obtain ⟨k, n, a, p1, sz, dg, l, ms, qs, h1, h3, h4, h5, h6, h7, h8, h9, h10, h11⟩ := P l0 a1 a2 h20 h2 hno.1 hno.2
    exact storagebarterlaw13_StripeForged.main k _ _ l0 a1 a2 n a p1 sz dg l ms qs w hr hc0 h1 h3 h4 (by unfold storagebartermake_Few.f; rw [decide_eq_true (by omega)]) hno.2 h5 h6 h7 h8 h9 h10 h11
  · exact storagebarterlaw13_StripeForged.early _ _ l0 a1 a2 w hr hc0 h20 h2 hno
#print axioms storagebarterlaw13_StripeForged.walk
end Go.Proofs.Ythfddndmhjkeiaa.L
end
section
/- The plain law of the erasure code, part A: the field, bytes, combine, shard. -/
namespace Go.Proofs.Ythfddndmhjkeiaa.L
open Go.RowKit Go.Proofs.YthfddndmhjkeiaaW.PrintWords Go.Proofs.YthfddndmhjkeiaaW.PrintLast Go.Proofs.YthfddndmhjkeiaaW.PrintMore
set_option linter.unusedVariables false
set_option linter.unusedSimpArgs false

/-! ### more rounds -/
theorem upk {α : Type} {g : Nat → Option α} (h : ∀ k, LeO (g k) (g (k + 1))) {k k' : Nat} (hk : k ≤ k') {r : α} (hr : g k = some r) : g k' = some r := by
  have := more_rounds h k (k' - k) r hr
  rwa [Nat.add_sub_cancel' hk] at this

/-! ### the field -/
theorem f_dist : ∀ a b c : Fin 16, gm a.1 (gx b.1 c.1) = gx (gm a.1 b.1) (gm a.1 c.1) ∧ gm (gx b.1 c.1) a.1 = gx (gm b.1 a.1) (gm c.1 a.1) := by decide +kernel
theorem f_assoc : ∀ a b c : Fin 16, gm a.1 (gm b.1 c.1) = gm (gm a.1 b.1) c.1 ∧ gx a.1 (gx b.1 c.1) = gx (gx a.1 b.1) c.1 := by decide +kernel
theorem f_comm : ∀ a b : Fin 16, gx a.1 b.1 = gx b.1 a.1 ∧ gx a.1 0 = a.1 ∧ gx 0 a.1 = a.1 ∧ gm a.1 0 = 0 ∧ gm 0 a.1 = 0 ∧ gm 1 a.1 = a.1 ∧ gm a.1 1 = a.1 := by decide +kernel
theorem gm_gx {a b c : Int} (ha : El a) (hb : El b) (hc : El c) : gm a (gx b c) = gx (gm a b) (gm a c) := by
  obtain ⟨i, rfl⟩ := ha.fin; obtain ⟨j, rfl⟩ := hb.fin; obtain ⟨k, rfl⟩ := hc.fin
  exact (f_dist i j k).1
theorem gx_gm {a b c : Int} (ha : El a) (hb : El b) (hc : El c) : gm (gx b c) a = gx (gm b a) (gm c a) := by
  obtain ⟨i, rfl⟩ := ha.fin; obtain ⟨j, rfl⟩ := hb.fin; obtain ⟨k, rfl⟩ := hc.fin
  exact (f_dist i j k).2
theorem gm_gm {a b c : Int} (ha : El a) (hb : El b) (hc : El c) : gm a (gm b c) = gm (gm a b) c := by
  obtain ⟨i, rfl⟩ := ha.fin; obtain ⟨j, rfl⟩ := hb.fin; obtain ⟨k, rfl⟩ := hc.fin
  exact (f_assoc i j k).1
theorem gx_gx {a b c : Int} (ha : El a) (hb : El b) (hc : El c) : gx a (gx b c) = gx (gx a b) c := by
  obtain ⟨i, rfl⟩ := ha.fin; obtain ⟨j, rfl⟩ := hb.fin; obtain ⟨k, rfl⟩ := hc.fin
  exact (f_assoc i j k).2
theorem gx_comm {a b : Int} (ha : El a) (hb : El b) : gx a b = gx b a := by
  obtain ⟨i, rfl⟩ := ha.fin; obtain ⟨j, rfl⟩ := hb.fin
  exact (f_comm i j).1
theorem gx_0 {a : Int} (ha : El a) : gx a 0 = a ∧ gx 0 a = a ∧ gm a 0 = 0 ∧ gm 0 a = 0 ∧ gm 1 a = a ∧ gm a 1 = a := by
  obtain ⟨i, rfl⟩ := ha.fin
  exact (f_comm i i).2
theorem El0 : El 0 := ⟨by decide, by decide⟩
theorem El1 : El 1 := ⟨by decide, by decide⟩
/-- The sum of n elements. -/
def gsum (n : Nat) (F : Nat → Int) : Int := match n with
  | 0 => 0
  | n + 1 => gx (gsum n F) (F n)
theorem gsum_el {F : Nat → Int} : ∀ n, (∀ j, j < n → El (F j)) → El (gsum n F)
  | 0, _ => El0
  | n + 1, h => gx_el (gsum_el n fun j hj => h j (by omega)) (h n (by omega))
theorem gsum_congr {F G : Nat → Int} : ∀ n, (∀ j, j < n → F j = G j) → gsum n F = gsum n G
  | 0, _ => rfl
  | n + 1, h => by
    show gx _ _ = gx _ _
    rw [gsum_congr n fun j hj => h j (by omega), h n (by omega)]
theorem gsum_zero : ∀ n, gsum n (fun _ => 0) = 0
  | 0 => rfl
  | n + 1 => by
    show gx _ _ = _
    rw [gsum_zero n]
    exact (gx_0 El0).1
theorem gsum_mul {F : Nat → Int} {c : Int} (hc : El c) : ∀ n, (∀ j, j < n → El (F j)) → gm c (gsum n F) = gsum n fun j => gm c (F j)
  | 0, _ => (gx_0 hc).2.2.1
  | n + 1, h => by
    show gm c (gx _ _) = gx _ _
    rw [gm_gx hc (gsum_el n fun j hj => h j (by omega)) (h n (by omega)), gsum_mul hc n fun j hj => h j (by omega)]
theorem gsum_mul' {F : Nat → Int} {c : Int} (hc : El c) : ∀ n, (∀ j, j < n → El (F j)) → gm (gsum n F) c = gsum n fun j => gm (F j) c
  | 0, _ => (gx_0 hc).2.2.2.1
  | n + 1, h => by
    show gm (gx _ _) c = gx _ _
    rw [gx_gm hc (gsum_el n fun j hj => h j (by omega)) (h n (by omega)), gsum_mul' hc n fun j hj => h j (by omega)]
theorem gsum_add {F G : Nat → Int} : ∀ n, (∀ j, j < n → El (F j)) → (∀ j, j < n → El (G j)) → (gsum n fun j => gx (F j) (G j)) = gx (gsum n F) (gsum n G)
  | 0, _, _ => ((gx_0 El0).1).symm
  | n + 1, hF, hG => by
    have e1 := gsum_el n fun j hj => hF j (Nat.lt_succ_of_lt hj)
    have e2 := gsum_el n fun j hj => hG j (Nat.lt_succ_of_lt hj)
    have e3 := hF n (Nat.lt_succ_self n)
    have e4 := hG n (Nat.lt_succ_self n)
    show gx _ (gx _ _) = gx (gx _ _) (gx _ _)
    rw [gsum_add n (fun j hj => hF j (Nat.lt_succ_of_lt hj)) (fun j hj => hG j (Nat.lt_succ_of_lt hj))]
    rw [← gx_gx e1 e2 (gx_el e3 e4), gx_gx e2 e3 e4, gx_comm e2 e3, ← gx_gx e3 e2 e4, gx_gx e1 e3 (gx_el e2 e4)]
theorem gsum_swap {F : Nat → Nat → Int} (m : Nat) : ∀ n, (∀ i j, i < n → j < m → El (F i j)) → (gsum n fun i => gsum m fun j => F i j) = gsum m fun j => gsum n fun i => F i j
  | 0, _ => (gsum_zero m).symm
  | n + 1, h => by
    show gx _ _ = gsum m fun j => gx _ _
    rw [gsum_swap m n fun i j hi hj => h i j (by omega) hj, gsum_add m (fun j hj => gsum_el n fun i hi => h i j (by omega) hj) (fun j hj => h n j (by omega) hj)]
/-- Only one element is not nought. -/
theorem gsum_unit {F : Nat → Int} {i : Nat} : ∀ n, (∀ j, j < n → El (F j)) → (gsum n fun j => gm (if i = j then 1 else 0) (F j)) = if i < n then F i else 0
  | 0, _ => by simp [gsum]
  | n + 1, h => by
    show gx _ (gm (if i = n then 1 else 0) (F n)) = _
    rw [gsum_unit n fun j hj => h j (by omega)]
    have hn := h n (by omega)
    by_cases e : i = n
    · subst e
      rw [if_neg (by omega), if_pos rfl, if_pos (by omega), (gx_0 hn).2.2.2.2.1, (gx_0 hn).2.1]
    · rw [if_neg e, (gx_0 hn).2.2.2.1]
      by_cases hi : i < n
      · rw [if_pos hi, if_pos (by omega), (gx_0 (h i (by omega))).1]
      · rw [if_neg hi, if_neg (by omega), (gx_0 El0).1]
/-- What was made by P and is taken back by Q. -/
theorem back {n : Nat} {Q P : Nat → Nat → Int} {x : Nat → Int} (hQ : ∀ i j, i < n → j < n → El (Q i j)) (hP : ∀ i j, i < n → j < n → El (P i j)) (hx : ∀ j, j < n → El (x j))
    (hI : ∀ i j, i < n → j < n → (gsum n fun l => gm (Q i l) (P l j)) = if i = j then 1 else 0) {i : Nat} (hi : i < n) : (gsum n fun l => gm (Q i l) (gsum n fun j => gm (P l j) (x j))) = x i := by
  have e1 : (gsum n fun l => gm (Q i l) (gsum n fun j => gm (P l j) (x j))) = gsum n fun l => gsum n fun j => gm (gm (Q i l) (P l j)) (x j) := by
    refine gsum_congr n fun l hl => ?_
    rw [gsum_mul (hQ i l hi hl) n fun j hj => gm_el (hP l j hl hj) (hx j hj)]
    exact gsum_congr n fun j hj => gm_gm (hQ i l hi hl) (hP l j hl hj) (hx j hj)
  rw [e1, gsum_swap n n fun l j hl hj => gm_el (gm_el (hQ i l hi hl) (hP l j hl hj)) (hx j hj)]
  have e2 : (gsum n fun j => gsum n fun l => gm (gm (Q i l) (P l j)) (x j)) = gsum n fun j => gm (if i = j then 1 else 0) (x j) := by
    refine gsum_congr n fun j hj => ?_
    rw [← gsum_mul' (hx j hj) n fun l hl => gm_el (hQ i l hi hl) (hP l j hl hj), hI i j hi hj]
  rw [e2, gsum_unit n hx, if_pos hi]

/-! ### bytes -/
def By (b : Int) : Prop := 0 ≤ b ∧ b ≤ 255
theorem By.fin {a : Int} (h : By a) : ∃ i : Fin 256, a = (i.1 : Int) := ⟨⟨a.toNat, by unfold By at h; omega⟩, by unfold By at h; simp; omega⟩
def lo (b : Int) : Int := Go.bits .and .i64 b 15
def hi (b : Int) : Int := Go.bits .and .i64 (b / 16) 15
def x8 (a b : Int) : Int := Go.bits .xor .u8 a b
def pack (l h : Int) : Int := (Go.bits .or .i64 l (wrap64 (h * 16))) % 256
def mulb (c b : Int) : Int := pack (gm c (lo b)) (gm c (hi b))
theorem b_nib : ∀ a : Fin 256, El (lo a.1) ∧ El (hi a.1) ∧ (a.1 : Int) = lo a.1 + 16 * hi a.1 := by
  unfold El
  decide +kernel
theorem b_pack : ∀ a b : Fin 16, By (pack a.1 b.1) ∧ lo (pack a.1 b.1) = a.1 ∧ hi (pack a.1 b.1) = b.1 := by
  unfold By
  decide +kernel
theorem b_nat : ∀ a : Fin 256, lo a.1 = ((a.1 % 16 : Nat) : Int) ∧ hi a.1 = ((a.1 / 16 : Nat) : Int) := by decide +kernel
theorem gx_nat : ∀ a b : Fin 16, gx a.1 b.1 = ((a.1 ^^^ b.1 : Nat) : Int) := by decide +kernel
theorem x8_nat {m n : Nat} (hm : m < 256) (hn : n < 256) : x8 m n = ((m ^^^ n : Nat) : Int) := by
  have hx : m ^^^ n < 256 := Nat.xor_lt_two_pow (n := 8) hm hn
  show IntKind.u8.wrap (((BitVec.ofInt 8 (m : Int) ^^^ BitVec.ofInt 8 (n : Int) : BitVec 8).toNat : Nat) : Int) = _
  rw [BitVec.toNat_xor, BitVec.ofInt_natCast, BitVec.ofInt_natCast, BitVec.toNat_ofNat, BitVec.toNat_ofNat, Nat.mod_eq_of_lt (show m < 2 ^ 8 from hm), Nat.mod_eq_of_lt (show n < 2 ^ 8 from hn)]
  generalize m ^^^ n = q at hx
  rw [IntKind.wrap_u8]
  omega
theorem b_x8 {a b : Int} (ha : By a) (hb : By b) : By (x8 a b) ∧ lo (x8 a b) = gx (lo a) (lo b) ∧ hi (x8 a b) = gx (hi a) (hi b) := by
  obtain ⟨i, rfl⟩ := ha.fin
  obtain ⟨j, rfl⟩ := hb.fin
  have hx : i.1 ^^^ j.1 < 256 := Nat.xor_lt_two_pow (n := 8) i.2 j.2
  rw [x8_nat i.2 j.2]
  have h1 := b_nat ⟨i.1 ^^^ j.1, hx⟩
  have h2 := b_nat i
  have h3 := b_nat j
  simp only at h1
  rw [h1.1, h1.2, h2.1, h2.2, h3.1, h3.2]
  have e1 := gx_nat ⟨i.1 % 16, by omega⟩ ⟨j.1 % 16, by omega⟩
  have e2 := gx_nat ⟨i.1 / 16, by omega⟩ ⟨j.1 / 16, by omega⟩
  simp only at e1 e2
  rw [e1, e2]
  refine ⟨⟨by omega, by omega⟩, ?_, ?_⟩
  · rw [Nat.xor_mod_two_pow (n := 4)]
  · rw [Nat.xor_div_two_pow (n := 4)]
end Go.Proofs.Ythfddndmhjkeiaa.L
end
section
/- The plain law of the erasure code, part I1: every square part of a Cauchy matrix over the field of 16 elements has no kernel. -/
namespace Go.Proofs.Ythfddndmhjkeiaa.L
open Go.RowKit Go.Proofs.YthfddndmhjkeiaaW.PrintWords Go.Proofs.YthfddndmhjkeiaaW.PrintLast Go.Proofs.YthfddndmhjkeiaaW.PrintMore
set_option linter.unusedVariables false
set_option linter.unusedSimpArgs false

/-! ### more of the field -/
theorem f_comm2 : ∀ a b : Fin 16, gm a.1 b.1 = gm b.1 a.1 ∧ gx a.1 a.1 = 0 ∧ (gm a.1 b.1 = 0 → a = 0 ∨ b = 0) ∧ (gx a.1 b.1 = 0 → a = b) := by decide +kernel
theorem f_inv : ∀ a : Fin 16, a ≠ 0 → gm a.1 (ginv a.1) = 1 ∧ ginv a.1 ≠ 0 := by decide +kernel
theorem f_cauchy : ∀ u v t : Fin 16, u ≠ 0 → v ≠ 0 → gx (gm (gx u.1 t.1) (ginv u.1)) (gm (gx v.1 t.1) (ginv v.1)) = gm (gm (gx u.1 v.1) t.1) (gm (ginv u.1) (ginv v.1)) := by decide +kernel
theorem f_shift : ∀ a b c : Fin 16, gx (gx a.1 c.1) (gx b.1 c.1) = gx a.1 b.1 := by decide +kernel
theorem gm_comm {a b : Int} (ha : El a) (hb : El b) : gm a b = gm b a := by
  obtain ⟨i, rfl⟩ := ha.fin; obtain ⟨j, rfl⟩ := hb.fin
  exact (f_comm2 i j).1
theorem gx_self {a : Int} (ha : El a) : gx a a = 0 := by
  obtain ⟨i, rfl⟩ := ha.fin
  exact (f_comm2 i i).2.1
theorem fin_ne {i : Fin 16} (h : (i.1 : Int) ≠ 0) : i ≠ 0 := by
  rintro rfl
  exact h rfl
theorem gm_zero {a b : Int} (ha : El a) (hb : El b) (h : gm a b = 0) : a = 0 ∨ b = 0 := by
  obtain ⟨i, rfl⟩ := ha.fin; obtain ⟨j, rfl⟩ := hb.fin
  rcases (f_comm2 i j).2.2.1 h with rfl | rfl
  · exact .inl rfl
  · exact .inr rfl
theorem gx_zero {a b : Int} (ha : El a) (hb : El b) (h : gx a b = 0) : a = b := by
  obtain ⟨i, rfl⟩ := ha.fin; obtain ⟨j, rfl⟩ := hb.fin
  rw [(f_comm2 i j).2.2.2 h]
theorem gm_ginv {a : Int} (ha : El a) (h : a ≠ 0) : gm a (ginv a) = 1 ∧ ginv a ≠ 0 := by
  obtain ⟨i, rfl⟩ := ha.fin
  exact f_inv i (fin_ne h)
theorem gm_left {a b c : Int} (ha : El a) (hb : El b) (hc : El c) : gm a (gm b c) = gm b (gm a c) := by
  rw [gm_gm ha hb hc, gm_comm ha hb, ← gm_gm hb ha hc]
/-- The one identity that the proof needs. -/
theorem cauchy_id {i a b j : Int} (hi : El i) (ha : El a) (hb : El b) (hj : El j) (h1 : i ≠ j) (h2 : a ≠ j) :
    gx (gm (gx i b) (ginv (gx i j))) (gm (gx a b) (ginv (gx a j))) = gm (gm (gx i a) (gx j b)) (gm (ginv (gx i j)) (ginv (gx a j))) := by
  obtain ⟨u, hu⟩ := (gx_el hi hj).fin
  obtain ⟨v, hv⟩ := (gx_el ha hj).fin
  obtain ⟨t, ht⟩ := (gx_el hj hb).fin
  have hu0 : u ≠ 0 := fin_ne (fun e => h1 (gx_zero hi hj (by rw [hu]; exact e)))
  have hv0 : v ≠ 0 := fin_ne (fun e => h2 (gx_zero ha hj (by rw [hv]; exact e)))
  have h := f_cauchy u v t hu0 hv0
  have s1 : gx i b = gx u.1 t.1 := by
    rw [← hu, ← ht, gx_gx (gx_el hi hj) hj hb, ← gx_gx hi hj hj, gx_self hj, (gx_0 hi).1]
  have s2 : gx a b = gx v.1 t.1 := by
    rw [← hv, ← ht, gx_gx (gx_el ha hj) hj hb, ← gx_gx ha hj hj, gx_self hj, (gx_0 ha).1]
  have s3 : gx i a = gx u.1 v.1 := by
    rw [← hu, ← hv]
    obtain ⟨i', rfl⟩ := hi.fin; obtain ⟨a', rfl⟩ := ha.fin; obtain ⟨j', rfl⟩ := hj.fin
    exact (f_shift i' a' j').symm
  rw [s1, s2, s3, hu, hv, ht]
  exact h
/-- The sum over a list. -/
def lsum {α : Type} (l : List α) (F : α → Int) : Int := match l with
  | [] => 0
  | x :: l => gx (F x) (lsum l F)
theorem lsum_el {α : Type} {F : α → Int} : ∀ l : List α, (∀ j, j ∈ l → El (F j)) → El (lsum l F)
  | [], _ => El0
  | x :: l, h => gx_el (h x (List.mem_cons_self ..)) (lsum_el l fun j hj => h j (List.mem_cons_of_mem _ hj))
theorem lsum_congr {α : Type} {F G : α → Int} : ∀ l : List α, (∀ j, j ∈ l → F j = G j) → lsum l F = lsum l G
  | [], _ => rfl
  | x :: l, h => by
    show gx _ _ = gx _ _
    rw [h x (List.mem_cons_self ..), lsum_congr l fun j hj => h j (List.mem_cons_of_mem _ hj)]
theorem lsum_zero {α : Type} {F : α → Int} : ∀ l : List α, (∀ j, j ∈ l → F j = 0) → lsum l F = 0
  | [], _ => rfl
  | x :: l, h => by
    show gx _ _ = _
    rw [h x (List.mem_cons_self ..), lsum_zero l fun j hj => h j (List.mem_cons_of_mem _ hj)]
    exact (gx_0 El0).1
theorem lsum_mul {α : Type} {F : α → Int} {c : Int} (hc : El c) : ∀ l : List α, (∀ j, j ∈ l → El (F j)) → gm c (lsum l F) = lsum l fun j => gm c (F j)
  | [], _ => (gx_0 hc).2.2.1
  | x :: l, h => by
    have h1 := h x (List.mem_cons_self ..)
    have h2 := fun j hj => h j (List.mem_cons_of_mem x hj)
    show gm c (gx _ _) = gx _ _
    rw [gm_gx hc h1 (lsum_el l h2), lsum_mul hc l h2]
theorem lsum_add {α : Type} {F G : α → Int} : ∀ l : List α, (∀ j, j ∈ l → El (F j)) → (∀ j, j ∈ l → El (G j)) → (lsum l fun j => gx (F j) (G j)) = gx (lsum l F) (lsum l G)
  | [], _, _ => ((gx_0 El0).1).symm
  | x :: l, hF, hG => by
    have f1 := hF x (List.mem_cons_self ..)
    have f2 := fun j hj => hF j (List.mem_cons_of_mem x hj)
    have g1 := hG x (List.mem_cons_self ..)
    have g2 := fun j hj => hG j (List.mem_cons_of_mem x hj)
    have e1 := lsum_el l f2
    have e2 := lsum_el l g2
    show gx (gx _ _) _ = gx (gx _ _) (gx _ _)
    rw [lsum_add l f2 g2, ← gx_gx f1 g1 (gx_el e1 e2), gx_gx g1 e1 e2, gx_comm g1 e1, ← gx_gx e1 g1 e2, gx_gx f1 e1 (gx_el g1 e2)]
theorem lsum_append {α : Type} {F : α → Int} (l' : List α) (h' : ∀ j, j ∈ l' → El (F j)) : ∀ l : List α, (∀ j, j ∈ l → El (F j)) → lsum (l ++ l') F = gx (lsum l F) (lsum l' F)
  | [], _ => ((gx_0 (lsum_el l' h')).2.1).symm
  | x :: l, h => by
    have h1 := h x (List.mem_cons_self ..)
    have h2 := fun j hj => h j (List.mem_cons_of_mem x hj)
    show gx (F x) (lsum (l ++ l') F) = gx (gx _ _) _
    rw [lsum_append l' h' l h2, gx_gx h1 (lsum_el l h2) (lsum_el l' h')]
theorem lsum_filter {α : Type} {F : α → Int} (p : α → Bool) : ∀ l : List α, (∀ j, j ∈ l → El (F j)) → (∀ j, j ∈ l → p j = false → F j = 0) → lsum (l.filter p) F = lsum l F
  | [], _, _ => rfl
  | x :: l, h, hz => by
    have h1 := h x (List.mem_cons_self ..)
    have h2 := fun j hj => h j (List.mem_cons_of_mem x hj)
    have ih := lsum_filter p l h2 fun j hj => hz j (List.mem_cons_of_mem x hj)
    rw [List.filter_cons]
    split
    · show gx _ _ = gx _ _
      rw [ih]
    · rename_i e
      show _ = gx _ _
      rw [ih, hz x (List.mem_cons_self ..) (by simpa using e), (gx_0 (lsum_el l h2)).2.1]
theorem gsum_lsum {F : Nat → Int} : ∀ n, (∀ j, j < n → El (F j)) → gsum n F = lsum (List.range n) F
  | 0, _ => rfl
  | n + 1, h => by
    have h1 : ∀ j, j ∈ List.range n → El (F j) := fun j hj => h j (by have := List.mem_range.1 hj; omega)
    have h2 : ∀ j, j ∈ [n] → El (F j) := fun j hj => by rw [List.mem_singleton.1 hj]; exact h n (by omega)
    rw [List.range_succ, lsum_append [n] h2 _ h1, ← gsum_lsum n fun j hj => h j (by omega)]
    show gx _ _ = gx _ (gx _ _)
    rw [show lsum ([] : List Nat) F = 0 from rfl, (gx_0 (h n (by omega))).1]
/-- One step's term. -/
theorem cauchy_term {x p q c1 c2 ia jb : Int} (hx : El x) (hp : El p) (hq : El q) (h1 : El c1) (h2 : El c2) (hi : El ia) (hj : El jb) (h : gx (gm c1 p) (gm c2 q) = gm (gm ia jb) (gm p q)) :
    gx (gm c1 (gm x p)) (gm c2 (gm x q)) = gm ia (gm (gm x (gm jb q)) p) := by
  rw [gm_left h1 hx hp, gm_left h2 hx hq, ← gm_gx hx (gm_el h1 hp) (gm_el h2 hq), h, ← gm_gm hi hj (gm_el hp hq), gm_left hx hi (gm_el hj (gm_el hp hq)), gm_comm hp hq, gm_gm hj hq hp, gm_gm hx (gm_el hj hq) hp]
/-- A row of elements that all rows of a square part of a Cauchy matrix take to nought is nought. -/
theorem cauchy {al be : Nat → Int} : ∀ (J I : List Nat) (x : Nat → Int), J.Pairwise (fun a b => be a ≠ be b) → I.Pairwise (fun a b => al a ≠ al b) → (∀ j, j ∈ J → El (be j)) → (∀ i, i ∈ I → El (al i)) →
    (∀ i, i ∈ I → ∀ j, j ∈ J → al i ≠ be j) → (∀ j, j ∈ J → El (x j)) → J.length ≤ I.length → (∀ i, i ∈ I → lsum J (fun j => gm (x j) (ginv (gx (al i) (be j)))) = 0) → ∀ j, j ∈ J → x j = 0
  | [], _, _, _, _, _, _, _, _, _, _ => fun j hj => absurd hj (List.not_mem_nil)
  | b :: J, [], _, _, _, _, _, _, _, hl, _ => by simp at hl
  | b :: J, a :: I, x, hJ, hI, eJ, eI, hne, ex, hl, hs => by
    have hJ' := List.pairwise_cons.1 hJ
    have hI' := List.pairwise_cons.1 hI
    have eb := eJ b (List.mem_cons_self ..)
    have ea := eI a (List.mem_cons_self ..)
    have xb := ex b (List.mem_cons_self ..)
    have eJ' := fun j hj => eJ j (List.mem_cons_of_mem b hj)
    have eI' := fun i hi => eI i (List.mem_cons_of_mem a hi)
    have ex' := fun j hj => ex j (List.mem_cons_of_mem b hj)
    have hab := hne a (List.mem_cons_self ..) b (List.mem_cons_self ..)
    have eg : ∀ i, El i → ∀ j, j ∈ J → El (gm (x j) (ginv (gx i (be j)))) := fun i hi j hj => gm_el (ex' j hj) (ginv_el (gx_el hi (eJ' j hj)))
    have one : ∀ i, El (al i) → al i ≠ be b → lsum (b :: J) (fun j => gm (x j) (ginv (gx (al i) (be j)))) = 0 → gm (gx (al i) (be b)) (lsum J (fun j => gm (x j) (ginv (gx (al i) (be j))))) = x b := by
      intro i hi hib h0
      have hn : gx (al i) (be b) ≠ 0 := fun e => hib (gx_zero hi eb e)
      have hgi := gm_ginv (gx_el hi eb) hn
      have h1 : gm (x b) (ginv (gx (al i) (be b))) = lsum J (fun j => gm (x j) (ginv (gx (al i) (be j)))) :=
        gx_zero (gm_el xb (ginv_el (gx_el hi eb))) (lsum_el J (eg _ hi)) h0
      rw [← h1, gm_left (gx_el hi eb) xb (ginv_el (gx_el hi eb)), hgi.1, (gx_0 xb).2.2.2.2.2]
    have hxa := one a ea hab (hs a (List.mem_cons_self ..))
    have key : ∀ j, j ∈ J → gm (x j) (gm (gx (be j) (be b)) (ginv (gx (al a) (be j)))) = 0 := by
      refine cauchy J I _ hJ'.2 hI'.2 eJ' eI' (fun i hi j hj => hne i (List.mem_cons_of_mem a hi) j (List.mem_cons_of_mem b hj)) (fun j hj => gm_el (ex' j hj) (gm_el (gx_el (eJ' j hj) eb) (ginv_el (gx_el ea (eJ' j hj))))) (by simpa using hl) ?_
      intro i hi
      have hei := eI' i hi
      have hxi := one i hei (hne i (List.mem_cons_of_mem a hi) b (List.mem_cons_self ..)) (hs i (List.mem_cons_of_mem a hi))
      have hia : gx (al i) (al a) ≠ 0 := fun e => (hI'.1 i hi) (gx_zero hei ea e).symm
      have e0 : gx (gm (gx (al i) (be b)) (lsum J (fun j => gm (x j) (ginv (gx (al i) (be j)))))) (gm (gx (al a) (be b)) (lsum J (fun j => gm (x j) (ginv (gx (al a) (be j)))))) = 0 := by
        rw [hxi, hxa, gx_self xb]
      rw [lsum_mul (gx_el hei eb) J (eg _ hei), lsum_mul (gx_el ea eb) J (eg _ ea), ← lsum_add J (fun j hj => gm_el (gx_el hei eb) (eg _ hei j hj)) (fun j hj => gm_el (gx_el ea eb) (eg _ ea j hj))] at e0
      have e1 : (lsum J fun j => gx (gm (gx (al i) (be b)) (gm (x j) (ginv (gx (al i) (be j))))) (gm (gx (al a) (be b)) (gm (x j) (ginv (gx (al a) (be j)))))) =
          lsum J fun j => gm (gx (al i) (al a)) (gm (gm (x j) (gm (gx (be j) (be b)) (ginv (gx (al a) (be j))))) (ginv (gx (al i) (be j)))) := by
        refine lsum_congr J fun j hj => ?_
        exact cauchy_term (ex' j hj) (ginv_el (gx_el hei (eJ' j hj))) (ginv_el (gx_el ea (eJ' j hj))) (gx_el hei eb) (gx_el ea eb) (gx_el hei ea) (gx_el (eJ' j hj) eb)
          (cauchy_id hei ea eb (eJ' j hj) (hne i (List.mem_cons_of_mem a hi) j (List.mem_cons_of_mem b hj)) (hne a (List.mem_cons_self ..) j (List.mem_cons_of_mem b hj)))
      have ey : ∀ j, j ∈ J → El (gm (gm (x j) (gm (gx (be j) (be b)) (ginv (gx (al a) (be j))))) (ginv (gx (al i) (be j)))) := fun j hj => gm_el (gm_el (ex' j hj) (gm_el (gx_el (eJ' j hj) eb) (ginv_el (gx_el ea (eJ' j hj))))) (ginv_el (gx_el hei (eJ' j hj)))
      rw [e1, ← lsum_mul (gx_el hei ea) J ey] at e0
      rcases gm_zero (gx_el hei ea) (lsum_el J ey) e0 with h | h
      · exact absurd h hia
      · exact h
    have hz : ∀ j, j ∈ J → x j = 0 := by
      intro j hj
      have haj : gx (al a) (be j) ≠ 0 := fun e => hne a (List.mem_cons_self ..) j (List.mem_cons_of_mem b hj) (gx_zero ea (eJ' j hj) e)
      have hbj : gx (be j) (be b) ≠ 0 := fun e => hJ'.1 j hj (gx_zero (eJ' j hj) eb e).symm
      have eg2 := ginv_el (gx_el ea (eJ' j hj))
      rcases gm_zero (ex' j hj) (gm_el (gx_el (eJ' j hj) eb) eg2) (key j hj) with h | h
      · exact h
      · rcases gm_zero (gx_el (eJ' j hj) eb) eg2 h with h | h
        · exact absurd h hbj
        · exact absurd h (gm_ginv (gx_el ea (eJ' j hj)) haj).2
    intro j hj
    rcases List.mem_cons.1 hj with rfl | hj
    · rw [← hxa, lsum_zero J (fun q hq => by rw [hz q hq]; exact (gx_0 (ginv_el (gx_el ea (eJ' q hq)))).2.2.2.1), (gx_0 (gx_el ea eb)).2.2.1]
    · exact hz j hj
end Go.Proofs.Ythfddndmhjkeiaa.L
end
section
/- The plain law of the erasure code, part I2: the reduced form of a square matrix without a kernel, the unit beside it: the inverse. -/
namespace Go.Proofs.Ythfddndmhjkeiaa.L
open Go.RowKit Go.Proofs.YthfddndmhjkeiaaW.PrintWords Go.Proofs.YthfddndmhjkeiaaW.PrintLast Go.Proofs.YthfddndmhjkeiaaW.PrintMore
set_option linter.unusedVariables false
set_option linter.unusedSimpArgs false

abbrev At (rows : List (List Int)) (i j : Nat) : Int := (row rows i).getD j 0
theorem at_swap {rows : List (List Int)} {a b : Nat} (ha : a < rows.length) (hb : b < rows.length) (i j : Nat) : At (swapR rows a b) i j = if b = i then At rows a j else if a = i then At rows b j else At rows i j := by
  unfold At
  rw [row_swap _ _ _ _ ha hb]
  split
  · rfl
  · split <;> rfl
theorem at_scale {rows : List (List Int)} {r k : Nat} (hr : r < rows.length) (i j : Nat) (hj : j < (row rows r).length) : At (scaleRow rows r k) i j = if r = i then gm (At rows r j) (ginv (At rows r k)) else At rows i j := by
  unfold At scaleRow
  rw [row_set _ _ _ _ hr]
  split
  · rw [mid_getD _ _ _ _ hj, if_pos hj]
  · rfl
theorem at_elim {rows : List (List Int)} {r k : Nat} {i : Nat} (hi : i < rows.length) (j : Nat) (hj : j < (row rows i).length) : At (elimTo rows r k rows.length) i j = if i ≠ r ∧ At rows i k ≠ 0 then gx (At rows i j) (gm (At rows r j) (At rows i k)) else At rows i j := by
  unfold At
  rw [elimTo_row _ _ _ _ _ hi, if_pos hi]
  unfold elimRow
  split
  · rw [mid_getD _ _ _ _ hj, if_pos hj]
  · rfl
/-- A row whose right half says how its left half comes out of P's rows. -/
def Lin (n : Nat) (P : Nat → Nat → Int) (f : Nat → Int) : Prop := ∀ j, j < n → gsum n (fun l => gm (f (n + l)) (P l j)) = f j
/-- A row that takes x to nought. -/
def Ker (n : Nat) (f x : Nat → Int) : Prop := gsum n (fun j => gm (f j) (x j)) = 0
section
variable {n : Nat} {P : Nat → Nat → Int} {f g h x : Nat → Int} {c : Int}
theorem Lin.scale (hP : ∀ i j, i < n → j < n → El (P i j)) (hf : ∀ j, j < 2 * n → El (f j)) (hc : El c) (L : Lin n P f) (e : ∀ j, j < 2 * n → h j = gm (f j) c) : Lin n P h := by
  intro j hj
  rw [e j (by omega), ← L j hj, gsum_mul' hc n fun l hl => gm_el (hf _ (by omega)) (hP l j hl hj)]
  refine gsum_congr n fun l hl => ?_
  rw [e _ (by omega), ← gm_gm (hf _ (by omega)) hc (hP l j hl hj), ← gm_gm (hf _ (by omega)) (hP l j hl hj) hc, gm_comm hc (hP l j hl hj)]
theorem Lin.add (hP : ∀ i j, i < n → j < n → El (P i j)) (hf : ∀ j, j < 2 * n → El (f j)) (hg : ∀ j, j < 2 * n → El (g j)) (hc : El c) (L : Lin n P f) (M : Lin n P g) (e : ∀ j, j < 2 * n → h j = gx (f j) (gm (g j) c)) : Lin n P h := by
  have M2 := M.scale hP hg hc (fun j _ => rfl)
  intro j hj
  have m2 : gsum n (fun l => gm (gm (g (n + l)) c) (P l j)) = gm (g j) c := M2 j hj
  rw [e j (by omega), ← L j hj, ← m2, ← gsum_add n (fun l hl => gm_el (hf _ (by omega)) (hP l j hl hj)) (fun l hl => gm_el (gm_el (hg _ (by omega)) hc) (hP l j hl hj))]
  refine gsum_congr n fun l hl => ?_
  rw [e _ (by omega), gx_gm (hP l j hl hj) (hf _ (by omega)) (gm_el (hg _ (by omega)) hc)]
theorem Ker.unscale (hf : ∀ j, j < n → El (f j)) (hx : ∀ j, j < n → El (x j)) (hc : El c) (h0 : c ≠ 0) (e : ∀ j, j < n → h j = gm (f j) c) (K : Ker n h x) : Ker n f x := by
  have e1 : gsum n (fun j => gm (h j) (x j)) = gm c (gsum n fun j => gm (f j) (x j)) := by
    rw [gsum_mul hc n fun j hj => gm_el (hf j hj) (hx j hj)]
    refine gsum_congr n fun j hj => ?_
    rw [e j hj, gm_comm (hf j hj) hc, gm_gm hc (hf j hj) (hx j hj)]
  unfold Ker at K ⊢
  rw [e1] at K
  rcases gm_zero hc (gsum_el n fun j hj => gm_el (hf j hj) (hx j hj)) K with h | h
  · exact absurd h h0
  · exact h
theorem Ker.sub (hf : ∀ j, j < n → El (f j)) (hg : ∀ j, j < n → El (g j)) (hx : ∀ j, j < n → El (x j)) (hc : El c) (e : ∀ j, j < n → h j = gx (f j) (gm (g j) c)) (K : Ker n h x) (G : Ker n g x) : Ker n f x := by
  have e1 : gsum n (fun j => gm (h j) (x j)) = gx (gsum n fun j => gm (f j) (x j)) (gm c (gsum n fun j => gm (g j) (x j))) := by
    rw [gsum_mul hc n fun j hj => gm_el (hg j hj) (hx j hj), ← gsum_add n (fun j hj => gm_el (hf j hj) (hx j hj)) (fun j hj => gm_el hc (gm_el (hg j hj) (hx j hj)))]
    refine gsum_congr n fun j hj => ?_
    rw [e j hj, gx_gm (hx j hj) (hf j hj) (gm_el (hg j hj) hc), gm_comm (hg j hj) hc, gm_gm hc (hg j hj) (hx j hj)]
  unfold Ker at K G ⊢
  rw [e1, G, (gx_0 hc).2.2.1, (gx_0 (gsum_el n fun j hj => gm_el (hf j hj) (hx j hj))).1] at K
  exact K
end
/-- What holds when the first k columns are done. -/
structure Red (n : Nat) (P : Nat → Nat → Int) (rows : List (List Int)) (k : Nat) : Prop where
  len : rows.length = n
  good : Good (2 * n) rows
  lin : ∀ i, i < n → Lin n P (At rows i)
  ker : ∀ x : Nat → Int, (∀ j, j < n → El (x j)) → (∀ i, i < n → Ker n (At rows i) x) → ∀ i, i < n → Ker n (P i) x
  unit : ∀ i j, i < n → j < k → At rows i j = if i = j then 1 else 0
section
variable {n k : Nat} {P : Nat → Nat → Int} {rows : List (List Int)}
theorem Red.el (R : Red n P rows k) {i j : Nat} (hi : i < n) (hj : j < 2 * n) : El (At rows i j) := R.good.getD (by rw [R.len]; exact hi) hj
theorem Red.rlen (R : Red n P rows k) {i : Nat} (hi : i < n) : (row rows i).length = 2 * n := (R.good i (by rw [R.len]; exact hi)).1
/-- There is a pivot: else x would be taken to nought. -/
theorem Red.pivot (R : Red n P rows k) (hk : k < n) (hN : ∀ x : Nat → Int, (∀ j, j < n → El (x j)) → (∀ i, i < n → Ker n (P i) x) → ∀ j, j < n → x j = 0) : ∃ i, i < n ∧ k ≤ i ∧ At rows i k ≠ 0 ∧ L.pivot rows k k = i := by
  have go : ∀ d i, i + d = n → k ≤ i → (∀ q, k ≤ q → q < i → At rows q k = 0) → L.pivot rows k k = L.pivot rows k i → ∃ i, i < n ∧ k ≤ i ∧ At rows i k ≠ 0 ∧ L.pivot rows k k = i := by
    intro d
    induction d with
    | zero =>
      intro i hi hki hz hp
      exfalso
      have hz2 : ∀ q, k ≤ q → q < n → At rows q k = 0 := fun q h1 h2 => hz q h1 (by omega)
      have hx := hN (fun j => if j = k then 1 else if j < k then At rows j k else 0) (fun j hj => by
        show El (if j = k then 1 else if j < k then At rows j k else 0)
        split
        · exact El1
        · split
          · exact R.el hj (by omega)
          · exact El0) ?_ k hk
      · rw [if_pos rfl] at hx
        exact absurd hx (by decide)
      · refine R.ker _ (fun j hj => by
          show El (if j = k then 1 else if j < k then At rows j k else 0)
          split
          · exact El1
          · split
            · exact R.el hj (by omega)
            · exact El0) ?_
        intro i hi
        unfold Ker
        by_cases hik : i < k
        · have e1 : gsum n (fun j => gm (At rows i j) (if j = k then 1 else if j < k then At rows j k else 0)) = gsum n (fun j => gx (gm (if i = j then 1 else 0) (At rows i k)) (gm (if k = j then 1 else 0) (At rows i k))) := by
            refine gsum_congr n fun j hj => ?_
            have ek := R.el hi (show k < 2 * n by omega)
            have ej := R.el hi (show j < 2 * n by omega)
            by_cases h1 : j = k
            · subst h1
              rw [if_pos rfl, if_neg (by omega), if_pos rfl, (gx_0 ej).2.2.2.2.2, (gx_0 ej).2.2.2.1, (gx_0 ej).2.2.2.2.1, (gx_0 ej).2.1]
            · rw [if_neg h1, if_neg (show ¬ k = j by omega), (gx_0 ek).2.2.2.1]
              by_cases h2 : j < k
              · rw [if_pos h2, R.unit i j hi h2]
                by_cases h3 : i = j
                · subst h3
                  rw [if_pos rfl, (gx_0 ek).2.2.2.2.1, (gx_0 ek).1]
                · rw [if_neg h3, (gx_0 ek).2.2.2.1, (gx_0 (R.el hj (show k < 2 * n by omega))).2.2.2.1, (gx_0 El0).1]
              · rw [if_neg h2, if_neg (by omega), (gx_0 ej).2.2.1, (gx_0 ek).2.2.2.1, (gx_0 El0).1]
          have ek := R.el hi (show k < 2 * n by omega)
          rw [e1, gsum_add n (fun j hj => gm_el (by split <;> first | exact El1 | exact El0) ek) (fun j hj => gm_el (by split <;> first | exact El1 | exact El0) ek), gsum_unit (F := fun _ => At rows i k) n (fun _ _ => ek), gsum_unit (F := fun _ => At rows i k) n (fun _ _ => ek), if_pos hi, if_pos hk, gx_self ek]
        · rw [gsum_congr n (G := fun _ => 0) fun j hj => ?_, gsum_zero]
          have ej := R.el hi (show j < 2 * n by omega)
          show gm (At rows i j) (if j = k then 1 else if j < k then At rows j k else 0) = 0
          by_cases h1 : j = k
          · subst h1
            rw [if_pos rfl, hz2 i (by omega) hi]
            exact (gx_0 El1).2.2.2.1
          · rw [if_neg h1]
            by_cases h2 : j < k
            · rw [if_pos h2, R.unit i j hi h2, if_neg (by omega)]
              exact (gx_0 (R.el hj (show k < 2 * n by omega))).2.2.2.1
            · rw [if_neg h2]
              exact (gx_0 ej).2.2.1
    | succ d ih =>
      intro i hi hki hz hp
      by_cases h : At rows i k = 0
      · exact ih (i + 1) (by omega) (by omega) (fun q h1 h2 => by
          by_cases e : q = i
          · rw [e]; exact h
          · exact hz q h1 (by omega)) (hp.trans (pivot_go (by rw [R.len]; omega) h))
      · exact ⟨i, by omega, hki, h, hp.trans (pivot_stop (by rw [R.len]; omega) h)⟩
  exact go (n - k) k (by omega) (Nat.le_refl _) (fun q h1 h2 => by omega) rfl
theorem Red.step (R : Red n P rows k) (hk : k < n) (hP : ∀ i j, i < n → j < n → El (P i j)) (hN : ∀ x : Nat → Int, (∀ j, j < n → El (x j)) → (∀ i, i < n → Ker n (P i) x) → ∀ j, j < n → x j = 0) :
    (stepP k (rows, k)).2 = k + 1 ∧ Red n P (stepP k (rows, k)).1 (k + 1) := by
  obtain ⟨p, hp, hkp, hz, hpv⟩ := R.pivot hk hN
  have hst : stepP k (rows, k) = (elimTo (scaleRow (swapR rows k p) k k) k k rows.length, k + 1) := by
    unfold stepP
    rw [if_neg (by show ¬ L.pivot rows k k = rows.length; rw [hpv, R.len]; omega)]
    show _ = _
    rw [hpv]
  rw [hst]
  refine ⟨rfl, ?_⟩
  show Red n P (elimTo (scaleRow (swapR rows k p) k k) k k rows.length) (k + 1)
  have hkl : k < rows.length := by rw [R.len]; exact hk
  have hpl : p < rows.length := by rw [R.len]; exact hp
  -- the swap
  have R1 : Red n P (swapR rows k p) k := by
    refine ⟨by rw [swap_length, R.len], R.good.swap hkl hpl, fun i hi => ?_, fun x hx K => R.ker x hx fun i hi => ?_, fun i j hi hj => ?_⟩
    · by_cases e1 : p = i
      · have : ∀ j, At (swapR rows k p) i j = At rows k j := fun j => by rw [at_swap hkl hpl, if_pos e1]
        intro j hj
        simp only [this]
        exact R.lin k hk j hj
      · by_cases e2 : k = i
        · have : ∀ j, At (swapR rows k p) i j = At rows p j := fun j => by rw [at_swap hkl hpl, if_neg e1, if_pos e2]
          intro j hj
          simp only [this]
          exact R.lin p hp j hj
        · have : ∀ j, At (swapR rows k p) i j = At rows i j := fun j => by rw [at_swap hkl hpl, if_neg e1, if_neg e2]
          intro j hj
          simp only [this]
          exact R.lin i hi j hj
    · have get : ∀ a b, a < n → (∀ j, At (swapR rows k p) a j = At rows b j) → Ker n (At rows b) x := fun a b ha h => by
        have := K a ha
        unfold Ker at this ⊢
        simp only [h] at this
        exact this
      by_cases e1 : i = k
      · subst e1
        exact get p i hp fun j => by rw [at_swap hkl hpl, if_pos rfl]
      · by_cases e2 : i = p
        · subst e2
          exact get k i hk fun j => by
            rw [at_swap hkl hpl]
            by_cases e3 : i = k
            · rw [if_pos e3, e3]
            · rw [if_neg e3, if_pos rfl]
        · exact get i i hi fun j => by rw [at_swap hkl hpl, if_neg (fun e => e2 e.symm), if_neg (fun e => e1 e.symm)]
    · rw [at_swap hkl hpl]
      by_cases e1 : p = i
      · rw [if_pos e1, R.unit k j hk hj, if_neg (by omega), if_neg (by omega)]
      · rw [if_neg e1]
        by_cases e2 : k = i
        · rw [if_pos e2, R.unit p j hp hj, if_neg (by omega), if_neg (by omega)]
        · rw [if_neg e2, R.unit i j hi hj]
  have hz1 : At (swapR rows k p) k k ≠ 0 := by
    rw [at_swap hkl hpl]
    by_cases e1 : p = k
    · rw [if_pos e1]; rw [e1] at hz; exact hz
    · rw [if_neg e1, if_pos rfl]; exact hz
  have hlen : rows.length = (swapR rows k p).length := (swap_length rows k p).symm
  rw [hlen]
  generalize swapR rows k p = A at R1 hz1
  clear hst hpv hz hpl hkl R hlen
  -- the scaling
  have hkA : k < A.length := by rw [R1.len]; exact hk
  have hc := ginv_el (R1.el hk (show k < 2 * n by omega))
  have hg := gm_ginv (R1.el hk (show k < 2 * n by omega)) hz1
  have eS : ∀ i j, j < 2 * n → At (scaleRow A k k) i j = if k = i then gm (At A k j) (ginv (At A k k)) else At A i j := fun i j hj => at_scale hkA i j (by rw [R1.rlen hk]; exact hj)
  have R2 : Red n P (scaleRow A k k) k := by
    refine ⟨by rw [scale_length, R1.len], R1.good.scale hkA (by omega), fun i hi => ?_, fun x hx K => R1.ker x hx fun i hi => ?_, fun i j hi hj => ?_⟩
    · by_cases e1 : k = i
      · subst e1
        exact (R1.lin k hk).scale hP (fun j hj => R1.el hk hj) hc fun j hj => by rw [eS k j hj, if_pos rfl]
      · have L := R1.lin i hi
        intro j hj
        rw [eS i j (by omega), if_neg e1, ← L j hj]
        exact gsum_congr n fun l hl => by rw [eS i (n + l) (by omega), if_neg e1]
    · by_cases e1 : k = i
      · subst e1
        exact (K k hk).unscale (fun j hj => R1.el hk (by omega)) hx hc hg.2 fun j hj => by rw [eS k j (by omega), if_pos rfl]
      · have := K i hi
        unfold Ker at this ⊢
        rw [← this]
        exact gsum_congr n fun j hj => by rw [eS i j (by omega), if_neg e1]
    · rw [eS i j (by omega)]
      by_cases e1 : k = i
      · rw [if_pos e1, R1.unit k j hk hj, if_neg (by omega), if_neg (by omega)]
        exact (gx_0 hc).2.2.2.1
      · rw [if_neg e1, R1.unit i j hi hj]
  have h1 : At (scaleRow A k k) k k = 1 := by rw [eS k k (by omega), if_pos rfl, hg.1]
  have hlen : A.length = (scaleRow A k k).length := (scale_length A k k).symm
  rw [hlen]
  generalize scaleRow A k k = B at R2 h1
  clear eS hg hc hkA hz1 R1 hlen
  -- the elimination
  have eE : ∀ i j, i < n → j < 2 * n → At (elimTo B k k B.length) i j = if i ≠ k ∧ At B i k ≠ 0 then gx (At B i j) (gm (At B k j) (At B i k)) else At B i j := fun i j hi hj => at_elim (by rw [R2.len]; exact hi) j (by rw [R2.rlen hi]; exact hj)
  refine ⟨by rw [elimTo_length, R2.len], R2.good.elim (by rw [R2.len]; exact hk) (by omega) _, fun i hi => ?_, fun x hx K => R2.ker x hx fun i hi => ?_, fun i j hi hj => ?_⟩
  · by_cases e1 : i ≠ k ∧ At B i k ≠ 0
    · exact (R2.lin i hi).add hP (fun j hj => R2.el hi hj) (fun j hj => R2.el hk hj) (R2.el hi (show k < 2 * n by omega)) (R2.lin k hk) fun j hj => by rw [eE i j hi hj, if_pos e1]
    · have L := R2.lin i hi
      intro j hj
      rw [eE i j hi (by omega), if_neg e1, ← L j hj]
      exact gsum_congr n fun l hl => by rw [eE i (n + l) hi (by omega), if_neg e1]
  · have Kk : Ker n (At B k) x := by
      have := K k hk
      unfold Ker at this ⊢
      rw [← this]
      exact gsum_congr n fun j hj => by rw [eE k j hk (by omega), if_neg (fun h => h.1 rfl)]
    by_cases e1 : i ≠ k ∧ At B i k ≠ 0
    · exact (K i hi).sub (fun j hj => R2.el hi (by omega)) (fun j hj => R2.el hk (by omega)) hx (R2.el hi (show k < 2 * n by omega)) (fun j hj => by rw [eE i j hi (by omega), if_pos e1]) Kk
    · have := K i hi
      unfold Ker at this ⊢
      rw [← this]
      exact gsum_congr n fun j hj => by rw [eE i j hi (by omega), if_neg e1]
  · rw [eE i j hi (by omega)]
    have eik := R2.el hi (show k < 2 * n by omega)
    by_cases hjk : j = k
    · subst hjk
      by_cases e1 : i = j
      · subst e1
        rw [if_neg (fun h => h.1 rfl), if_pos rfl, h1]
      · rw [if_neg e1]
        by_cases e2 : At B i j = 0
        · rw [if_neg (fun h => h.2 e2), e2]
        · rw [if_pos ⟨e1, e2⟩, h1, (gx_0 eik).2.2.2.2.1, gx_self eik]
    · have hj2 : j < k := by omega
      by_cases e1 : i ≠ k ∧ At B i k ≠ 0
      · rw [if_pos e1, R2.unit k j hk hj2, if_neg (by omega), (gx_0 eik).2.2.2.1, (gx_0 (R2.el hi (by omega))).1, R2.unit i j hi hj2]
      · rw [if_neg e1, R2.unit i j hi hj2]
end
theorem Red.all {n : Nat} {P : Nat → Nat → Int} {rows : List (List Int)} (R : Red n P rows 0) (hP : ∀ i j, i < n → j < n → El (P i j)) (hN : ∀ x : Nat → Int, (∀ j, j < n → El (x j)) → (∀ i, i < n → Ker n (P i) x) → ∀ j, j < n → x j = 0) :
    ∀ k, k ≤ n → (reduceTo rows k).2 = k ∧ Red n P (reduceTo rows k).1 k
  | 0, _ => ⟨rfl, R⟩
  | k + 1, hk => by
    have ih := Red.all R hP hN k (by omega)
    have e : reduceTo rows k = ((reduceTo rows k).1, k) := by
      rw [← ih.1]
      rw [ih.1]
      exact Prod.ext rfl ih.1
    rw [reduceTo_succ, e]
    exact ih.2.step (by omega) hP hN
theorem getD_lt {l : List Int} {i : Nat} (h : i < l.length) : l.getD i 0 ∈ l := by
  rw [List.getD_eq_getElem?_getD, List.getElem?_eq_getElem h]
  exact List.getElem_mem h
theorem tails_getD {rows : List (List Int)} {n : Nat} (hG : Good (2 * n) rows) : ∀ k, k ≤ rows.length → ∀ i l, i < k → l < n → (tails rows n k).getD (i * n + l) 0 = At rows i (n + l)
  | 0, _, i, l, hi, _ => absurd hi (by omega)
  | k + 1, hk, i, l, hi, hl => by
    have hlen := tails_length hG k (by omega)
    rw [tails_succ _ _ _ (by omega)]
    by_cases h : i < k
    · have : (i + 1) * n ≤ k * n := Nat.mul_le_mul_right _ h
      rw [Nat.succ_mul] at this
      rw [List.getD_eq_getElem?_getD, List.getElem?_append_left (by omega), ← List.getD_eq_getElem?_getD]
      exact tails_getD hG k (by omega) i l h hl
    · obtain rfl : i = k := by omega
      rw [List.getD_eq_getElem?_getD, List.getElem?_append_right (by omega), hlen, List.getElem?_drop, ← List.getD_eq_getElem?_getD]
      congr 1
      omega
def invL (n : Nat) (p : List Int) : List Int := tails (invRows p n).1 n n
/-- The inverse of a square matrix without a kernel. -/
theorem inv_of {n : Nat} {p : List Int} (hl : p.length = n * n) (he : ElL p) (hN : ∀ x : Nat → Int, (∀ j, j < n → El (x j)) → (∀ i, i < n → gsum n (fun j => gm (p.getD (i * n + j) 0) (x j)) = 0) → ∀ j, j < n → x j = 0) :
    (invRows p n).2 = n ∧ (invL n p).length = n * n ∧ ElL (invL n p) ∧ ∀ i j, i < n → j < n → (gsum n fun l => gm ((invL n p).getD (i * n + l) 0) (p.getD (l * n + j) 0)) = if i = j then 1 else 0 := by
  have hP : ∀ i j, i < n → j < n → El (p.getD (i * n + j) 0) := fun i j hi hj => he _ (getD_lt (by
    have : (i + 1) * n ≤ n * n := Nat.mul_le_mul_right _ hi
    rw [Nat.succ_mul] at this
    omega))
  have hG := aug_good hl he
  have c1 : ∀ i j, i < n → j < n → At (augTo p n n) i j = p.getD (i * n + j) 0 := fun i j hi hj => by
    unfold At
    rw [augTo_row _ _ _ _ hi, if_pos hi, List.getD_eq_getElem?_getD, List.getElem?_append_left (by rw [cut_length hl hi]; exact hj), ← List.getD_eq_getElem?_getD, cut_getD hi hj]
  have c2 : ∀ i l, i < n → l < n → At (augTo p n n) i (n + l) = if i = l then 1 else 0 := fun i l hi hl2 => by
    unfold At
    rw [augTo_row _ _ _ _ hi, if_pos hi, List.getD_eq_getElem?_getD, List.getElem?_append_right (by rw [cut_length hl hi]; omega), cut_length hl hi, ← List.getD_eq_getElem?_getD, show n + l - n = l by omega, unitRow_getD _ _ _ hl2]
  have R0 : Red n (fun i j => p.getD (i * n + j) 0) (augTo p n n) 0 := by
    refine ⟨augTo_length p n n, hG, fun i hi j hj => ?_, fun x hx K i hi => ?_, fun i j _ hj => absurd hj (by omega)⟩
    · rw [c1 i j hi hj, gsum_congr n (G := fun l => gm (if i = l then 1 else 0) (p.getD (l * n + j) 0)) fun l hl2 => by rw [c2 i l hi hl2], gsum_unit (F := fun l => p.getD (l * n + j) 0) n fun l hl2 => hP l j hl2 hj, if_pos hi]
    · have := K i hi
      unfold Ker at this ⊢
      refine Eq.trans (gsum_congr n fun j hj => ?_) this
      rw [c1 i j hi hj]
  obtain ⟨a1, a2⟩ := R0.all hP hN n (Nat.le_refl _)
  have hlen : (reduceTo (augTo p n n) n).1.length = n := a2.len
  have t1 : (invL n p).length = n * n := tails_length a2.good n (by rw [hlen]; exact Nat.le_refl _)
  have t2 : ∀ i l, i < n → l < n → (invL n p).getD (i * n + l) 0 = At (reduceTo (augTo p n n) n).1 i (n + l) := fun i l hi hl2 => tails_getD a2.good n (by rw [hlen]; exact Nat.le_refl _) i l hi hl2
  refine ⟨a1, t1, ?_, fun i j hi hj => ?_⟩
  · intro x hx
    obtain ⟨q, hq, rfl⟩ := List.getElem_of_mem hx
    have hn : 0 < n := by
      rcases Nat.eq_zero_or_pos n with rfl | h
      · rw [t1] at hq; omega
      · exact h
    have hqi : q / n < n := by rw [t1] at hq; exact (Nat.div_lt_iff_lt_mul hn).2 hq
    have hql := Nat.mod_lt q hn
    have e := t2 _ _ hqi hql
    rw [Nat.div_add_mod' q n, List.getD_eq_getElem?_getD, List.getElem?_eq_getElem hq] at e
    show El (invL n p)[q]
    have e2 : (invL n p)[q] = At (reduceTo (augTo p n n) n).1 (q / n) (n + q % n) := e
    rw [e2]
    exact a2.el hqi (by omega)
  · rw [gsum_congr n (G := fun l => gm (At (reduceTo (augTo p n n) n).1 i (n + l)) (p.getD (l * n + j) 0)) fun l hl2 => by rw [t2 i l hi hl2]]
    have := a2.lin i hi j hj
    rw [a2.unit i j hi hj] at this
    exact this
end Go.Proofs.Ythfddndmhjkeiaa.L
end
