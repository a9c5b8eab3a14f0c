/- Texts of this claim, put together by a small program of the session's own: F14, MLook, MSort, F83, MMat, MReduce, F55, MClone3. -/
import Derived.Test.YtgmadofbelhmeaaH0
import Derived.Test.YtgmadofbelhmeaaH1
import Derived.Test.YtgmadofbelhmeaaShelf
import Derived.Shelf.SlSortCmp.NoneTotal
import Derived.Lib.SliceRun
section
-- Printed for this claim by a small program of the session's own, drv.py, round the kit's print.py. Lean checks it.
namespace Go.Proofs.Ytgmadofbelhmeaa.L
open Go.RowKit Go.Proofs.YtgmadofbelhmeaaW.PrintWords Go.Proofs.YtgmadofbelhmeaaW.PrintLast Go.Proofs.YtgmadofbelhmeaaW.PrintMore
attribute [local go_sem] max2_int min2_int max_two min_two max_three min_three max_four min_four   -- for this text's walks alone
set_option linter.unusedVariables false
set_option linter.unusedSimpArgs false

/-! ### erasure_Encode: function 14 -/
mutual
def erasure_Encode.l0 : Nat → ByteArray → Int → List ByteArray → Int → Int → Int → Int → Option ((List (S37)) × Int)
  | 0, _, _, _, _, _, _, _ => none
  | k + 1, x1, x6, x8, x34, x35, x158000, x158001 => if x35 < x34 then (if 0 ≤ (wrap64 (x35 * x6)) then (if (wrap64 (x35 * x6)) ≤ (wrap64 ((wrap64 (x35 + 1)) * x6)) then (if (wrap64 ((wrap64 (x35 + 1)) * x6)) ≤ (x1.size : Int) then (if x8.length < 8796093022208 then (erasure_Encode.l0 k x1 x6 (x8 ++ [x1.extract ((wrap64 (x35 * x6)) : Int).toNat ((wrap64 ((wrap64 (x35 + 1)) * x6)) : Int).toNat]) x34 (wrap64 (x35 + 1)) x158000 x158001) else (none)) else (none)) else (none)) else (none)) else ((erasure_rowsOf.f k x158000 x158001).bind fun bt164 => (erasure_Encode.l1 k x6 x8 ([] : List (S37)) x158001 0 x158000 x158001 bt164.1 bt164.2.1 bt164.2.2))
def erasure_Encode.l1 : Nat → Int → List ByteArray → List (S37) → Int → Int → Int → Int → Int → Int → List Int → Option ((List (S37)) × Int)
  | 0, _, _, _, _, _, _, _, _, _, _ => none
  | k + 1, x6, x8, x11, x54, x55, x158000, x158001, x170000, x170001, x170002 => if x55 < x54 then (if 0 ≤ (wrap64 (x55 * x158000)) then (if (wrap64 (x55 * x158000)) ≤ (wrap64 ((wrap64 (x55 + 1)) * x158000)) then (if (wrap64 ((wrap64 (x55 + 1)) * x158000)) ≤ (x170002.length : Int) then ((erasure_shard.f k ((x170002.take ((wrap64 ((wrap64 (x55 + 1)) * x158000)) : Int).toNat).drop ((wrap64 (x55 * x158000)) : Int).toNat) x8 x6).bind fun t174 => (if x11.length < 5864062014805 then (erasure_Encode.l1 k x6 x8 (x11 ++ [(⟨x55, t174⟩ : S37)]) x54 (wrap64 (x55 + 1)) x158000 x158001 x170000 x170001 x170002) else (none))) else (none)) else (none)) else (none)) else (some (x11, 0))
end
def erasure_Encode.f (k : Nat) (a0_0 : Int) (a0_1 : Int) (a1 : ByteArray) : Option ((List (S37)) × Int) := (erasure_Length.f a0_0 a0_1 (a1.size : Int)).bind fun bt158 => (if bt158.2 = 0 then ((strings_Repeat.f (⟨#[0]⟩ : ByteArray) (wrap64 ((wrap64 (bt158.1 * a0_0)) - (a1.size : Int)))).bind fun t160 => (if a1.size + t160.size ≤ 9223372036854775807 then (erasure_Encode.l0 k (a1 ++ t160) bt158.1 ([] : List ByteArray) a0_0 0 a0_0 a0_1) else (none))) else (some (([] : List (S37)), bt158.2)))
theorem erasure_Encode.mono_l : ∀ k, (∀ y0 y1 y2 y3 y4 y5 y6, LeO (erasure_Encode.l0 k y0 y1 y2 y3 y4 y5 y6) (erasure_Encode.l0 (k + 1) y0 y1 y2 y3 y4 y5 y6)) ∧ (∀ y0 y1 y2 y3 y4 y5 y6 y7 y8 y9, LeO (erasure_Encode.l1 k y0 y1 y2 y3 y4 y5 y6 y7 y8 y9) (erasure_Encode.l1 (k + 1) y0 y1 y2 y3 y4 y5 y6 y7 y8 y9))
  | 0 => ⟨fun _ _ _ _ _ _ _ r h => by simp [erasure_Encode.l0] at h, fun _ _ _ _ _ _ _ _ _ _ r h => by simp [erasure_Encode.l1] at h⟩
  | k + 1 => by
    obtain ⟨ih0, ih1⟩ := erasure_Encode.mono_l k
    refine ⟨?_, ?_⟩
    · intro y0 y1 y2 y3 y4 y5 y6
      unfold erasure_Encode.l0
      repeat' first
      | (with_reducible exact ih0 _ _ _ _ _ _ _)
      | (with_reducible exact ih1 _ _ _ _ _ _ _ _ _ _)
      | (with_reducible exact erasure_rowsOf.mono _ _ _)
      | (with_reducible exact erasure_shard.mono _ _ _ _)
      | (with_reducible exact LeO.refl _)
      | (with_reducible exact LeO.none _)
      | (with_reducible refine LeO.ite ?_ ?_)
      | (with_reducible refine LeO.bind ?_ (fun _ => ?_))
      | exact ih0 _ _ _ _ _ _ _
      | exact ih1 _ _ _ _ _ _ _ _ _ _
      | exact erasure_rowsOf.mono _ _ _
      | exact erasure_shard.mono _ _ _ _
      | exact LeO.none _
      | refine LeO.ite ?_ ?_
      | refine LeO.bind ?_ (fun _ => ?_)
    · intro y0 y1 y2 y3 y4 y5 y6 y7 y8 y9
      unfold erasure_Encode.l1
      repeat' first
      | (with_reducible exact ih0 _ _ _ _ _ _ _)
      | (with_reducible exact ih1 _ _ _ _ _ _ _ _ _ _)
      | (with_reducible exact erasure_rowsOf.mono _ _ _)
      | (with_reducible exact erasure_shard.mono _ _ _ _)
      | (with_reducible exact LeO.refl _)
      | (with_reducible exact LeO.none _)
      | (with_reducible refine LeO.ite ?_ ?_)
      | (with_reducible refine LeO.bind ?_ (fun _ => ?_))
      | exact ih0 _ _ _ _ _ _ _
      | exact ih1 _ _ _ _ _ _ _ _ _ _
      | exact erasure_rowsOf.mono _ _ _
      | exact erasure_shard.mono _ _ _ _
      | exact LeO.none _
      | refine LeO.ite ?_ ?_
      | refine LeO.bind ?_ (fun _ => ?_)
theorem erasure_Encode.mono : ∀ a0 a1 a2 k, LeO (erasure_Encode.f k a0 a1 a2) (erasure_Encode.f (k + 1) a0 a1 a2) := by
  intro a0 a1 a2 k
  obtain ⟨ih0, ih1⟩ := erasure_Encode.mono_l k
  unfold erasure_Encode.f
  repeat' first
      | (with_reducible exact ih0 _ _ _ _ _ _ _)
      | (with_reducible exact ih1 _ _ _ _ _ _ _ _ _ _)
      | (with_reducible exact erasure_rowsOf.mono _ _ _)
      | (with_reducible exact erasure_shard.mono _ _ _ _)
      | (with_reducible exact LeO.refl _)
      | (with_reducible exact LeO.none _)
      | (with_reducible refine LeO.ite ?_ ?_)
      | (with_reducible refine LeO.bind ?_ (fun _ => ?_))
      | exact ih0 _ _ _ _ _ _ _
      | exact ih1 _ _ _ _ _ _ _ _ _ _
      | exact erasure_rowsOf.mono _ _ _
      | exact erasure_shard.mono _ _ _ _
      | exact LeO.none _
      | refine LeO.ite ?_ ?_
      | refine LeO.bind ?_ (fun _ => ?_)
set_option maxHeartbeats 8000000 in
set_option maxRecDepth 100000 in
theorem erasure_Encode.calls (k : Nat) (a0_0 : Int) (a0_1 : Int) (a1 : ByteArray) (r1 : List (S37)) (r2 : Int) (w : World) (h : erasure_Encode.f k a0_0 a0_1 a1 = some (r1, r2)) :
    Calls Try.prog 14 #[.agg #[.int .i64 a0_0, .int .i64 a0_1], .string a1] w fun e w' => ∃ v0_ : Value, e = .returned (.tuple #[v0_, .int .i64 r2]) ∧ Kd.R k37 37 w' w.heap.size (fun _ => True) v0_ r1 ∧ Below w.heap.size w w' := by
  have hu28 := Try.underlying28
  have hu63 := Try.underlying63
  have hu37 := Try.underlying37
  have HB := Aside0.mk (Below.refl w.heap.size w)
  have H : ((erasure_Length.f a0_0 a0_1 (a1.size : Int)).bind fun bt158 => (if bt158.2 = 0 then ((strings_Repeat.f (⟨#[0]⟩ : ByteArray) (wrap64 ((wrap64 (bt158.1 * a0_0)) - (a1.size : Int)))).bind fun t160 => (if a1.size + t160.size ≤ 9223372036854775807 then (erasure_Encode.l0 k (a1 ++ t160) bt158.1 ([] : List ByteArray) a0_0 0 a0_0 a0_1) else (none))) else (some (([] : List (S37)), bt158.2)))) = some (r1, r2) := h
  clear h
  replace H := Option.bind_eq_some_iff.mp H
  obtain ⟨⟨t158, t159⟩, A30, H⟩ := H
  replace H : (if t159 = 0 then ((strings_Repeat.f (⟨#[0]⟩ : ByteArray) (wrap64 ((wrap64 (t158 * a0_0)) - (a1.size : Int)))).bind fun t160 => (if a1.size + t160.size ≤ 9223372036854775807 then (erasure_Encode.l0 k (a1 ++ t160) t158 ([] : List ByteArray) a0_0 0 a0_0 a0_1) else (none))) else (some (([] : List (S37)), t159))) = some (r1, r2) := H
  have A3 := Aside0.mk A30
  clear A30
  by_cases c4 : t159 = 0
  · rw [if_pos c4] at H
    have c4b0 : (t159 == 0) = true := beq_iff_eq.mpr c4
    have c4b1 : (t159 != 0) = false := bne_eq_false_iff_eq.mpr c4
    clear c4
    replace H := Option.bind_eq_some_iff.mp H
    obtain ⟨t160, A50, H⟩ := H
    replace H : (if a1.size + t160.size ≤ 9223372036854775807 then (erasure_Encode.l0 k (a1 ++ t160) t158 ([] : List ByteArray) a0_0 0 a0_0 a0_1) else (none)) = some (r1, r2) := H
    have A5 := Aside0.mk A50
    clear A50
    by_cases c6 : a1.size + t160.size ≤ 9223372036854775807
    · rw [if_pos c6] at H
      have c6b0 := eq_true c6
      have c6b1 : decide (a1.size + t160.size ≤ 9223372036854775807) = true := decide_eq_true c6
      try have c6b2 : (9223372036854775807 < a1.size + t160.size) = False := eq_false (Nat.not_lt.2 c6)
      have H' := Aside0.mk H
      clear H
      go_enter Try.func14, Try.ntmps14
      go_wp2_with (first | ((with_reducible refine gate_dst (N := 2) rfl ?_); refine box_event ?hg (N := 2) ?hd (cs := #[.int .i64 a0_0, .int .i64 a0_1]) (t := 28) ?hr ?_; (case hd => rfl); (case hg => rfl); (case hr => first | (go_simp; done) | (go_simp; rfl)); intro gb157 hg w7 hbox hb; have n0_ := Aside0.mk (below_step (by repeat (first | (with_reducible first | exact HB.out | apply below_alloc | apply pw_below_drewN | apply below_drew1) | exact HB.out)) hb); have n1_ := Aside0.mk (hbox); have n2_ := Aside0.mk ((by rw [hg]; exact (below_size (by repeat (first | (with_reducible first | exact HB.out | apply below_alloc | apply pw_below_drewN | apply below_drew1) | exact HB.out))) : w.heap.size ≤ gb157)); have n3_ := Aside0.mk ((by rw [hg]; exact (below_size (by repeat (first | (with_reducible first | exact HB.out | apply below_alloc | apply pw_below_drewN | apply below_drew1) | exact HB.out))) : w.heap.size ≤ gb157)); clear HB; have HB := n0_; have BK157 := n1_; have GW157 := n2_; have GE157 := n3_; clear n0_ n1_ n2_ n3_; clear hb hbox hg; have hcz8_0 : w7.cell? ⟨gb157, 0, none⟩ = some (.int .i64 a0_0) := (blk_cell BK157.out 0).trans rfl; have hcz8_1 : w7.cell? ⟨gb157, 1, none⟩ = some (.int .i64 a0_1) := (blk_cell BK157.out 1).trans rfl; have hfz8_0 := blk_frozen BK157.out 0; have hfz8_1 := blk_frozen BK157.out 1) | ((with_reducible refine gate_callee (f := 15) rfl ?_); refine goesL_ (some 17) rfl rfl Try.func15 (by kernel_rfl) rfl #[.agg #[.int .i64 a0_0, .int .i64 a0_1], .int .i64 (a1.size : Int)] rfl (by (try simp only [List.map_toArray, List.map_cons, List.map_nil]); first | done | rfl | (simp only [List.length_drop, List.length_take]; rfl)) ?_; (with_reducible refine (erasure_Length.calls a0_0 a0_1 (a1.size : Int) t158 t159 _ A3.out).mono ?_); rintro e w9 ⟨rfl, hb⟩; refine ⟨_, rfl, ?_⟩; have n0_ := Aside0.mk (blk_below (g := gb157) (o := .cells #[.int .i64 a0_0, .int .i64 a0_1] 28 (0, 0)) (by (with_reducible repeat (first | refine blk_drewN ?_ _ | refine blk_drew ?_ | refine blk_alloc ?_ _)); exact BK157.out) hb); have n1_ := Aside0.mk (below_step (by repeat (first | (with_reducible first | exact HB.out | apply below_alloc | apply pw_below_drewN | apply below_drew1 | refine below_set ?_ GE157.out) | exact HB.out)) hb); clear BK157; clear HB; have BK157 := n0_; have HB := n1_; clear n0_ n1_; (try clear hb); (try clear hb2); (try clear hk); (try clear hi); have hcz10_0 : w9.cell? ⟨gb157, 0, none⟩ = some (.int .i64 a0_0) := (blk_cell BK157.out 0).trans rfl; have hcz10_1 : w9.cell? ⟨gb157, 1, none⟩ = some (.int .i64 a0_1) := (blk_cell BK157.out 1).trans rfl; have hfz10_0 := blk_frozen BK157.out 0; have hfz10_1 := blk_frozen BK157.out 1) | ((with_reducible refine gate_callee (f := 30) rfl ?_); refine goesL_ (some 31) rfl rfl Try.func30 (by kernel_rfl) rfl #[.string (⟨#[0]⟩ : ByteArray), .int .i64 (wrap64 ((wrap64 (t158 * a0_0)) - (a1.size : Int)))] rfl (by (try simp only [List.map_toArray, List.map_cons, List.map_nil]); first | done | rfl | (simp only [List.length_drop, List.length_take]; rfl)) ?_; (with_reducible refine (strings_Repeat.calls (⟨#[0]⟩ : ByteArray) (wrap64 ((wrap64 (t158 * a0_0)) - (a1.size : Int))) t160 _ A5.out).mono ?_); rintro e w11 ⟨rfl, hb⟩; refine ⟨_, rfl, ?_⟩; have n0_ := Aside0.mk (blk_below (g := gb157) (o := .cells #[.int .i64 a0_0, .int .i64 a0_1] 28 (0, 0)) (by (with_reducible repeat (first | refine blk_drewN ?_ _ | refine blk_drew ?_ | refine blk_alloc ?_ _)); exact BK157.out) hb); have n1_ := Aside0.mk (below_step (by repeat (first | (with_reducible first | exact HB.out | apply below_alloc | apply pw_below_drewN | apply below_drew1 | refine below_set ?_ GE157.out) | exact HB.out)) hb); clear BK157; clear HB; have BK157 := n0_; have HB := n1_; clear n0_ n1_; (try clear hb); (try clear hb2); (try clear hk); (try clear hi); have hcz12_0 : w11.cell? ⟨gb157, 0, none⟩ = some (.int .i64 a0_0) := (blk_cell BK157.out 0).trans rfl; have hcz12_1 : w11.cell? ⟨gb157, 1, none⟩ = some (.int .i64 a0_1) := (blk_cell BK157.out 1).trans rfl; have hfz12_0 := blk_frozen BK157.out 0; have hfz12_1 := blk_frozen BK157.out 1))
      generalize a1 ++ t160 = dat at H' ⊢
      go_loopg [8, 35] k (fun kq v8 v35 w' => ∃ (x8_1 : List ByteArray) (x35_1 : Int), v35 = .int .i64 x35_1 ∧ Aside0 (erasure_Encode.l0 kq dat t158 x8_1 a0_0 x35_1 a0_0 a0_1 = some (r1, r2)) ∧ Aside0 (kq ≤ k) ∧ Aside0 (Kd.R Kd.string 9 w' w.heap.size (fun _ => True) v8 x8_1) ∧ Aside0 (w'.heap[gb157]? = some (.cells #[.int .i64 a0_0, .int .i64 a0_1] 28 (0, 0))) ∧ Aside0 (Below w.heap.size w w'))
      case atStart => exact ⟨(([] : List ByteArray)), (0), (by first | rfl | (simp; done) | (simp [*]; done)), H', ⟨Nat.le_refl _⟩, ⟨by first | exact Kd.R_nil _ _ _ _ _ | exact Kd.N_nil _ _ _ _ _ | exact Kd.V_nil _ _ _ _ _ | exact Kd.Q_nil _ _ _ _ _ | exact Kd.S_nil _ _ _ _ _⟩, ⟨by (with_reducible repeat (first | refine blk_drewN ?_ _ | refine blk_drew ?_ | refine blk_alloc ?_ _)); exact BK157.out⟩, ⟨by repeat (first | (with_reducible first | exact HB.out | apply below_alloc | apply pw_below_drewN | apply below_drew1 | refine below_set ?_ GE157.out) | exact HB.out)⟩⟩
      case round =>
        clear H'
        try clear c1
        try clear p2
        try clear c3
        try clear c4
        try clear c4b0
        try clear c4b1
        try clear c6
        try clear c6b0
        try clear c6b1
        try clear c6b2
        try clear p6
        try clear hcz10_0
        try clear hcz10_1
        try clear hcz12_0
        try clear hcz12_1
        try clear hcz8_0
        try clear hcz8_1
        try clear hfz10_0
        try clear hfz10_1
        try clear hfz12_0
        try clear hfz12_1
        try clear hfz8_0
        try clear hfz8_1
        obtain ⟨x8_1, x35_1, rfl, HA, HK1, HO_8, BK157, HB⟩ := hrel
        cases gk with
        | zero => exact absurd HA.out (by simp [erasure_Encode.l0])
        | succ k1 =>
          have H := HA.out
          clear HA
          simp only [erasure_Encode.l0] at H
          by_cases c13 : x35_1 < a0_0
          · rw [if_pos c13] at H
            have c13b0 : decide (x35_1 < a0_0) = true := decide_eq_true c13
            clear c13
            obtain ⟨ji14, hji14⟩ : ∃ j_ : Int, (wrap64 (x35_1 * t158)) = j_ := ⟨_, rfl⟩
            replace H : (if 0 ≤ (ji14) then (if (ji14) ≤ (wrap64 ((wrap64 (x35_1 + 1)) * t158)) then (if (wrap64 ((wrap64 (x35_1 + 1)) * t158)) ≤ (dat.size : Int) then (if x8_1.length < 8796093022208 then (erasure_Encode.l0 k1 dat t158 (x8_1 ++ [dat.extract ((ji14) : Int).toNat ((wrap64 ((wrap64 (x35_1 + 1)) * t158)) : Int).toNat]) a0_0 (wrap64 (x35_1 + 1)) a0_0 a0_1) else (none)) else (none)) else (none)) else (none)) = some (r1, r2) := by first | (rw [hji14] at H; exact H) | (simp only [hji14] at H ⊢; exact H)
            have hji14w : (IntKind.i64.wrap (x35_1 * t158)) = ji14 := (i64_w _).trans hji14
            by_cases c15 : 0 ≤ (ji14)
            · rw [if_pos c15] at H
              have c15b0 := eq_true c15
              have c15b1 : decide (0 ≤ (ji14)) = true := decide_eq_true c15
              clear c15
              by_cases c16 : (ji14) ≤ (wrap64 ((wrap64 (x35_1 + 1)) * t158))
              · rw [if_pos c16] at H
                have c16b0 := eq_true c16
                have c16b1 : decide ((ji14) ≤ (wrap64 ((wrap64 (x35_1 + 1)) * t158))) = true := decide_eq_true c16
                by_cases c17 : (wrap64 ((wrap64 (x35_1 + 1)) * t158)) ≤ (dat.size : Int)
                · rw [if_pos c17] at H
                  have c17b0 := eq_true c17
                  have c17b1 : decide ((wrap64 ((wrap64 (x35_1 + 1)) * t158)) ≤ (dat.size : Int)) = true := decide_eq_true c17
                  by_cases c18 : x8_1.length < 8796093022208
                  · rw [if_pos c18] at H
                    have LMc18 := Aside0.mk c18
                    clear c18
                    obtain ⟨y161, hy161⟩ : ∃ y_ : List ByteArray, y_ = (x8_1 ++ [dat.extract ((ji14) : Int).toNat ((wrap64 ((wrap64 (x35_1 + 1)) * t158)) : Int).toNat]) := ⟨_, rfl⟩
                    replace H : (erasure_Encode.l0 k1 dat t158 y161 a0_0 (wrap64 (x35_1 + 1)) a0_0 a0_1) = some (r1, r2) := by first | (rw [hy161]; with_reducible exact H) | (have H2_ := (Option.bind_some _ _).symm.trans H; rw [hy161]; with_reducible exact H2_) | (have H2_ := (Option.bind_some _ _).symm.trans H; with_reducible exact H2_) | with_reducible exact H | (rw [hy161]; exact H) | exact H
                    have Ny161 := Aside0.mk hy161
                    clear hy161
                    have H' := Aside0.mk H
                    clear H
                    go_wp2_with (first | ((with_reducible refine gate_builtin (b := .append) (xs := #[.tmp 38, .tmp 48]) rfl ?_); at_builtin; refine Kd.R_append Kd.string (w0 := w) w.heap.size rfl (.tmp 38) (.tmp 48) 61 9 (.string ⟨#[]⟩) 16 rfl Try.underlying61 info9 rfl (by decide) (by omega) u8 x8_1 (dat.extract ((ji14) : Int).toNat ((wrap64 ((wrap64 (x35_1 + 1)) * t158)) : Int).toNat) [.string (dat.extract ((ji14) : Int).toNat ((wrap64 ((wrap64 (x35_1 + 1)) * t158)) : Int).toNat)] (fun _ => True) (fun _ => False) rfl rfl ?aP (fun _ hk => hk.elim) ?aF ?aO ?aB ?aS ?aL ?_; (case aP => exact rfl); (case aB => exact (by repeat (first | (with_reducible first | exact HB.out | apply below_alloc | apply pw_below_drewN | apply below_drew1 | refine below_set ?_ GE157.out) | exact HB.out))); (case aF => exact (fun _ _ => trivial)); (case aO => exact (by (with_reducible repeat (first | apply Kd.R_alloc | apply Kd.R_drewN | apply Kd.R_drew)); exact HO_8.out)); (case aS => exact (below_size (by repeat (first | (with_reducible first | exact HB.out | apply below_alloc | apply pw_below_drewN | apply below_drew1 | refine below_set ?_ GE157.out) | exact HB.out)))); (case aL => have := LMc18.out; omega); intro v162 w19 ho hb hg hat; rw [← Ny161.out] at ho; have n0_ := Aside0.mk (blk_grown (g := gb157) (o := .cells #[.int .i64 a0_0, .int .i64 a0_1] 28 (0, 0)) (by (with_reducible repeat (first | refine blk_drewN ?_ _ | refine blk_drew ?_ | refine blk_alloc ?_ _)); exact BK157.out) hg (Kd.R_ne HO_8.out BK157.out (by decide))); have n1_ := Aside0.mk (hb); have n2_ := Aside0.mk (ho); clear BK157; clear HB; clear HO_8; have BK157 := n0_; have HB := n1_; have HO163 := n2_; clear n0_ n1_ n2_; clear ho hb hg hat))
                    go_roundg k1
                    case measure => have := HK1.out; omega
                    case rel => exact ⟨(y161), (wrap64 (x35_1 + 1)), (by first | rfl | (simp; done) | (simp [*]; done)), H', ⟨by have := HK1.out; omega⟩, ⟨by (with_reducible repeat (first | apply Kd.R_alloc | apply Kd.R_drewN | apply Kd.R_drew)); exact HO163.out⟩, ⟨by (with_reducible repeat (first | refine blk_drewN ?_ _ | refine blk_drew ?_ | refine blk_alloc ?_ _)); exact BK157.out⟩, ⟨by repeat (first | (with_reducible first | exact HB.out | apply below_alloc | apply pw_below_drewN | apply below_drew1 | refine below_set ?_ GE157.out) | exact HB.out)⟩⟩
                  · rw [if_neg c18] at H
                    exact absurd H (by simp)
                · rw [if_neg c17] at H
                  exact absurd H (by simp)
              · rw [if_neg c16] at H
                exact absurd H (by simp)
            · rw [if_neg c15] at H
              exact absurd H (by simp)
          · rw [if_neg c13] at H
            have c13b0 : decide (x35_1 < a0_0) = false := decide_eq_false c13
            clear c13
            replace H := Option.bind_eq_some_iff.mp H
            obtain ⟨⟨t164, t165, t166⟩, A200, H⟩ := H
            replace H : (erasure_Encode.l1 k1 t158 x8_1 ([] : List (S37)) a0_1 0 a0_0 a0_1 t164 t165 t166) = some (r1, r2) := H
            have A20 := Aside0.mk A200
            clear A200
            have H' := Aside0.mk H
            clear H
            have hcz21_0 : wr.cell? ⟨gb157, 0, none⟩ = some (.int .i64 a0_0) := (blk_cell BK157.out 0).trans rfl
            have hcz21_1 : wr.cell? ⟨gb157, 1, none⟩ = some (.int .i64 a0_1) := (blk_cell BK157.out 1).trans rfl
            have hfz21_0 := blk_frozen BK157.out 0
            have hfz21_1 := blk_frozen BK157.out 1
            go_wp2_with (first | ((with_reducible refine gate_callee (f := 31) rfl ?_); refine goesL_ (some 52) rfl rfl Try.func31 (by kernel_rfl) rfl #[.agg #[.int .i64 a0_0, .int .i64 a0_1]] rfl (by (try simp only [List.map_toArray, List.map_cons, List.map_nil]); first | done | rfl | (simp only [List.length_drop, List.length_take]; rfl)) ?_; (with_reducible refine (erasure_rowsOf.calls k1 a0_0 a0_1 t164 t165 t166 _ A20.out).mono ?_); rintro e w22 ⟨v167, rfl, ho0, hb⟩; refine ⟨_, rfl, ?_⟩; have n0_ := Aside0.mk (Kd.R_below (by (with_reducible repeat (first | apply Kd.R_alloc | apply Kd.R_drewN | apply Kd.R_drew)); exact HO_8.out) hb); have n1_ := Aside0.mk (Kd.R_lower ho0 (below_size (by repeat (first | (with_reducible first | exact HB.out | apply below_alloc | apply pw_below_drewN | apply below_drew1 | refine below_set ?_ GE157.out) | exact HB.out)))); have n2_ := Aside0.mk (blk_below (g := gb157) (o := .cells #[.int .i64 a0_0, .int .i64 a0_1] 28 (0, 0)) (by (with_reducible repeat (first | refine blk_drewN ?_ _ | refine blk_drew ?_ | refine blk_alloc ?_ _)); exact BK157.out) hb); have n3_ := Aside0.mk (below_step (by repeat (first | (with_reducible first | exact HB.out | apply below_alloc | apply pw_below_drewN | apply below_drew1 | refine below_set ?_ GE157.out) | exact HB.out)) hb); clear HO_8; clear BK157; clear HB; have HO_8 := n0_; have HO168 := n1_; have BK157 := n2_; have HB := n3_; clear n0_ n1_ n2_ n3_; (try clear hb); (try clear hb2); (try clear hk); (try clear hi); (try clear ho0)) | ((with_reducible refine gate_dst (N := 10) rfl ?_); refine box_event ?hg (N := 10) ?hd (cs := #[.int .i64 0, .int .i64 0, .slice none 0 0]) (t := 63) ?hr ?_; (case hd => rfl); (case hg => rfl); (case hr => first | (go_simp; done) | (go_simp; rfl)); intro gb169 hg w23 hbox hb; have n0_ := Aside0.mk (Kd.R_below (by (with_reducible repeat (first | apply Kd.R_alloc | apply Kd.R_drewN | apply Kd.R_drew)); exact HO_8.out) hb); have n1_ := Aside0.mk (Kd.R_below (by (with_reducible repeat (first | apply Kd.R_alloc | apply Kd.R_drewN | apply Kd.R_drew)); exact HO168.out) hb); have n2_ := Aside0.mk (blk_below (g := gb157) (o := .cells #[.int .i64 a0_0, .int .i64 a0_1] 28 (0, 0)) (by (with_reducible repeat (first | refine blk_drewN ?_ _ | refine blk_drew ?_ | refine blk_alloc ?_ _)); exact BK157.out) hb); have n3_ := Aside0.mk (below_step (by repeat (first | (with_reducible first | exact HB.out | apply below_alloc | apply pw_below_drewN | apply below_drew1 | refine below_set ?_ GE157.out) | exact HB.out)) hb); have n4_ := Aside0.mk (hbox); have n5_ := Aside0.mk ((by rw [hg]; exact (below_size (by repeat (first | (with_reducible first | exact HB.out | apply below_alloc | apply pw_below_drewN | apply below_drew1 | refine below_set ?_ GE157.out) | exact HB.out))) : w.heap.size ≤ gb169)); have n6_ := Aside0.mk ((by rw [hg]; exact (below_size (by repeat (first | (with_reducible first | exact HB.out | apply below_alloc | apply pw_below_drewN | apply below_drew1 | refine below_set ?_ GE157.out) | exact HB.out))) : w.heap.size ≤ gb169)); have n7_ := Aside0.mk ((by rw [hg]; exact Nat.ne_of_lt (blk_lt (g := gb157) (o := .cells #[.int .i64 a0_0, .int .i64 a0_1] 28 (0, 0)) (by (with_reducible repeat (first | refine blk_drewN ?_ _ | refine blk_drew ?_ | refine blk_alloc ?_ _)); exact BK157.out)) : gb157 ≠ gb169)); have n8_ := Aside0.mk ((by rw [hg]; exact Nat.ne_of_gt (blk_lt (g := gb157) (o := .cells #[.int .i64 a0_0, .int .i64 a0_1] 28 (0, 0)) (by (with_reducible repeat (first | refine blk_drewN ?_ _ | refine blk_drew ?_ | refine blk_alloc ?_ _)); exact BK157.out)) : gb169 ≠ gb157)); clear HO_8; clear HO168; clear BK157; clear HB; have HO_8 := n0_; have HO168 := n1_; have BK157 := n2_; have HB := n3_; have BK169 := n4_; have GW169 := n5_; have GE169 := n6_; have NB157_169 := n7_; have NB169_157 := n8_; clear n0_ n1_ n2_ n3_ n4_ n5_ n6_ n7_ n8_; clear hb hbox hg; have hnb24 := NB169_157.out; have hnc24 := NB157_169.out; have hcz25_0 : w23.cell? ⟨gb169, 0, none⟩ = some (.int .i64 0) := (blk_cell BK169.out 0).trans rfl; have hcz25_1 : w23.cell? ⟨gb169, 1, none⟩ = some (.int .i64 0) := (blk_cell BK169.out 1).trans rfl; have hcz25_2 : w23.cell? ⟨gb169, 2, none⟩ = some (.slice none 0 0) := (blk_cell BK169.out 2).trans rfl; have hfz25_0 := blk_frozen BK169.out 0; have hfz25_1 := blk_frozen BK169.out 1; have hfz25_2 := blk_frozen BK169.out 2; obtain ⟨Ao26, co26, eo26⟩ := Kd.R_slice HO168.out; subst eo26; have hcz27_0 : w23.cell? ⟨gb157, 0, none⟩ = some (.int .i64 a0_0) := (blk_cell BK157.out 0).trans rfl; have hcz27_1 : w23.cell? ⟨gb157, 1, none⟩ = some (.int .i64 a0_1) := (blk_cell BK157.out 1).trans rfl; have hfz27_0 := blk_frozen BK157.out 0; have hfz27_1 := blk_frozen BK157.out 1))
            go_loopg [11, 55] k1 (fun kq v11 v55 w' => ∃ (x11_2 : List (S37)) (x55_2 : Int), v55 = .int .i64 x55_2 ∧ Aside0 (erasure_Encode.l1 kq t158 x8_1 x11_2 a0_1 x55_2 a0_0 a0_1 t164 t165 t166 = some (r1, r2)) ∧ Aside0 (kq ≤ k1) ∧ Aside0 (Kd.R Kd.string 9 w' w.heap.size (fun _ => True) u8 x8_1) ∧ Aside0 (Kd.R k37 37 w' w.heap.size (fun _ => True) v11 x11_2) ∧ Aside0 (Kd.R (Kd.int .i64) 3 w' w.heap.size (fun _ => True) (.slice Ao26 t166.length co26) t166) ∧ Aside0 (w'.heap[gb157]? = some (.cells #[.int .i64 a0_0, .int .i64 a0_1] 28 (0, 0))) ∧ Aside0 (w'.heap[gb169]? = some (.cells #[.int .i64 t164, .int .i64 t165, (.slice Ao26 t166.length co26)] 63 (0, 0))) ∧ Aside0 (Below w.heap.size w w'))
            case atStart => exact ⟨(([] : List (S37))), (0), (by first | rfl | (simp; done) | (simp [*]; done)), H', ⟨Nat.le_refl _⟩, ⟨by (with_reducible repeat (first | apply Kd.R_alloc | apply Kd.R_drewN | apply Kd.R_drew)); exact Kd.R_mono (Kd.R_far (p := ⟨gb169, 2, none⟩) (Kd.R_far (p := ⟨gb169, 1, none⟩) (Kd.R_far (p := ⟨gb169, 0, none⟩) (Kd.R_types HO_8.out BK169.out (by decide)) (fun _ hk => hk.2) (.int .i64 t164)) (fun _ hk => hk.2) (.int .i64 t165)) (fun _ hk => hk.2) (.slice Ao26 t166.length co26)) (fun _ hk => trivial)⟩, ⟨by first | exact Kd.R_nil _ _ _ _ _ | exact Kd.N_nil _ _ _ _ _ | exact Kd.V_nil _ _ _ _ _ | exact Kd.Q_nil _ _ _ _ _ | exact Kd.S_nil _ _ _ _ _⟩, ⟨by (with_reducible repeat (first | apply Kd.R_alloc | apply Kd.R_drewN | apply Kd.R_drew)); exact Kd.R_mono (Kd.R_far (p := ⟨gb169, 2, none⟩) (Kd.R_far (p := ⟨gb169, 1, none⟩) (Kd.R_far (p := ⟨gb169, 0, none⟩) (Kd.R_types HO168.out BK169.out (by decide)) (fun _ hk => hk.2) (.int .i64 t164)) (fun _ hk => hk.2) (.int .i64 t165)) (fun _ hk => hk.2) (.slice Ao26 t166.length co26)) (fun _ hk => trivial)⟩, ⟨by (with_reducible repeat (first | refine blk_drewN ?_ _ | refine blk_drew ?_ | refine blk_alloc ?_ _)); refine blk_far ?_ NB157_169.out _; (with_reducible repeat (first | refine blk_drewN ?_ _ | refine blk_drew ?_ | refine blk_alloc ?_ _)); refine blk_far ?_ NB157_169.out _; (with_reducible repeat (first | refine blk_drewN ?_ _ | refine blk_drew ?_ | refine blk_alloc ?_ _)); refine blk_far ?_ NB157_169.out _; (with_reducible repeat (first | refine blk_drewN ?_ _ | refine blk_drew ?_ | refine blk_alloc ?_ _)); exact BK157.out⟩, ⟨by (with_reducible repeat (first | refine blk_drewN ?_ _ | refine blk_drew ?_ | refine blk_alloc ?_ _)); refine blk_put (cs := #[.int .i64 t164, .int .i64 t165, .slice none 0 0]) ?_ 2 _ rfl; (with_reducible repeat (first | refine blk_drewN ?_ _ | refine blk_drew ?_ | refine blk_alloc ?_ _)); refine blk_put (cs := #[.int .i64 t164, .int .i64 0, .slice none 0 0]) ?_ 1 _ rfl; (with_reducible repeat (first | refine blk_drewN ?_ _ | refine blk_drew ?_ | refine blk_alloc ?_ _)); refine blk_put (cs := #[.int .i64 0, .int .i64 0, .slice none 0 0]) ?_ 0 _ rfl; (with_reducible repeat (first | refine blk_drewN ?_ _ | refine blk_drew ?_ | refine blk_alloc ?_ _)); exact BK169.out⟩, ⟨by repeat (first | (with_reducible first | exact HB.out | apply below_alloc | apply pw_below_drewN | apply below_drew1 | refine below_set ?_ GE157.out | refine below_set ?_ GE169.out) | exact HB.out)⟩⟩
            case round =>
              clear H'
              try clear c1
              try clear c2
              try clear p2
              try clear c3
              try clear c4
              try clear c4b0
              try clear c4b1
              try clear c6
              try clear c6b0
              try clear c6b1
              try clear c6b2
              try clear p6
              try clear c13
              try clear c13b0
              try clear c14
              try clear c15
              try clear c15b0
              try clear c15b1
              try clear c16
              try clear c16b0
              try clear c16b1
              try clear c17
              try clear c17b0
              try clear c17b1
              try clear c18
              try clear c24
              try clear hcz10_0
              try clear hcz10_1
              try clear hcz12_0
              try clear hcz12_1
              try clear hcz21_0
              try clear hcz21_1
              try clear hcz25_0
              try clear hcz25_1
              try clear hcz25_2
              try clear hcz27_0
              try clear hcz27_1
              try clear hcz8_0
              try clear hcz8_1
              try clear hfz10_0
              try clear hfz10_1
              try clear hfz12_0
              try clear hfz12_1
              try clear hfz21_0
              try clear hfz21_1
              try clear hfz25_0
              try clear hfz25_1
              try clear hfz25_2
              try clear hfz27_0
              try clear hfz27_1
              try clear hfz8_0
              try clear hfz8_1
              try clear p2
              try clear p6
              obtain ⟨x11_2, x55_2, rfl, HA, HK2, HO_8, HO_11, HO_170002, BK157, BK169, HB⟩ := hrel
              cases gk with
              | zero => exact absurd HA.out (by simp [erasure_Encode.l1])
              | succ k2 =>
                have H := HA.out
                clear HA
                simp only [erasure_Encode.l1] at H
                by_cases c28 : x55_2 < a0_1
                · rw [if_pos c28] at H
                  have c28b0 : decide (x55_2 < a0_1) = true := decide_eq_true c28
                  clear c28
                  obtain ⟨ji29, hji29⟩ : ∃ j_ : Int, (wrap64 (x55_2 * a0_0)) = j_ := ⟨_, rfl⟩
                  replace H : (if 0 ≤ (ji29) then (if (ji29) ≤ (wrap64 ((wrap64 (x55_2 + 1)) * a0_0)) then (if (wrap64 ((wrap64 (x55_2 + 1)) * a0_0)) ≤ (t166.length : Int) then ((erasure_shard.f k2 ((t166.take ((wrap64 ((wrap64 (x55_2 + 1)) * a0_0)) : Int).toNat).drop ((ji29) : Int).toNat) x8_1 t158).bind fun t174 => (if x11_2.length < 5864062014805 then (erasure_Encode.l1 k2 t158 x8_1 (x11_2 ++ [(⟨x55_2, t174⟩ : S37)]) a0_1 (wrap64 (x55_2 + 1)) a0_0 a0_1 t164 t165 t166) else (none))) else (none)) else (none)) else (none)) = some (r1, r2) := by first | (rw [hji29] at H; exact H) | (simp only [hji29] at H ⊢; exact H)
                  have hji29w : (IntKind.i64.wrap (x55_2 * a0_0)) = ji29 := (i64_w _).trans hji29
                  by_cases c30 : 0 ≤ (ji29)
                  · rw [if_pos c30] at H
                    have c30b0 := eq_true c30
                    have c30b1 : decide (0 ≤ (ji29)) = true := decide_eq_true c30
                    clear c30
                    by_cases c31 : (ji29) ≤ (wrap64 ((wrap64 (x55_2 + 1)) * a0_0))
                    · rw [if_pos c31] at H
                      have c31b0 := eq_true c31
                      have c31b1 : decide ((ji29) ≤ (wrap64 ((wrap64 (x55_2 + 1)) * a0_0))) = true := decide_eq_true c31
                      by_cases c32 : (wrap64 ((wrap64 (x55_2 + 1)) * a0_0)) ≤ (t166.length : Int)
                      · rw [if_pos c32] at H
                        have c32b0 := eq_true c32
                        have c32b1 : decide ((wrap64 ((wrap64 (x55_2 + 1)) * a0_0)) ≤ (t166.length : Int)) = true := decide_eq_true c32
                        obtain ⟨y170, hy170⟩ : ∃ y_ : List Int, y_ = ((t166.take ((wrap64 ((wrap64 (x55_2 + 1)) * a0_0)) : Int).toNat).drop ((ji29) : Int).toNat) := ⟨_, rfl⟩
                        replace H : ((erasure_shard.f k2 y170 x8_1 t158).bind fun t174 => (if x11_2.length < 5864062014805 then (erasure_Encode.l1 k2 t158 x8_1 (x11_2 ++ [(⟨x55_2, t174⟩ : S37)]) a0_1 (wrap64 (x55_2 + 1)) a0_0 a0_1 t164 t165 t166) else (none))) = some (r1, r2) := by first | (rw [hy170]; with_reducible exact H) | (have H2_ := (Option.bind_some _ _).symm.trans H; rw [hy170]; with_reducible exact H2_) | (have H2_ := (Option.bind_some _ _).symm.trans H; with_reducible exact H2_) | with_reducible exact H | (rw [hy170]; exact H) | exact H
                        have Ny170 := Aside0.mk hy170
                        clear hy170
                        replace H := Option.bind_eq_some_iff.mp H
                        obtain ⟨t174, A330, H⟩ := H
                        replace H : (if x11_2.length < 5864062014805 then (erasure_Encode.l1 k2 t158 x8_1 (x11_2 ++ [(⟨x55_2, t174⟩ : S37)]) a0_1 (wrap64 (x55_2 + 1)) a0_0 a0_1 t164 t165 t166) else (none)) = some (r1, r2) := H
                        have A33 := Aside0.mk A330
                        clear A330
                        by_cases c34 : x11_2.length < 5864062014805
                        · rw [if_pos c34] at H
                          have LMc34 := Aside0.mk c34
                          clear c34
                          obtain ⟨y175, hy175⟩ : ∃ y_ : List (S37), y_ = (x11_2 ++ [(⟨x55_2, t174⟩ : S37)]) := ⟨_, rfl⟩
                          replace H : (erasure_Encode.l1 k2 t158 x8_1 y175 a0_1 (wrap64 (x55_2 + 1)) a0_0 a0_1 t164 t165 t166) = some (r1, r2) := by first | (rw [hy175]; with_reducible exact H) | (have H2_ := (Option.bind_some _ _).symm.trans H; rw [hy175]; with_reducible exact H2_) | (have H2_ := (Option.bind_some _ _).symm.trans H; with_reducible exact H2_) | with_reducible exact H | (rw [hy175]; exact H) | exact H
                          have Ny175 := Aside0.mk hy175
                          clear hy175
                          have H' := Aside0.mk H
                          clear H
                          have hnb35 := NB169_157.out
                          have hnc35 := NB157_169.out
                          have hcz36_0 : wr.cell? ⟨gb169, 0, none⟩ = some (.int .i64 t164) := (blk_cell BK169.out 0).trans rfl
                          have hcz36_1 : wr.cell? ⟨gb169, 1, none⟩ = some (.int .i64 t165) := (blk_cell BK169.out 1).trans rfl
                          have hcz36_2 : wr.cell? ⟨gb169, 2, none⟩ = some (.slice Ao26 t166.length co26) := (blk_cell BK169.out 2).trans rfl
                          have hfz36_0 := blk_frozen BK169.out 0
                          have hfz36_1 := blk_frozen BK169.out 1
                          have hfz36_2 := blk_frozen BK169.out 2
                          have hcz37_0 : wr.cell? ⟨gb157, 0, none⟩ = some (.int .i64 a0_0) := (blk_cell BK157.out 0).trans rfl
                          have hcz37_1 : wr.cell? ⟨gb157, 1, none⟩ = some (.int .i64 a0_1) := (blk_cell BK157.out 1).trans rfl
                          have hfz37_0 := blk_frozen BK157.out 0
                          have hfz37_1 := blk_frozen BK157.out 1
                          have q38 : ((wrap64 ((wrap64 (x55_2 + 1)) * a0_0)) : Int) ≤ ((t166.length : Int) : Int) := of_decide_eq_true (by first | (with_reducible assumption) | assumption)
                          obtain ⟨i038, hi038, _, hsz38, _⟩ := info_parts info3
                          have hroom38 : t166.length ≤ co26 := (Kd.R_reads' HO_170002.out).2.1
                          have hC38 : Kd.C (Kd.int .i64) _ Ao26 t166.length t166 := (Kd.R_reads' HO_170002.out).2.2
                          have ql38 : ((ji29) : Int) ≤ ((wrap64 ((wrap64 (x55_2 + 1)) * a0_0)) : Int) := of_decide_eq_true (by first | (with_reducible assumption) | assumption)
                          have q038 : (0 : Int) ≤ ((ji29) : Int) := of_decide_eq_true (by first | (with_reducible assumption) | assumption)
                          have hcut38 := cut_mid (P := Try.prog) 22 3 .i64 .i64 Try.underlying22 hi038 1 hsz38 Ao26 t166.length co26 (ji29) (wrap64 ((wrap64 (x55_2 + 1)) * a0_0)) q038 ql38 q38 hroom38
                          have hr38 := Kd.C_mid (lo := ((ji29) : Int).toNat) (hi := ((wrap64 ((wrap64 (x55_2 + 1)) * a0_0)) : Int).toNat) (c := co26) hC38 (by omega) (by omega) hroom38
                          obtain ⟨A38, hA38⟩ : ∃ A1, A1 = (if co26 = ((ji29) : Int).toNat then Ao26 else (Ao26 : Option Addr).map (·.add (((ji29) : Int).toNat * 1))) := ⟨_, rfl⟩
                          obtain ⟨c38, hc38⟩ : ∃ c1, c1 = co26 - ((ji29) : Int).toNat := ⟨_, rfl⟩
                          have hy38 : y170.length = ((wrap64 ((wrap64 (x55_2 + 1)) * a0_0)) : Int).toNat - ((ji29) : Int).toNat := (by rw [Ny170.out, List.length_drop, List.length_take] <;> omega)
                          rw [show ((t166).take ((wrap64 ((wrap64 (x55_2 + 1)) * a0_0)) : Int).toNat).drop ((ji29) : Int).toNat = y170 from Ny170.out.symm] at hr38
                          replace hr38 : Kd.C (Kd.int .i64) _ A38 y170.length y170 := (by rw [hA38]; exact hr38)
                          rw [← hy38, ← hA38, ← hc38] at hcut38
                          have HR173 := Aside0.mk hr38
                          have HC173 := Aside0.mk (show y170.length ≤ c38 from by rw [hy38, hc38]; exact Nat.sub_le_sub_right (Nat.le_trans (by omega) hroom38) _)
                          clear hr38 hC38 hroom38 hi038 hsz38 hc38
                          have KY38 := Aside0.mk hy38
                          have KA38 := Aside0.mk hA38
                          clear hy38 hA38
                          have KL38 := Aside0.mk (show ((wrap64 ((wrap64 (x55_2 + 1)) * a0_0)) : Int).toNat ≤ t166.length from by omega)
                          have KM38 := Aside0.mk (show ((ji29) : Int).toNat ≤ ((wrap64 ((wrap64 (x55_2 + 1)) * a0_0)) : Int).toNat from by omega)
                          replace q38 := eq_true q38
                          obtain ⟨Ao39, co39, eo39⟩ := Kd.R_slice HO_8.out
                          subst eo39
                          go_wp2_with (first | ((with_reducible refine gate_callee (f := 32) rfl ?_); refine goesL_ (some 74) rfl rfl Try.func32 (by kernel_rfl) rfl #[.slice A38 y170.length c38, .slice Ao39 x8_1.length co39, .int .i64 t158] rfl (by (try simp only [List.map_toArray, List.map_cons, List.map_nil]); first | done | rfl | (simp only [List.length_drop, List.length_take]; rfl)) ?_; (with_reducible refine (erasure_shard.calls k2 _ _ y170 _ _ x8_1 t158 t174 _ ?side1 ?side2 ?side3 ?side4 A33.out).mono ?_); (case side1 => repeat (first | exact (by repeat (first | (with_reducible exact HR173.out) | (with_reducible refine Kd.C_alloc ?_ _) | (with_reducible refine Kd.C_drewN ?_ _) | (with_reducible refine Kd.C_drew ?_) | exact HR173.out)) | (with_reducible refine Kd.C_alloc ?_ _) | (with_reducible refine Kd.C_drewN ?_ _) | (with_reducible refine Kd.C_drew ?_))); (case side2 => exact HC173.out); (case side3 => repeat (first | exact (Kd.R_reads' HO_8.out).2.2 | (with_reducible refine Kd.C_alloc ?_ _) | (with_reducible refine Kd.C_drewN ?_ _) | (with_reducible refine Kd.C_drew ?_))); (case side4 => exact (Kd.R_reads' HO_8.out).2.1); rintro e w40 ⟨rfl, hb⟩; refine ⟨_, rfl, ?_⟩; have n0_ := Aside0.mk (Kd.R_below (by (with_reducible repeat (first | apply Kd.R_alloc | apply Kd.R_drewN | apply Kd.R_drew)); exact HO_8.out) hb); have n1_ := Aside0.mk (Kd.R_below (by (with_reducible repeat (first | apply Kd.R_alloc | apply Kd.R_drewN | apply Kd.R_drew)); exact HO_11.out) hb); have n2_ := Aside0.mk (Kd.R_below (by (with_reducible repeat (first | apply Kd.R_alloc | apply Kd.R_drewN | apply Kd.R_drew)); exact HO_170002.out) hb); have n3_ := Aside0.mk (blk_below (g := gb157) (o := .cells #[.int .i64 a0_0, .int .i64 a0_1] 28 (0, 0)) (by (with_reducible repeat (first | refine blk_drewN ?_ _ | refine blk_drew ?_ | refine blk_alloc ?_ _)); exact BK157.out) hb); have n4_ := Aside0.mk (blk_below (g := gb169) (o := .cells #[.int .i64 t164, .int .i64 t165, .slice Ao26 t166.length co26] 63 (0, 0)) (by (with_reducible repeat (first | refine blk_drewN ?_ _ | refine blk_drew ?_ | refine blk_alloc ?_ _)); exact BK169.out) hb); have n5_ := Aside0.mk (Kd.C_below (by repeat (first | (with_reducible exact HR173.out) | (with_reducible refine Kd.C_alloc ?_ _) | (with_reducible refine Kd.C_drewN ?_ _) | (with_reducible refine Kd.C_drew ?_) | exact HR173.out)) hb); have n6_ := Aside0.mk (below_step (by repeat (first | (with_reducible first | exact HB.out | apply below_alloc | apply pw_below_drewN | apply below_drew1 | refine below_set ?_ GE157.out | refine below_set ?_ GE169.out) | exact HB.out)) hb); clear HO_8; clear HO_11; clear HO_170002; clear BK157; clear BK169; clear HR173; clear HB; have HO_8 := n0_; have HO_11 := n1_; have HO_170002 := n2_; have BK157 := n3_; have BK169 := n4_; have HR173 := n5_; have HB := n6_; clear n0_ n1_ n2_ n3_ n4_ n5_ n6_; (try clear hb); (try clear hb2); (try clear hk); (try clear hi)) | ((with_reducible refine gate_builtin (b := .append) (xs := #[.tmp 58, .tmp 76]) rfl ?_); at_builtin; refine Kd.R_append k37 (w0 := w) w.heap.size rfl (.tmp 58) (.tmp 76) 30 37 (.agg #[(.int .i64 0), (.string ⟨#[]⟩)]) 24 rfl Try.underlying30 info37 rfl (by decide) (by omega) u11 x11_2 (⟨x55_2, t174⟩ : S37) [.int .i64 x55_2, .string t174] (fun _ => True) (fun _ => False) rfl rfl ?aP (fun _ hk => hk.elim) ?aF ?aO ?aB ?aS ?aL ?_; (case aP => exact k37_mkM _ _ _ (⟨x55_2, t174⟩ : S37)); (case aB => exact (by repeat (first | (with_reducible first | exact HB.out | apply below_alloc | apply pw_below_drewN | apply below_drew1 | refine below_set ?_ GE157.out | refine below_set ?_ GE169.out) | exact HB.out))); (case aF => exact (fun _ _ => trivial)); (case aO => exact (by (with_reducible repeat (first | apply Kd.R_alloc | apply Kd.R_drewN | apply Kd.R_drew)); exact HO_11.out)); (case aS => exact (below_size (by repeat (first | (with_reducible first | exact HB.out | apply below_alloc | apply pw_below_drewN | apply below_drew1 | refine below_set ?_ GE157.out | refine below_set ?_ GE169.out) | exact HB.out)))); (case aL => have := LMc34.out; omega); intro v176 w41 ho hb hg hat; rw [← Ny175.out] at ho; have n0_ := Aside0.mk (Kd.R_over' (by (with_reducible repeat (first | apply Kd.R_alloc | apply Kd.R_drewN | apply Kd.R_drew)); exact HO_8.out) (Kd.R_typed (by (with_reducible repeat (first | apply Kd.R_alloc | apply Kd.R_drewN | apply Kd.R_drew)); exact HO_11.out)) (by decide) hg); have n1_ := Aside0.mk (Kd.R_over' (by (with_reducible repeat (first | apply Kd.R_alloc | apply Kd.R_drewN | apply Kd.R_drew)); exact HO_170002.out) (Kd.R_typed (by (with_reducible repeat (first | apply Kd.R_alloc | apply Kd.R_drewN | apply Kd.R_drew)); exact HO_11.out)) (by decide) hg); have n2_ := Aside0.mk (blk_grown (g := gb157) (o := .cells #[.int .i64 a0_0, .int .i64 a0_1] 28 (0, 0)) (by (with_reducible repeat (first | refine blk_drewN ?_ _ | refine blk_drew ?_ | refine blk_alloc ?_ _)); exact BK157.out) hg (Kd.R_ne HO_11.out BK157.out (by decide))); have n3_ := Aside0.mk (blk_grown (g := gb169) (o := .cells #[.int .i64 t164, .int .i64 t165, .slice Ao26 t166.length co26] 63 (0, 0)) (by (with_reducible repeat (first | refine blk_drewN ?_ _ | refine blk_drew ?_ | refine blk_alloc ?_ _)); exact BK169.out) hg (Kd.R_ne HO_11.out BK169.out (by decide))); have n4_ := Aside0.mk (hb); have n5_ := Aside0.mk ((show Kd.C (Kd.int .i64) w41 A38 y170.length y170 from by rw [Ny170.out, KA38.out]; exact Kd.C_mid (lo := ((ji29) : Int).toNat) (hi := ((wrap64 ((wrap64 (x55_2 + 1)) * a0_0)) : Int).toNat) (c := co26) ((Kd.R_reads' (Kd.R_over' (by (with_reducible repeat (first | apply Kd.R_alloc | apply Kd.R_drewN | apply Kd.R_drew)); exact HO_170002.out) (Kd.R_typed (by (with_reducible repeat (first | apply Kd.R_alloc | apply Kd.R_drewN | apply Kd.R_drew)); exact HO_11.out)) (by decide) hg)).2.2) KM38.out KL38.out ((Kd.R_reads' (Kd.R_over' (by (with_reducible repeat (first | apply Kd.R_alloc | apply Kd.R_drewN | apply Kd.R_drew)); exact HO_170002.out) (Kd.R_typed (by (with_reducible repeat (first | apply Kd.R_alloc | apply Kd.R_drewN | apply Kd.R_drew)); exact HO_11.out)) (by decide) hg)).2.1))); have n6_ := Aside0.mk (ho); clear HO_8; clear HO_170002; clear BK157; clear BK169; clear HB; clear HR173; clear HO_11; have HO_8 := n0_; have HO_170002 := n1_; have BK157 := n2_; have BK169 := n3_; have HB := n4_; have HR173 := n5_; have HO177 := n6_; clear n0_ n1_ n2_ n3_ n4_ n5_ n6_; clear ho hb hg hat))
                          go_roundg k2
                          case measure => have := HK1.out; have := HK2.out; omega
                          case rel => exact ⟨(y175), (wrap64 (x55_2 + 1)), (by first | rfl | (simp; done) | (simp [*]; done)), H', ⟨by have := HK1.out; have := HK2.out; omega⟩, ⟨by (with_reducible repeat (first | apply Kd.R_alloc | apply Kd.R_drewN | apply Kd.R_drew)); exact HO_8.out⟩, ⟨by (with_reducible repeat (first | apply Kd.R_alloc | apply Kd.R_drewN | apply Kd.R_drew)); exact HO177.out⟩, ⟨by (with_reducible repeat (first | apply Kd.R_alloc | apply Kd.R_drewN | apply Kd.R_drew)); exact HO_170002.out⟩, ⟨by (with_reducible repeat (first | refine blk_drewN ?_ _ | refine blk_drew ?_ | refine blk_alloc ?_ _)); exact BK157.out⟩, ⟨by (with_reducible repeat (first | refine blk_drewN ?_ _ | refine blk_drew ?_ | refine blk_alloc ?_ _)); exact BK169.out⟩, ⟨by repeat (first | (with_reducible first | exact HB.out | apply below_alloc | apply pw_below_drewN | apply below_drew1 | refine below_set ?_ GE157.out | refine below_set ?_ GE169.out) | exact HB.out)⟩⟩
                        · rw [if_neg c34] at H
                          exact absurd H (by simp)
                      · rw [if_neg c32] at H
                        exact absurd H (by simp)
                    · rw [if_neg c31] at H
                      exact absurd H (by simp)
                  · rw [if_neg c30] at H
                    exact absurd H (by simp)
                · rw [if_neg c28] at H
                  have c28b0 : decide (x55_2 < a0_1) = false := decide_eq_false c28
                  clear c28
                  simp only [Option.some.injEq, Prod.mk.injEq] at H
                  obtain ⟨rfl, rfl⟩ := H
                  go_wp2
                  go_ret2
                  exact ⟨_, by first | rfl | (simp [errW_none, errW_some] <;> rfl) | (simp [*, errW_none, errW_some] <;> rfl), by (with_reducible repeat (first | apply Kd.R_alloc | apply Kd.R_drewN | apply Kd.R_drew)); exact HO_11.out, by repeat (first | (with_reducible first | exact HB.out | apply below_alloc | apply pw_below_drewN | apply below_drew1 | refine below_set ?_ GE157.out | refine below_set ?_ GE169.out) | exact HB.out)⟩
    · rw [if_neg c6] at H
      exact absurd H (by simp)
  · rw [if_neg c4] at H
    have c4b0 : (t159 == 0) = false := beq_eq_false_iff_ne.mpr c4
    have c4b1 : (t159 != 0) = true := bne_iff_ne.mpr c4
    simp only [Option.some.injEq, Prod.mk.injEq] at H
    obtain ⟨rfl, rfl⟩ := H
    go_enter Try.func14, Try.ntmps14
    go_wp2_with (first | ((with_reducible refine gate_dst (N := 2) rfl ?_); refine box_event ?hg (N := 2) ?hd (cs := #[.int .i64 a0_0, .int .i64 a0_1]) (t := 28) ?hr ?_; (case hd => rfl); (case hg => rfl); (case hr => first | (go_simp; done) | (go_simp; rfl)); intro gb157 hg w42 hbox hb; have n0_ := Aside0.mk (below_step (by repeat (first | (with_reducible first | exact HB.out | apply below_alloc | apply pw_below_drewN | apply below_drew1) | exact HB.out)) hb); have n1_ := Aside0.mk (hbox); have n2_ := Aside0.mk ((by rw [hg]; exact (below_size (by repeat (first | (with_reducible first | exact HB.out | apply below_alloc | apply pw_below_drewN | apply below_drew1) | exact HB.out))) : w.heap.size ≤ gb157)); have n3_ := Aside0.mk ((by rw [hg]; exact (below_size (by repeat (first | (with_reducible first | exact HB.out | apply below_alloc | apply pw_below_drewN | apply below_drew1) | exact HB.out))) : w.heap.size ≤ gb157)); clear HB; have HB := n0_; have BK157 := n1_; have GW157 := n2_; have GE157 := n3_; clear n0_ n1_ n2_ n3_; clear hb hbox hg; have hcz43_0 : w42.cell? ⟨gb157, 0, none⟩ = some (.int .i64 a0_0) := (blk_cell BK157.out 0).trans rfl; have hcz43_1 : w42.cell? ⟨gb157, 1, none⟩ = some (.int .i64 a0_1) := (blk_cell BK157.out 1).trans rfl; have hfz43_0 := blk_frozen BK157.out 0; have hfz43_1 := blk_frozen BK157.out 1) | ((with_reducible refine gate_callee (f := 15) rfl ?_); refine goesL_ (some 17) rfl rfl Try.func15 (by kernel_rfl) rfl #[.agg #[.int .i64 a0_0, .int .i64 a0_1], .int .i64 (a1.size : Int)] rfl (by (try simp only [List.map_toArray, List.map_cons, List.map_nil]); first | done | rfl | (simp only [List.length_drop, List.length_take]; rfl)) ?_; (with_reducible refine (erasure_Length.calls a0_0 a0_1 (a1.size : Int) t158 t159 _ A3.out).mono ?_); rintro e w44 ⟨rfl, hb⟩; refine ⟨_, rfl, ?_⟩; have n0_ := Aside0.mk (blk_below (g := gb157) (o := .cells #[.int .i64 a0_0, .int .i64 a0_1] 28 (0, 0)) (by (with_reducible repeat (first | refine blk_drewN ?_ _ | refine blk_drew ?_ | refine blk_alloc ?_ _)); exact BK157.out) hb); have n1_ := Aside0.mk (below_step (by repeat (first | (with_reducible first | exact HB.out | apply below_alloc | apply pw_below_drewN | apply below_drew1 | refine below_set ?_ GE157.out) | exact HB.out)) hb); clear BK157; clear HB; have BK157 := n0_; have HB := n1_; clear n0_ n1_; (try clear hb); (try clear hb2); (try clear hk); (try clear hi)))
    go_ret2
    exact ⟨_, by first | rfl | (simp [errW_none, errW_some] <;> rfl) | (simp [*, errW_none, errW_some] <;> rfl), by first | exact Kd.R_nil _ _ _ _ _ | exact Kd.N_nil _ _ _ _ _ | exact Kd.V_nil _ _ _ _ _ | exact Kd.Q_nil _ _ _ _ _ | exact Kd.S_nil _ _ _ _ _, by repeat (first | (with_reducible first | exact HB.out | apply below_alloc | apply pw_below_drewN | apply below_drew1 | refine below_set ?_ GE157.out) | exact HB.out)⟩

end Go.Proofs.Ytgmadofbelhmeaa.L
end
section
/- erasure.look: the first error of shards. -/
namespace Go.Proofs.Ytgmadofbelhmeaa.L
open Go.RowKit Go.Proofs.YtgmadofbelhmeaaW.PrintWords Go.Proofs.YtgmadofbelhmeaaW.PrintLast Go.Proofs.YtgmadofbelhmeaaW.PrintMore
set_option linter.unusedVariables false
set_option linter.unusedSimpArgs false

/-- The first error of shards, one after the other; seen: the indices that were there. -/
def lookAt (all len : Int) : List S37 → (Nat → Bool) → Int
  | [], _ => 0
  | s :: l, seen => if s.f0 < 0 then 1 else if s.f0 ≥ all then 1 else if (s.f1.size : Int) ≠ len then 2 else if seen s.f0.toNat = true then 7 else lookAt all len l (fun i => if i = s.f0.toNat then true else seen i)
def erasure_look.f (a0_0 a0_1 a1 : Int) (l2 : List S37) : Option (Int × Int) :=
  (erasure_Length.f a0_0 a0_1 a1).bind fun t => if t.2 = 0 then (if lookAt a0_1 t.1 l2 (fun _ => false) = 0 then (if (l2.length : Int) < a0_0 then some (0, 14) else some (t.1, 0)) else some (0, lookAt a0_1 t.1 l2 (fun _ => false))) else some (0, t.2)

/-- The array's cells. -/
def arrB (seen : Nat → Bool) : Array Value := (List.ofFn (n := 16) fun i => Value.bool (seen i.1)).toArray
theorem arrB_size (seen : Nat → Bool) : (arrB seen).size = 16 := by simp [arrB]
theorem arrB_at (seen : Nat → Bool) (i : Nat) (h : i < 16) : (arrB seen)[i]? = some (.bool (seen i)) := by
  unfold arrB
  rw [List.getElem?_toArray, List.getElem?_ofFn, dif_pos h]
theorem arrB_set (seen : Nat → Bool) (i : Nat) : (arrB seen).setIfInBounds i (.bool true) = arrB (fun q => if q = i then true else seen q) := by
  apply Array.ext_getElem?
  intro j
  rw [Array.getElem?_setIfInBounds]
  by_cases hj : j < 16
  · rw [arrB_at _ _ hj, arrB_at _ _ hj, arrB_size]
    by_cases e : i = j
    · subst e
      simp [hj]
    · rw [if_neg e, if_neg (fun h => e h.symm)]
  · rw [Array.getElem?_eq_none (by rw [arrB_size]; omega), Array.getElem?_eq_none (by rw [arrB_size]; omega)]
    split
    · rw [if_neg (by rw [arrB_size]; omega)]
    · rfl
theorem arrB_none : #[Value.bool false, Value.bool false, Value.bool false, Value.bool false, Value.bool false, Value.bool false, Value.bool false, Value.bool false, Value.bool false, Value.bool false, Value.bool false, Value.bool false, Value.bool false, Value.bool false, Value.bool false, Value.bool false] = arrB (fun _ => false) := by rfl
theorem length_all {a0 a1 s r : Int} (h : erasure_Length.f a0 a1 s = some (r, 0)) : 1 ≤ a0 ∧ a0 ≤ a1 ∧ a1 ≤ 16 ∧ 0 ≤ s := by
  unfold erasure_Length.f erasure_Check.f at h
  split at h
  · simp at h
  · split at h
    · simp at h
    · split at h
      · simp at h
      · simp only [Option.bind_some, if_true] at h
        split at h
        · simp at h
        · exact ⟨by omega, by omega, by omega, by omega⟩

theorem look_end {v a b r1 r2 : Int} {n : Nat} (H : (if v = 0 then (if (n : Int) < a then some (0, 14) else some (b, 0)) else some (0, v)) = some (r1, r2)) (u : Int) (hv : v = u) (hu : u ≠ 0) : r1 = 0 ∧ r2 = u := by
  subst hv
  rw [if_neg hu] at H
  simp only [Option.some.injEq, Prod.mk.injEq] at H
  exact ⟨H.1.symm, H.2.symm⟩
theorem look_step {all len : Int} {l : List S37} {x : Int} (h0 : 0 ≤ x) (h : x < l.length) (seen : Nat → Bool) : lookAt all len (l.drop x.toNat) seen = if (rd_T37 l x).f0 < 0 then 1 else if (rd_T37 l x).f0 ≥ all then 1 else if ((rd_T37 l x).f1.size : Int) ≠ len then 2 else if seen (rd_T37 l x).f0.toNat = true then 7 else lookAt all len (l.drop (x + 1).toNat) (fun i => if i = (rd_T37 l x).f0.toNat then true else seen i) := by
  have hl : x.toNat < l.length := by omega
  have e : rd_T37 l x = l[x.toNat] := by
    unfold rd_T37
    rw [List.getD_eq_getElem?_getD, List.getElem?_eq_getElem hl]
    rfl
  rw [List.drop_eq_getElem_cons hl, e, show (x + 1).toNat = x.toNat + 1 by omega]
  rfl
set_option maxHeartbeats 1000000 in
set_option maxRecDepth 100000 in
theorem erasure_look.calls (a0_0 a0_1 a1 : Int) (A2 : Option Addr) (c2 : Nat) (l2 : List S37) (r1 r2 : Int) (w : World) (hr2 : Kd.C k37 w A2 l2.length l2) (hc2 : l2.length ≤ c2) (h : erasure_look.f a0_0 a0_1 a1 l2 = some (r1, r2)) :
    Calls Try.prog 34 #[.agg #[.int .i64 a0_0, .int .i64 a0_1], .int .i64 a1, .slice A2 l2.length c2] w fun e w' => e = .returned (.tuple #[.int .i64 r1, .int .i64 r2]) ∧ Below w.heap.size w w' := by
  have HR2 := Aside0.mk hr2
  have HC2 := Aside0.mk hc2
  have HB := Aside0.mk (Below.refl w.heap.size w)
  have hlen := hr2.2.1
  clear hr2 hc2
  unfold erasure_look.f at h
  replace h := Option.bind_eq_some_iff.mp h
  obtain ⟨⟨t1, t2⟩, hL, h⟩ := h
  have HL := Aside0.mk hL
  have H := Aside0.mk h
  clear hL h
  have hu28 := Try.underlying28
  have hu37 := Try.underlying37
  go_enter Try.func34, Try.ntmps34
  go_wp2_with fail
  refine (erasure_Length.calls _ _ _ t1 t2 _ HL.out).mono ?_
  rintro e w1 ⟨rfl, hb1⟩
  by_cases ht : t2 = 0
  · subst ht
    rw [if_pos rfl] at H
    obtain ⟨g1, g2, g3, g4⟩ := length_all HL.out
    go_wp2_with fail
    rw [arrB_none]
    have HB1 := Aside0.mk hb1
    have HBW := Aside0.mk (Below.refl w1.heap.size w1)
    clear hb1
    go_loopw [24] (fun v wr => ∃ (x : Int) (seen : Nat → Bool), v = .int .i64 x ∧ 0 ≤ x ∧ x ≤ l2.length ∧ Aside0 (wr.heap[w1.heap.size]? = some (.cells (arrB seen) 92 (0, 0))) ∧ Aside0 (Below w1.heap.size w1 wr) ∧ Aside0 (lookAt a0_1 t1 (l2.drop x.toNat) seen = lookAt a0_1 t1 l2 (fun _ => false))) (fun v _ => l2.length - (intOf v).toNat)
    case atStart => exact ⟨0, fun _ => false, rfl, by omega, by omega, ⟨heap_alloc_new _ _⟩, ⟨below_alloc HBW.out _⟩, ⟨rfl⟩⟩
    case round =>
      obtain ⟨x, seen, rfl, hx0, hx1, HA, HBR, HS⟩ := hrel
      have HBW1 : Below w.heap.size w w1 := (below_alloc (Below.refl w.heap.size w) _).trans (HB1.out.mono (by simp))
      by_cases hlt : x < (l2.length : Int)
      · obtain ⟨ad, e, hc0, hc1⟩ := at_T37 HR2.out x hx0 hlt
        cases e
        have st := look_step (all := a0_1) (len := t1) hx0 hlt seen
        replace hc0 := pw_cell_below (HBW1.trans (HBR.out.mono HBW1.size)) hc0
        replace hc1 := pw_cell_below (HBW1.trans (HBR.out.mono HBW1.size)) hc1
        have hk1 : ∀ o, (wr.alloc o).cell? ⟨w.heap.size, 1, none⟩ = some (.int .i64 a0_1) := by
          intro o
          have e0 : (w.alloc (.cells #[.int .i64 a0_0, .int .i64 a0_1] 28)).cell? ⟨w.heap.size, 1, none⟩ = some (.int .i64 a0_1) := (blk_cell (heap_alloc_new w _) 1).trans rfl
          have e1 := pw_cell_below HB1.out e0
          exact pw_cell_below (below_alloc (Below.refl _ _) o) (pw_cell_below HBR.out e1)
        generalize (rd_T37 l2 x).f0 = i at hc0 st
        generalize (rd_T37 l2 x).f1 = d at hc1 st
        rw [st] at HS
        clear st
        have Hend := look_end H.out
        have HBB := HBW1.trans (HBR.out.mono HBW1.size)
        by_cases k0 : i < 0
        · rw [if_pos k0] at HS
          obtain ⟨rfl, rfl⟩ := Hend 1 HS.out.symm (by decide)
          clear Hend HS H HL
          have k0b : decide (i < 0) = true := decide_eq_true k0
          go_wp2
          go_ret2
          exact ⟨rfl, by repeat (first | exact HBB | apply below_alloc | apply pw_below_drewN | apply below_drew1)⟩
        · rw [if_neg k0] at HS
          have k0b : decide (i < 0) = false := decide_eq_false k0
          by_cases k1 : i ≥ a0_1
          · rw [if_pos k1] at HS
            obtain ⟨rfl, rfl⟩ := Hend 1 HS.out.symm (by decide)
            clear Hend HS H HL
            have k1b : decide (a0_1 ≤ i) = true := decide_eq_true k1
            go_wp2
            go_ret2
            exact ⟨rfl, by repeat (first | exact HBB | apply below_alloc | apply pw_below_drewN | apply below_drew1)⟩
          · rw [if_neg k1] at HS
            have k1b : decide (a0_1 ≤ i) = false := decide_eq_false k1
            by_cases k2 : (d.size : Int) ≠ t1
            · rw [if_pos k2] at HS
              obtain ⟨rfl, rfl⟩ := Hend 2 HS.out.symm (by decide)
              clear Hend HS H HL
              have k2b : ((d.size : Int) != t1) = true := bne_iff_ne.mpr k2
              clear k2
              go_wp2
              go_ret2
              exact ⟨rfl, by repeat (first | exact HBB | apply below_alloc | apply pw_below_drewN | apply below_drew1)⟩
            · rw [if_neg k2] at HS
              have k2b : ((d.size : Int) != t1) = false := by simpa using k2
              clear k2
              have hi : i.toNat < 16 := by omega
              have hcA : ∀ o, (wr.alloc o).cell? ⟨w1.heap.size, i.toNat, none⟩ = some (.bool (seen i.toNat)) := fun o => pw_cell_below (below_alloc (Below.refl _ _) o) ((blk_cell HA.out i.toNat).trans (arrB_at seen _ hi))
              cases k3 : seen i.toNat with
              | true =>
                rw [if_pos k3] at HS
                rw [k3] at hcA
                obtain ⟨rfl, rfl⟩ := Hend 7 HS.out.symm (by decide)
                clear Hend HS H HL k3
                go_wp2
                go_ret2
                exact ⟨rfl, by repeat (first | exact HBB | apply below_alloc | apply pw_below_drewN | apply below_drew1)⟩
              | false =>
                rw [if_neg (by rw [k3]; decide)] at HS
                rw [k3] at hcA
                have hfA : ∀ o, (wr.alloc o).frozen? ⟨w1.heap.size, i.toNat, none⟩ = false := fun o => blk_frozen (blk_alloc HA.out o) _
                clear Hend k3
                go_wp2
                refine ⟨⟨x + 1, fun q => if q = i.toNat then true else seen q, rfl, by omega, by omega, ⟨?_⟩, ⟨?_⟩, HS⟩, by simp [intOf]; omega⟩
                · exact blk_put (blk_alloc HA.out _) _ _ (arrB_set seen _)
                · exact below_set (below_alloc HBR.out _) (Nat.le_refl _)
      · have hx : l2.drop x.toNat = [] := List.drop_eq_nil_of_le (by omega)
        rw [hx] at HS
        have hz : lookAt a0_1 t1 l2 (fun _ => false) = 0 := HS.out.symm
        have H2 := H.out
        rw [if_pos hz] at H2
        clear H HS hx hz HL
        have hk0 : wr.cell? ⟨w.heap.size, 0, none⟩ = some (.int .i64 a0_0) := by
          have e0 : (w.alloc (.cells #[.int .i64 a0_0, .int .i64 a0_1] 28)).cell? ⟨w.heap.size, 0, none⟩ = some (.int .i64 a0_0) := (blk_cell (heap_alloc_new w _) 0).trans rfl
          exact pw_cell_below HBR.out (pw_cell_below HB1.out e0)
        have HBB := HBW1.trans (HBR.out.mono HBW1.size)
        by_cases k5 : (l2.length : Int) < a0_0
        · rw [if_pos k5] at H2
          obtain ⟨rfl, rfl⟩ : r1 = 0 ∧ r2 = 14 := by
            simp only [Option.some.injEq, Prod.mk.injEq] at H2
            exact ⟨H2.1.symm, H2.2.symm⟩
          clear H2
          have k5b : decide ((l2.length : Int) < a0_0) = true := decide_eq_true k5
          go_wp2
          go_ret2
          exact ⟨rfl, by repeat (first | exact HBB | apply below_alloc | apply pw_below_drewN | apply below_drew1)⟩
        · rw [if_neg k5] at H2
          obtain ⟨rfl, rfl⟩ : r1 = t1 ∧ r2 = 0 := by
            simp only [Option.some.injEq, Prod.mk.injEq] at H2
            exact ⟨H2.1.symm, H2.2.symm⟩
          clear H2
          have k5b : decide ((l2.length : Int) < a0_0) = false := decide_eq_false k5
          go_wp2
          go_ret2
          exact ⟨rfl, by repeat (first | exact HBB | apply below_alloc | apply pw_below_drewN | apply below_drew1)⟩
  · have H2 := H.out
    rw [if_neg ht] at H2
    obtain ⟨rfl, rfl⟩ : r1 = 0 ∧ r2 = t2 := by
      simp only [Option.some.injEq, Prod.mk.injEq] at H2
      exact ⟨H2.1.symm, H2.2.symm⟩
    clear H2 H HL
    have htb : (r2 != 0) = true := bne_iff_ne.mpr ht
    have HBB : Below w.heap.size w w1 := (below_alloc (Below.refl w.heap.size w) _).trans (hb1.mono (by simp))
    clear ht
    go_wp2
    go_ret2
    exact ⟨rfl, by repeat (first | exact HBB | apply below_alloc | apply pw_below_drewN | apply below_drew1)⟩
end Go.Proofs.Ytgmadofbelhmeaa.L
end
section
/- slices.SortFunc at shards by their indices, which are elements and differ. -/
namespace Go.Proofs.Ytgmadofbelhmeaa.L
open Go.Shelf Go.RowKit Go.Lib Go.Sort
open Go.Proofs.YtgmadofbelhmeaaW.PrintWords Go.Proofs.YtgmadofbelhmeaaW.PrintLast Go.Proofs.YtgmadofbelhmeaaW.PrintMore
set_option linter.unusedVariables false
set_option linter.unusedSimpArgs false

def sortS (l : List S37) : List S37 := l.mergeSort fun a b => decide (a.f0 ≤ b.f0)
def Idx (l : List S37) : Prop := (∀ s, s ∈ l → 0 ≤ s.f0 ∧ s.f0 ≤ 15) ∧ l.Pairwise fun a b => a.f0 ≠ b.f0
def encS (l : List S37) (x : { s : S37 // s ∈ l }) : List Value := [.int .i64 x.1.f0, .string x.1.f1]
def cfS (l : List S37) (x y : { s : S37 // s ∈ l }) : Int := x.1.f0 - y.1.f0
theorem ltS (l : List S37) (x y : { s : S37 // s ∈ l }) : ltOf (cfS l) x y = decide (x.1.f0 < y.1.f0) := by
  unfold ltOf cfS
  rw [Bool.eq_iff_iff, decide_eq_true_iff, decide_eq_true_iff]
  omega
theorem swoS (l : List S37) : SWO (ltOf (cfS l)) where
  irrefl x := by rw [ltS]; simp
  trans x y z h1 h2 := by rw [ltS] at *; simp at *; omega
  ntrans x y z h1 h2 := by rw [ltS] at *; simp at *; omega

set_option maxHeartbeats 1000000 in
theorem closure37 (x0 y0 : Int) (x1 y1 : ByteArray) (hx : 0 ≤ x0 ∧ x0 ≤ 15) (hy : 0 ≤ y0 ∧ y0 ≤ 15) (W : World) : Calls Try.prog 37 #[.agg #[.int .i64 x0, .string x1], .agg #[.int .i64 y0, .string y1]] W fun e w' => e = .returned (.int .i64 (x0 - y0)) ∧ ∃ q os', w' = grow (W.drewN q) os' := by
  obtain ⟨a1, a2⟩ := hx
  obtain ⟨b1, b2⟩ := hy
  have hu37 := Try.underlying37
  go_enter Try.func37, Try.ntmps37
  go_wp2_with fail
  go_ret
  exact ⟨rfl, 0, _, by rw [alloc_eq_grow, alloc_eq_grow, grow_grow]; rfl⟩
theorem sortS_perm (l : List S37) : (sortS l).Perm l := List.mergeSort_perm _ _
theorem sortS_length (l : List S37) : (sortS l).length = l.length := (sortS_perm l).length_eq
theorem sortS_map (l : List S37) : ((l.attach.toArray.toList.mergeSort fun x y => !(ltOf (cfS l)) y x).map (·.1)) = sortS l := by
  rw [List.map_mergeSort (s := fun a b : S37 => decide (a.f0 ≤ b.f0)) (fun a _ b _ => ?_)]
  · simp [sortS]
  · rw [ltS, Bool.eq_iff_iff, Bool.not_eq_true', decide_eq_false_iff_not, decide_eq_true_iff]
    omega

set_option maxHeartbeats 1000000 in
theorem sort_calls (l : List S37) (hne : l ≠ []) (hI : Idx l) (hlen : l.length ≤ 1000) (base g cap : Nat) (ok : Nat → Prop) (w : World) (hR : Kd.R k37 37 w base ok (.slice (some ⟨g, 0, none⟩) l.length cap) l) :
    Calls Try.prog 36 #[.slice (some ⟨g, 0, none⟩) l.length cap, .func (.func 37) #[] #[]] w fun e w' => e = .returned (.tuple #[]) ∧ Kd.C k37 w' (some ⟨g, 0, none⟩) l.length (sortS l) ∧ Below base w w' ∧ w.heap.size ≤ w'.heap.size ∧ ∀ i, i < w.heap.size → i ≠ g → w'.heap[i]? = w.heap[i]? := by
  have hpos : 0 < l.length := List.length_pos_iff.mpr hne
  haveI : Inhabited { s : S37 // s ∈ l } := ⟨⟨l.head hne, List.head_mem hne⟩⟩
  obtain ⟨g', cap', hv, hgb, hgl, cells, hcells⟩ := Kd.R_form hR hpos
  have hgg : g' = g := by
    injection hv with h1 _ _
    injection h1 with h1
    injection h1 with h1 _ _
    exact h1.symm
  subst hgg
  have hC := (Kd.R_reads' hR).2.2
  have hsz : l.attach.toArray.size = l.length := by simp
  have hat : ∀ i, i < l.length → (l.attach.toArray)[i]!.1 = rd_T37 l (i : Int) := by
    intro i hi
    rw [getElem!_pos _ _ (by simpa using hi)]
    unfold rd_T37
    rw [List.getD_eq_getElem?_getD]
    simp [List.getElem?_eq_getElem hi]
  have hH : HoldsK (encS l) 2 w g' 0 l.attach.toArray := by
    intro j hj
    rw [size_flatK, hsz] at hj
    rw [get_flatK _ _ _ _ (by rw [hsz]; exact hj)]
    have hi : j / 2 < l.length := by omega
    obtain ⟨ad, e, c0, c1⟩ := at_T37 hC ((j / 2 : Nat) : Int) (by omega) (by omega)
    cases e
    rw [Int.toNat_natCast, add_plain] at c0 c1
    rw [← hat _ hi] at c0 c1
    refine ⟨?_, blk_frozen hcells _⟩
    rcases Nat.mod_two_eq_zero_or_one j with h2 | h2
    · rw [h2, show 0 + j = j / 2 * 2 by omega]
      exact c0
    · rw [h2, show 0 + j = j / 2 * 2 + 1 by omega]
      exact c1
  have eg : ∀ args w, (callFunc 37 args).run Try.prog w = .ok (.enter 37 args) w := enters_of Try.func37 (by kernel_rfl) rfl
  have hcmp : CmpLays Try.prog 37 #[] (encS l) 2 (cfS l) g' 0 l.attach.toArray.size w := fun _ _ _ _ x y => closure37 x.1.f0 y.1.f0 x.1.f1 y.1.f1 (hI.1 _ x.2) (hI.1 _ y.2) _
  have hT : ∀ x y, (ltOf (cfS l)) x y = false → (ltOf (cfS l)) y x = false → x = y := by
    intro x y h1 h2
    rw [ltS, decide_eq_false_iff_not] at h1 h2
    have he : x.1.f0 = y.1.f0 := by omega
    apply Subtype.ext
    obtain ⟨i, hi, ei⟩ := List.getElem_of_mem x.2
    obtain ⟨j, hj, ej⟩ := List.getElem_of_mem y.2
    rw [← ei, ← ej] at he ⊢
    have hp := List.pairwise_iff_getElem.1 hI.2
    rcases Nat.lt_trichotomy i j with h | h | h
    · exact absurd he (hp i j hi hj h)
    · subst h
      rfl
    · exact absurd he.symm (hp j i hj hi h)
  have hcon := AnyQ.slices_SortFunc_total Try.sortShard 2 Try.isAgg37 Try.sizeOf37 (encS l) (fun _ => rfl) (fun x v hv => by simp [encS] at hv; rcases hv with rfl | rfl <;> rfl) (cfS l) (swoS l) 37 #[] g' 0 cap l.attach.toArray w eg hcmp hH hgl (by rw [hsz]; omega) hT
  change Calls Try.prog 36 _ _ _ at hcon
  rw [hsz] at hcon
  refine hcon.mono ?_
  rintro e w' ⟨rfl, n, os, rfl⟩
  have hms : (l.attach.toArray.toList.mergeSort fun x y => !(ltOf (cfS l)) y x).toArray.size = l.attach.toArray.size := by simp
  have hH2 := holdsK_sortWorldK (encS l) 2 w g' 0 n _ _ os hgl hH hms
  have hsize : w.heap.size ≤ (sortWorldK (encS l) 2 w g' 0 n (l.attach.toArray.toList.mergeSort fun x y => !(ltOf (cfS l)) y x).toArray os).heap.size := by
    unfold sortWorldK grow putRowK
    simp [Sort.ahead]
  have hother : ∀ i, i < w.heap.size → i ≠ g' → (sortWorldK (encS l) 2 w g' 0 n (l.attach.toArray.toList.mergeSort fun x y => !(ltOf (cfS l)) y x).toArray os).heap[i]? = w.heap[i]? := by
    intro i hi hne2
    unfold sortWorldK
    rw [heap_grow_old _ _ (by unfold putRowK; simp [Sort.ahead]; exact hi)]
    unfold putRowK putRow mapBlock
    show (w.heap.modify g' _)[i]? = _
    rw [Array.getElem?_modify, if_neg (fun e => hne2 e.symm)]
  refine ⟨rfl, ⟨sortS_length l, by omega, fun _ => ⟨_, rfl, fun j p hj => ⟨[.int .i64 p.f0, .string p.f1], rfl, k37_mk _ p, fun i u hu => ?_⟩⟩⟩, ?_, ?_, ?_⟩
  · have hjl : j < l.length := by have := (List.getElem?_eq_some_iff.1 hj).1; rw [sortS_length] at this; exact this
    have hp : ((l.attach.toArray.toList.mergeSort fun x y => !(ltOf (cfS l)) y x).toArray)[j]!.1 = p := by
      have h3 : ((l.attach.toArray.toList.mergeSort fun x y => !(ltOf (cfS l)) y x).map (·.1))[j]? = some p := by rw [sortS_map]; exact hj
      rw [getElem!_pos _ _ (by simpa using hjl)]
      rw [List.getElem?_map] at h3
      rw [List.getElem?_eq_getElem (by simpa using hjl)] at h3
      injection h3 with h3
    rw [add_plain]
    have hi2 : i < 2 := by
      rcases Nat.lt_or_ge i 2 with h | h
      · exact h
      · rw [List.getElem?_eq_none (by simpa using h)] at hu
        cases hu
    have hc := (hH2.cell (i := j) (c := i) (by rw [hms, hsz]; exact hjl) hi2).1
    rw [Nat.zero_add] at hc
    refine Eq.trans hc (congrArg some ?_)
    unfold encS
    rw [hp]
    rcases (show i = 0 ∨ i = 1 by omega) with rfl | rfl
    · injection hu with hu
    · injection hu with hu
  · refine ⟨rfl, rfl, rfl, ?_, fun i hi => hother i (by omega) (by omega)⟩
    omega
  · exact hsize
  · exact hother
end Go.Proofs.Ytgmadofbelhmeaa.L
end
section
-- Printed for this claim by a small program of the session's own, drv.py, round the kit's print.py. Lean checks it.
namespace Go.Proofs.Ytgmadofbelhmeaa.L
open Go.RowKit Go.Proofs.YtgmadofbelhmeaaW.PrintWords Go.Proofs.YtgmadofbelhmeaaW.PrintLast Go.Proofs.YtgmadofbelhmeaaW.PrintMore
attribute [local go_sem] max2_int min2_int max_two min_two max_three min_three max_four min_four   -- for this text's walks alone
set_option linter.unusedVariables false
set_option linter.unusedSimpArgs false

/-! ### matrix_mul: function 83 -/
def matrix_mul.f (k : Nat) (a0 : Int) (a1 : Int) : Option (Int) := (field_Mul.f k a0 a1).bind fun bt197 => (some bt197.1)
theorem matrix_mul.mono : ∀ a0 a1 k, LeO (matrix_mul.f k a0 a1) (matrix_mul.f (k + 1) a0 a1) := by
  intro a0 a1 k
  unfold matrix_mul.f
  repeat' first
      | (with_reducible exact field_Mul.mono _ _ _)
      | (with_reducible exact LeO.refl _)
      | (with_reducible exact LeO.none _)
      | (with_reducible refine LeO.ite ?_ ?_)
      | (with_reducible refine LeO.bind ?_ (fun _ => ?_))
      | exact field_Mul.mono _ _ _
      | exact LeO.none _
      | refine LeO.ite ?_ ?_
      | refine LeO.bind ?_ (fun _ => ?_)
set_option maxHeartbeats 8000000 in
set_option maxRecDepth 100000 in
theorem matrix_mul.calls (k : Nat) (a0 : Int) (a1 : Int) (r : Int) (w : World) (h : matrix_mul.f k a0 a1 = some r) :
    Calls Try.prog 83 #[.int .i64 a0, .int .i64 a1] w fun e w' => e = .returned (.int .i64 r) ∧ Drawn0 w w' := by
  have H : ((field_Mul.f k a0 a1).bind fun bt197 => (some bt197.1)) = some r := h
  clear h
  replace H := Option.bind_eq_some_iff.mp H
  obtain ⟨⟨t197, t198⟩, A30, H⟩ := H
  replace H : (some t197) = some r := H
  have A3 := Aside0.mk A30
  clear A30
  obtain rfl := Option.some.inj H
  go_enter Try.func83, Try.ntmps83
  go_wp2_with (first | ((with_reducible refine gate_callee (f := 92) rfl ?_); refine goesL_ (some 10) rfl rfl Try.func92 (by kernel_rfl) rfl #[.int .i64 a0, .int .i64 a1] rfl (by (try simp only [List.map_toArray, List.map_cons, List.map_nil]); first | done | rfl | (simp only [List.length_drop, List.length_take]; rfl)) ?_; (with_reducible refine (field_Mul.calls k a0 a1 t197 t198 _ A3.out).mono ?_); rintro e w' ⟨rfl, ⟨nd, rfl⟩⟩; refine ⟨_, rfl, ?_⟩))
  go_ret
  exact ⟨by first | rfl | (simp; done) | (simp [*]; done), by repeat (first | exact Drawn0.refl _ | apply Drawn0.step)⟩

end Go.Proofs.Ytgmadofbelhmeaa.L
end
section
/- Matrices in memory: a row of rows of numbers; and the plain functions by which rows are reduced. -/
namespace Go.Proofs.Ytgmadofbelhmeaa.L
open Go.RowKit Go.Proofs.YtgmadofbelhmeaaW.PrintWords Go.Proofs.YtgmadofbelhmeaaW.PrintLast Go.Proofs.YtgmadofbelhmeaaW.PrintMore
set_option linter.unusedVariables false
set_option linter.unusedSimpArgs false

/-! ### the field's functions as the program has them -/
def gm (a b : Int) : Int := (matrix_mul.f 40 a b).getD 0
def ginv (a : Int) : Int := ((field_Inverse.f 40 a).getD (0, 0)).1
def gierr (a : Int) : Int := ((field_Inverse.f 40 a).getD (0, 0)).2
def gx (a b : Int) : Int := Go.bits .xor .i64 a b
def El (a : Int) : Prop := 0 ≤ a ∧ a ≤ 15
theorem El.fin {a : Int} (h : El a) : ∃ i : Fin 16, a = (i.1 : Int) := ⟨⟨a.toNat, by unfold El at h; omega⟩, by unfold El at h; simp; omega⟩
theorem gm_all : ∀ a b : Fin 16, matrix_mul.f 40 (a.1 : Int) (b.1 : Int) = some (gm a.1 b.1) ∧ 0 ≤ gm a.1 b.1 ∧ gm a.1 b.1 ≤ 15 := by decide +kernel
theorem ginv_all : ∀ a : Fin 16, field_Inverse.f 40 (a.1 : Int) = some (ginv a.1, gierr a.1) ∧ 0 ≤ ginv a.1 ∧ ginv a.1 ≤ 15 := by decide +kernel
theorem gx_all : ∀ a b : Fin 16, 0 ≤ gx a.1 b.1 ∧ gx a.1 b.1 ≤ 15 := by decide +kernel
theorem gm_some {a b : Int} (ha : El a) (hb : El b) : matrix_mul.f 40 a b = some (gm a b) := by
  obtain ⟨i, rfl⟩ := ha.fin
  obtain ⟨j, rfl⟩ := hb.fin
  exact (gm_all i j).1
theorem gm_el {a b : Int} (ha : El a) (hb : El b) : El (gm a b) := by
  obtain ⟨i, rfl⟩ := ha.fin
  obtain ⟨j, rfl⟩ := hb.fin
  exact (gm_all i j).2
theorem ginv_some {a : Int} (ha : El a) : field_Inverse.f 40 a = some (ginv a, gierr a) := by
  obtain ⟨i, rfl⟩ := ha.fin
  exact (ginv_all i).1
theorem ginv_el {a : Int} (ha : El a) : El (ginv a) := by
  obtain ⟨i, rfl⟩ := ha.fin
  exact (ginv_all i).2
theorem gx_el {a b : Int} (ha : El a) (hb : El b) : El (gx a b) := by
  obtain ⟨i, rfl⟩ := ha.fin
  obtain ⟨j, rfl⟩ := hb.fin
  exact gx_all i j

/-! ### rows -/
abbrev row (rows : List (List Int)) (i : Nat) : List Int := rows.getD i []
def Good (m : Nat) (rows : List (List Int)) : Prop := ∀ i, i < rows.length → (row rows i).length = m ∧ ∀ j, j < m → El ((row rows i).getD j 0)
def pivot (rows : List (List Int)) (k i : Nat) : Nat := i + (rows.drop i).findIdx (fun r => r.getD k 0 != 0)
def swapR (rows : List (List Int)) (a b : Nat) : List (List Int) := (rows.set a (row rows b)).set b (row rows a)
def mid (r : List Int) (F : Nat → Int) (j : Nat) : List Int := r.mapIdx fun i x => if i < j then F i else x
def scaleRow (rows : List (List Int)) (r k : Nat) : List (List Int) := rows.set r (mid (row rows r) (fun j => gm ((row rows r).getD j 0) (ginv ((row rows r).getD k 0))) (row rows r).length)
def elimRow (rows : List (List Int)) (r k i : Nat) (x : List Int) : List Int :=
  if i ≠ r ∧ x.getD k 0 ≠ 0 then mid x (fun j => gx (x.getD j 0) (gm ((row rows r).getD j 0) (x.getD k 0))) x.length else x
def elimTo (rows : List (List Int)) (r k n : Nat) : List (List Int) := rows.mapIdx fun i x => if i < n then elimRow rows r k i x else x
def stepP (k : Nat) (s : List (List Int) × Nat) : List (List Int) × Nat :=
  if pivot s.1 k s.2 = s.1.length then s else
    (elimTo (scaleRow (swapR s.1 s.2 (pivot s.1 k s.2)) s.2 k) s.2 k s.1.length, s.2 + 1)
def reduceTo (rows : List (List Int)) (n : Nat) : List (List Int) × Nat := (List.range n).foldl (fun s k => stepP k s) (rows, 0)
theorem reduceTo_succ (rows : List (List Int)) (n : Nat) : reduceTo rows (n + 1) = stepP n (reduceTo rows n) := by
  unfold reduceTo
  rw [List.range_succ, List.foldl_append]
  rfl

theorem mid_length (r : List Int) (F : Nat → Int) (j : Nat) : (mid r F j).length = r.length := by simp [mid]
theorem mid_getD (r : List Int) (F : Nat → Int) (j i : Nat) (h : i < r.length) : (mid r F j).getD i 0 = if i < j then F i else r.getD i 0 := by
  unfold mid
  rw [List.getD_eq_getElem?_getD, List.getElem?_mapIdx, List.getElem?_eq_getElem h]
  simp only [Option.map_some, Option.getD_some]
  rw [List.getD_eq_getElem?_getD, List.getElem?_eq_getElem h]
  rfl
theorem mapIdx_id {α : Type} (l : List α) : l.mapIdx (fun _ x => x) = l := by
  apply List.ext_getElem?
  intro i
  rw [List.getElem?_mapIdx]
  cases l[i]? <;> rfl
theorem mid_zero (r : List Int) (F : Nat → Int) : mid r F 0 = r := by
  unfold mid
  simp only [Nat.not_lt_zero, if_false]
  exact mapIdx_id r
theorem mid_set (r : List Int) (F : Nat → Int) (j : Nat) : (mid r F j).set j (F j) = mid r F (j + 1) := by
  apply List.ext_getElem?
  intro i
  rw [List.getElem?_set]
  unfold mid
  rw [List.getElem?_mapIdx, List.getElem?_mapIdx, List.length_mapIdx]
  by_cases hi : i < r.length
  · rw [List.getElem?_eq_getElem hi]
    by_cases e : j = i
    · subst e
      simp [hi]
    · rw [if_neg e]
      simp only [Option.map_some]
      congr 1
      by_cases h1 : i < j
      · rw [if_pos h1, if_pos (by omega)]
      · rw [if_neg h1, if_neg (by omega)]
  · rw [List.getElem?_eq_none (by omega)]
    split
    · rename_i e
      rw [if_neg (by omega)]
      rfl
    · rfl
theorem row_set (rows : List (List Int)) (i j : Nat) (x : List Int) (h : i < rows.length) : row (rows.set i x) j = if i = j then x else row rows j := by
  unfold row
  rw [List.getD_eq_getElem?_getD, List.getElem?_set]
  by_cases e : i = j
  · subst e
    simp [h]
  · rw [if_neg e, if_neg e, List.getD_eq_getElem?_getD]
theorem set_row (rows : List (List Int)) (r : Nat) : rows.set r (row rows r) = rows := by
  apply List.ext_getElem?
  intro i
  rw [List.getElem?_set]
  split
  · rename_i e
    subst e
    split
    · rename_i h
      unfold row
      rw [List.getD_eq_getElem?_getD, List.getElem?_eq_getElem h]
      rfl
    · rename_i h
      rw [List.getElem?_eq_none (by omega)]
  · rfl
theorem row_swap (rows : List (List Int)) (a b j : Nat) (ha : a < rows.length) (hb : b < rows.length) : row (swapR rows a b) j = if b = j then row rows a else if a = j then row rows b else row rows j := by
  unfold swapR
  rw [row_set _ _ _ _ (by simpa using hb), row_set _ _ _ _ ha]
theorem swap_length (rows : List (List Int)) (a b : Nat) : (swapR rows a b).length = rows.length := by simp [swapR]
theorem scale_length (rows : List (List Int)) (a b : Nat) : (scaleRow rows a b).length = rows.length := by simp [scaleRow]
theorem elimTo_length (rows : List (List Int)) (a b n : Nat) : (elimTo rows a b n).length = rows.length := by simp [elimTo]
theorem elimTo_row (rows : List (List Int)) (r k n i : Nat) (h : i < rows.length) : row (elimTo rows r k n) i = if i < n then elimRow rows r k i (row rows i) else row rows i := by
  unfold row elimTo
  rw [List.getD_eq_getElem?_getD, List.getElem?_mapIdx, List.getD_eq_getElem?_getD, List.getElem?_eq_getElem h]
  simp
theorem elimTo_zero (rows : List (List Int)) (r k : Nat) : elimTo rows r k 0 = rows := by
  unfold elimTo
  simp only [Nat.not_lt_zero, if_false]
  exact mapIdx_id rows
theorem list_ext_row {l l' : List (List Int)} (hl : l.length = l'.length) (h : ∀ i, i < l.length → row l i = row l' i) : l = l' := by
  apply List.ext_getElem hl
  intro i h1 h2
  have := h i h1
  unfold row at this
  rw [List.getD_eq_getElem?_getD, List.getD_eq_getElem?_getD, List.getElem?_eq_getElem h1, List.getElem?_eq_getElem h2] at this
  simpa using this
theorem elimTo_succ (rows : List (List Int)) (r k n : Nat) (h : n < rows.length) : elimTo rows r k (n + 1) = (elimTo rows r k n).set n (elimRow rows r k n (row rows n)) := by
  apply list_ext_row
  · simp [elimTo_length]
  · intro i hi
    rw [elimTo_length] at hi
    rw [row_set _ _ _ _ (by rw [elimTo_length]; exact h), elimTo_row _ _ _ _ _ hi, elimTo_row _ _ _ _ _ hi]
    by_cases e : n = i
    · subst e
      rw [if_pos (by omega), if_pos rfl]
    · rw [if_neg e]
      by_cases h1 : i < n
      · rw [if_pos (by omega), if_pos h1]
      · rw [if_neg (by omega), if_neg h1]
theorem elimTo_pivot (rows : List (List Int)) (r k n : Nat) (h : r < rows.length) : row (elimTo rows r k n) r = row rows r := by
  rw [elimTo_row _ _ _ _ _ h]
  split
  · unfold elimRow
    rw [if_neg (fun hh => hh.1 rfl)]
  · rfl
theorem Good.getD {m : Nat} {rows : List (List Int)} (h : Good m rows) {i j : Nat} (hi : i < rows.length) (hj : j < m) : El ((row rows i).getD j 0) := (h i hi).2 j hj
theorem Good.set {m : Nat} {rows : List (List Int)} (h : Good m rows) {i : Nat} (hi : i < rows.length) {x : List Int} (hx : x.length = m) (he : ∀ j, j < m → El (x.getD j 0)) : Good m (rows.set i x) := by
  intro q hq
  rw [List.length_set] at hq
  rw [row_set _ _ _ _ hi]
  split
  · exact ⟨hx, he⟩
  · exact h q hq
theorem Good.swap {m : Nat} {rows : List (List Int)} (h : Good m rows) {a b : Nat} (ha : a < rows.length) (hb : b < rows.length) : Good m (swapR rows a b) :=
  (h.set ha (h b hb).1 (h b hb).2).set (by simpa using hb) (h a ha).1 (h a ha).2
theorem Good.mid {m : Nat} {rows : List (List Int)} (h : Good m rows) {i : Nat} (hi : i < rows.length) (F : Nat → Int) (hF : ∀ j, j < m → El (F j)) (n : Nat) : Good m (rows.set i (mid (row rows i) F n)) := by
  refine h.set hi (by rw [mid_length]; exact (h i hi).1) (fun j hj => ?_)
  rw [mid_getD _ _ _ _ (by rw [(h i hi).1]; exact hj)]
  split
  · exact hF j hj
  · exact (h i hi).2 j hj
theorem Good.scale {m : Nat} {rows : List (List Int)} (h : Good m rows) {r k : Nat} (hr : r < rows.length) (hk : k < m) : Good m (scaleRow rows r k) :=
  h.mid hr _ (fun j hj => gm_el (h.getD hr hj) (ginv_el (h.getD hr hk))) _
theorem Good.elim {m : Nat} {rows : List (List Int)} (h : Good m rows) {r k : Nat} (hr : r < rows.length) (hk : k < m) (n : Nat) : Good m (elimTo rows r k n) := by
  intro i hi
  rw [elimTo_length] at hi
  rw [elimTo_row _ _ _ _ _ hi]
  split
  · unfold elimRow
    split
    · refine ⟨by rw [mid_length]; exact (h i hi).1, fun j hj => ?_⟩
      rw [mid_getD _ _ _ _ (by rw [(h i hi).1]; exact hj)]
      split
      · exact gx_el (h.getD hi hj) (gm_el (h.getD hr hj) (h.getD hi hk))
      · exact h.getD hi hj
    · exact h i hi
  · exact h i hi
theorem findIdx_le' {α : Type} (p : α → Bool) (l : List α) : l.findIdx p ≤ l.length := List.findIdx_le_length
theorem pivot_le {rows : List (List Int)} {k i : Nat} (h : i ≤ rows.length) : i ≤ pivot rows k i ∧ pivot rows k i ≤ rows.length := by
  unfold pivot
  have := @List.findIdx_le_length _ (fun r : List Int => r.getD k 0 != 0) (rows.drop i)
  rw [List.length_drop] at this
  omega
theorem pivot_stop {rows : List (List Int)} {k i : Nat} (h : i < rows.length) (hz : ¬ (row rows i).getD k 0 = 0) : pivot rows k i = i := by
  unfold pivot
  rw [List.drop_eq_getElem_cons h, List.findIdx_cons]
  have e : rows[i] = row rows i := by unfold row; rw [List.getD_eq_getElem?_getD, List.getElem?_eq_getElem h]; rfl
  rw [e]
  have : ((row rows i).getD k 0 != 0) = true := bne_iff_ne.mpr hz
  rw [this]
  rfl
theorem pivot_go {rows : List (List Int)} {k i : Nat} (h : i < rows.length) (hz : (row rows i).getD k 0 = 0) : pivot rows k i = pivot rows k (i + 1) := by
  unfold pivot
  rw [List.drop_eq_getElem_cons h, List.findIdx_cons]
  have e : rows[i] = row rows i := by unfold row; rw [List.getD_eq_getElem?_getD, List.getElem?_eq_getElem h]; rfl
  rw [e, hz]
  simp
  omega
theorem pivot_end {rows : List (List Int)} {k i : Nat} (h : i = rows.length) : pivot rows k i = i := by
  unfold pivot
  rw [List.drop_eq_nil_of_le (by omega)]
  rfl
theorem stepP_length (k : Nat) (s : List (List Int) × Nat) : (stepP k s).1.length = s.1.length := by
  unfold stepP
  split
  · rfl
  · simp only [elimTo_length, scale_length, swap_length]
theorem reduceTo_length (rows : List (List Int)) (n : Nat) : (reduceTo rows n).1.length = rows.length := by
  induction n with
  | zero => rfl
  | succ n ih => rw [reduceTo_succ, stepP_length, ih]
theorem stepP_inv {m k : Nat} {s : List (List Int) × Nat} (hk : k < m) (h : Good m s.1) (hr : s.2 ≤ s.1.length) : Good m (stepP k s).1 ∧ (stepP k s).2 ≤ (stepP k s).1.length := by
  have hp := pivot_le (k := k) hr
  rw [stepP_length]
  unfold stepP
  split
  · exact ⟨h, hr⟩
  · rename_i e
    have hb : pivot s.1 k s.2 < s.1.length := by omega
    have ha : s.2 < s.1.length := by omega
    have h1 := h.swap ha hb
    have h2 := h1.scale (r := s.2) (k := k) (by rw [swap_length]; exact ha) hk
    exact ⟨h2.elim (by rw [scale_length, swap_length]; exact ha) hk _, ha⟩
theorem reduceTo_inv {m n : Nat} {rows : List (List Int)} (hn : n ≤ m) (h : Good m rows) : Good m (reduceTo rows n).1 ∧ (reduceTo rows n).2 ≤ rows.length := by
  induction n with
  | zero => exact ⟨h, Nat.zero_le _⟩
  | succ n ih =>
    have h1 := ih (by omega)
    rw [reduceTo_succ]
    have h2 := stepP_inv (k := n) (by omega) h1.1 (by rw [reduceTo_length]; exact h1.2)
    rw [stepP_length, reduceTo_length] at h2
    exact h2

/-! ### a matrix in memory -/
abbrev bk (hs : List (Nat × Nat)) (i : Nat) : Nat := (hs.getD i (0, 0)).1
abbrev cp (hs : List (Nat × Nat)) (i : Nat) : Nat := (hs.getD i (0, 0)).2
structure Mat (w : World) (L : Nat) (hs : List (Nat × Nat)) (rows : List (List Int)) : Prop where
  outer : ∃ C, w.heap[L]? = some (.cells C 22 (0, 0)) ∧ ∀ i, i < rows.length → C[i]? = some (.slice (some ⟨bk hs i, 0, none⟩) (row rows i).length (cp hs i))
  inner : ∀ i, i < rows.length → ∃ R, w.heap[bk hs i]? = some (.cells R 3 (0, 0)) ∧ R.size = cp hs i ∧ ∀ j, j < (row rows i).length → R[j]? = some (.int .i64 ((row rows i).getD j 0))
  caps : ∀ i, i < rows.length → (row rows i).length ≤ cp hs i ∧ cp hs i ≤ maxLen
  inj : ∀ i j, i < rows.length → j < rows.length → bk hs i = bk hs j → i = j
  len : hs.length = rows.length
section
variable {w w1 : World} {L : Nat} {hs : List (Nat × Nat)} {rows : List (List Int)}
theorem Mat.cellO (h : Mat w L hs rows) {i : Nat} (hi : i < rows.length) : w.cell? ⟨L, i, none⟩ = some (.slice (some ⟨bk hs i, 0, none⟩) (row rows i).length (cp hs i)) := by
  obtain ⟨C, hC, hc⟩ := h.outer
  exact (blk_cell hC i).trans (hc i hi)
theorem Mat.cellI (h : Mat w L hs rows) {i j : Nat} (hi : i < rows.length) (hj : j < (row rows i).length) : w.cell? ⟨bk hs i, j, none⟩ = some (.int .i64 ((row rows i).getD j 0)) := by
  obtain ⟨R, hR, hz, hr⟩ := h.inner i hi
  exact (blk_cell hR j).trans (hr j hj)
theorem Mat.frO (h : Mat w L hs rows) (j : Nat) : w.frozen? ⟨L, j, none⟩ = false := by
  obtain ⟨C, hC, hc⟩ := h.outer
  exact blk_frozen hC j
theorem Mat.frI (h : Mat w L hs rows) {i : Nat} (hi : i < rows.length) (j : Nat) : w.frozen? ⟨bk hs i, j, none⟩ = false := by
  obtain ⟨R, hR, hz, hr⟩ := h.inner i hi
  exact blk_frozen hR j
theorem Mat.setO (h : Mat w L hs rows) {i : Nat} (hi : i < rows.length) (a : Nat) (v : Value) : ∃ v', (w.setCell ⟨L, a, none⟩ v).cell? ⟨L, i, none⟩ = some v' ∧ (w.setCell ⟨L, a, none⟩ v).frozen? ⟨L, i, none⟩ = false := by
  obtain ⟨C, hC, hc⟩ := h.outer
  have hA : i < C.size := (Array.getElem?_eq_some_iff.1 (hc i hi)).1
  have h1 := blk_set hC a v
  refine ⟨_, (blk_cell h1 i).trans (Array.getElem?_eq_getElem (by rw [Array.size_setIfInBounds]; exact hA)), blk_frozen h1 i⟩
theorem Mat.ne (h : Mat w L hs rows) {i : Nat} (hi : i < rows.length) : bk hs i ≠ L := by
  obtain ⟨C, hC, hc⟩ := h.outer
  obtain ⟨R, hR, hz, hr⟩ := h.inner i hi
  intro e
  rw [e, hC] at hR
  injection hR with hR
  injection hR with _ hR
  exact absurd hR (by decide)
theorem Mat.move (h : Mat w L hs rows) (hL : w1.heap[L]? = w.heap[L]?) (hb : ∀ i, i < rows.length → w1.heap[bk hs i]? = w.heap[bk hs i]?) : Mat w1 L hs rows where
  outer := by rw [hL]; exact h.outer
  inner := fun i hi => by rw [hb i hi]; exact h.inner i hi
  caps := h.caps
  inj := h.inj
  len := h.len
theorem Mat.ltL (h : Mat w L hs rows) : L < w.heap.size := by
  obtain ⟨C, hC, hc⟩ := h.outer
  exact blk_lt hC
theorem Mat.ltI (h : Mat w L hs rows) {i : Nat} (hi : i < rows.length) : bk hs i < w.heap.size := by
  obtain ⟨R, hR, hz, hr⟩ := h.inner i hi
  exact blk_lt hR
theorem Mat.below (h : Mat w L hs rows) (hb : Below w.heap.size w w1) : Mat w1 L hs rows := h.move (hb.block _ h.ltL) (fun i hi => hb.block _ (h.ltI hi))
theorem Mat.far (h : Mat w L hs rows) {p : Addr} (hL : L ≠ p.block) (hb : ∀ i, i < rows.length → bk hs i ≠ p.block) (u : Value) : Mat (w.setCell p u) L hs rows :=
  h.move (Below.heap_setCell w p u L hL) (fun i hi => Below.heap_setCell w p u _ (hb i hi))
/-- A number is stored into a row. -/
theorem Mat.store (h : Mat w L hs rows) {i j : Nat} (hi : i < rows.length) (hj : j < (row rows i).length) (x : Int) : Mat (w.setCell ⟨bk hs i, j, none⟩ (.int .i64 x)) L hs (rows.set i ((row rows i).set j x)) where
  outer := by
    obtain ⟨C, hC, hc⟩ := h.outer
    refine ⟨C, blk_far hC (p := ⟨bk hs i, j, none⟩) (fun e => h.ne hi e.symm) _, fun q hq => ?_⟩
    rw [List.length_set] at hq
    rw [hc q hq, row_set _ _ _ _ hi]
    split
    · rename_i e
      subst e
      rw [List.length_set]
    · rfl
  inner := fun q hq => by
    rw [List.length_set] at hq
    obtain ⟨R, hR, hz, hr⟩ := h.inner q hq
    rw [row_set _ _ _ _ hi]
    by_cases e : i = q
    · subst e
      refine ⟨_, blk_set hR j _, by rw [Array.size_setIfInBounds]; exact hz, fun z hzz => ?_⟩
      rw [if_pos rfl, List.length_set] at hzz
      rw [if_pos rfl, Array.getElem?_setIfInBounds]
      by_cases ez : j = z
      · subst ez
        have hsz : j < R.size := (Array.getElem?_eq_some_iff.1 (hr j hj)).1
        rw [if_pos rfl, if_pos hsz, List.getD_eq_getElem?_getD, List.getElem?_set, if_pos rfl, if_pos hj]
        rfl
      · rw [if_neg ez, hr z hzz, List.getD_eq_getElem?_getD, List.getD_eq_getElem?_getD, List.getElem?_set, if_neg ez]
    · rw [if_neg e]
      refine ⟨R, blk_far hR (p := ⟨bk hs i, j, none⟩) (fun e' => e (h.inj q i hq hi e').symm) _, hz, hr⟩
  caps := fun q hq => by
    rw [List.length_set] at hq
    rw [row_set _ _ _ _ hi]
    split
    · rename_i e
      subst e
      rw [List.length_set]
      exact h.caps i hi
    · exact h.caps q hq
  inj := fun a b ha hb => by
    rw [List.length_set] at ha hb
    exact h.inj a b ha hb
  len := by rw [List.length_set]; exact h.len
def swapH (hs : List (Nat × Nat)) (a b : Nat) : List (Nat × Nat) := (hs.set a (hs.getD b (0, 0))).set b (hs.getD a (0, 0))
theorem swapH_getD (hs : List (Nat × Nat)) (a b j : Nat) (ha : a < hs.length) (hb : b < hs.length) : (swapH hs a b).getD j (0, 0) = if b = j then hs.getD a (0, 0) else if a = j then hs.getD b (0, 0) else hs.getD j (0, 0) := by
  unfold swapH
  rw [List.getD_eq_getElem?_getD, List.getElem?_set, List.getElem?_set]
  by_cases e : b = j
  · subst e
    simp [hb]
  · rw [if_neg e, if_neg e]
    by_cases e' : a = j
    · subst e'
      simp [ha]
    · rw [if_neg e', if_neg e', ← List.getD_eq_getElem?_getD]
/-- Two rows change places. -/
theorem Mat.swap (h : Mat w L hs rows) {a b : Nat} (ha : a < rows.length) (hb : b < rows.length) :
    Mat ((w.setCell ⟨L, a, none⟩ (.slice (some ⟨bk hs b, 0, none⟩) (row rows b).length (cp hs b))).setCell ⟨L, b, none⟩ (.slice (some ⟨bk hs a, 0, none⟩) (row rows a).length (cp hs a))) L (swapH hs a b) (swapR rows a b) := by
  have hla : a < hs.length := by rw [h.len]; exact ha
  have hlb : b < hs.length := by rw [h.len]; exact hb
  have hsw : ∀ j, (swapH hs a b).getD j (0, 0) = if b = j then hs.getD a (0, 0) else if a = j then hs.getD b (0, 0) else hs.getD j (0, 0) := fun j => swapH_getD hs a b j hla hlb
  refine ⟨?_, ?_, ?_, ?_, ?_⟩
  · obtain ⟨C, hC, hc⟩ := h.outer
    refine ⟨_, blk_set (blk_set hC a _) b _, fun q hq => ?_⟩
    rw [swap_length] at hq
    have hA : a < C.size := (Array.getElem?_eq_some_iff.1 (hc a ha)).1
    have hB : b < C.size := (Array.getElem?_eq_some_iff.1 (hc b hb)).1
    unfold bk cp
    rw [row_swap _ _ _ _ ha hb, hsw, Array.getElem?_setIfInBounds, Array.getElem?_setIfInBounds, Array.size_setIfInBounds]
    by_cases e : b = q
    · subst e
      simp [hB]
    · rw [if_neg e, if_neg e, if_neg e]
      by_cases e' : a = q
      · subst e'
        simp [hA]
      · rw [if_neg e', if_neg e', if_neg e']
        exact hc q hq
  · intro q hq
    rw [swap_length] at hq
    have key : ∀ p, p < rows.length → ∃ R, ((w.setCell ⟨L, a, none⟩ (.slice (some ⟨bk hs b, 0, none⟩) (row rows b).length (cp hs b))).setCell ⟨L, b, none⟩ (.slice (some ⟨bk hs a, 0, none⟩) (row rows a).length (cp hs a))).heap[bk hs p]? = some (.cells R 3 (0, 0)) ∧ R.size = cp hs p ∧ ∀ j, j < (row rows p).length → R[j]? = some (.int .i64 ((row rows p).getD j 0)) := by
      intro p hp
      obtain ⟨R, hR, hz, hr⟩ := h.inner p hp
      exact ⟨R, blk_far (blk_far hR (p := ⟨L, a, none⟩) (h.ne hp) _) (p := ⟨L, b, none⟩) (h.ne hp) _, hz, hr⟩
    unfold bk cp
    rw [row_swap _ _ _ _ ha hb, hsw]
    by_cases e : b = q
    · rw [if_pos e, if_pos e]
      exact key a ha
    · rw [if_neg e, if_neg e]
      by_cases e' : a = q
      · rw [if_pos e', if_pos e']
        exact key b hb
      · rw [if_neg e', if_neg e']
        exact key q hq
  · intro q hq
    rw [swap_length] at hq
    unfold cp
    rw [row_swap _ _ _ _ ha hb, hsw]
    split
    · exact h.caps a ha
    · split
      · exact h.caps b hb
      · exact h.caps q hq
  · intro p q hp hq
    rw [swap_length] at hp hq
    unfold bk
    rw [hsw, hsw]
    intro e
    have inj := h.inj
    unfold bk at inj
    by_cases p1 : b = p
    · rw [if_pos p1] at e
      by_cases q1 : b = q
      · omega
      · rw [if_neg q1] at e
        by_cases q2 : a = q
        · rw [if_pos q2] at e
          have := inj _ _ ha hb e; omega
        · rw [if_neg q2] at e
          have := inj _ _ ha hq e; omega
    · rw [if_neg p1] at e
      by_cases p2 : a = p
      · rw [if_pos p2] at e
        by_cases q1 : b = q
        · rw [if_pos q1] at e
          have := inj _ _ hb ha e; omega
        · rw [if_neg q1] at e
          by_cases q2 : a = q
          · omega
          · rw [if_neg q2] at e
            have := inj _ _ hb hq e; omega
      · rw [if_neg p2] at e
        by_cases q1 : b = q
        · rw [if_pos q1] at e
          have := inj _ _ hp ha e; omega
        · rw [if_neg q1] at e
          by_cases q2 : a = q
          · rw [if_pos q2] at e
            have := inj _ _ hp hb e; omega
          · rw [if_neg q2] at e
            exact inj _ _ hp hq e
  · rw [swap_length]
    simp [swapH, h.len]
theorem swapH_bk (hs : List (Nat × Nat)) (a b : Nat) (ha : a < hs.length) (hb : b < hs.length) (P : Nat → Prop) (hP : ∀ i, i < hs.length → P (bk hs i)) : ∀ i, i < hs.length → P (bk (swapH hs a b) i) := by
  intro i hi
  unfold bk
  rw [swapH_getD _ _ _ _ ha hb]
  split
  · exact hP a ha
  · split
    · exact hP b hb
    · exact hP i hi
theorem nums_one (l : List Int) (j : Nat) (h : j < l.length) : ((nums .i64 l).drop (j * 1)).take 1 = [.int .i64 (l.getD j 0)] := by
  unfold nums
  rw [Nat.mul_one, ← List.map_drop, List.drop_eq_getElem_cons h, List.getD_eq_getElem?_getD, List.getElem?_eq_getElem h]
  rfl
theorem Mat.rowR (h : Mat w L hs rows) {i : Nat} (hi : i < rows.length) {base : Nat} (hb : base ≤ bk hs i) : (Kd.int .i64).R 3 w base (fun k => k = bk hs i) (.slice (some ⟨bk hs i, 0, none⟩) (row rows i).length (cp hs i)) (row rows i) := by
  obtain ⟨R, hR, hz, hr⟩ := h.inner i hi
  have hc := h.caps i hi
  have htake : R.toList.take ((row rows i).length * 1) = nums .i64 (row rows i) := by
    apply List.ext_getElem?
    intro j
    rw [List.getElem?_take, Nat.mul_one]
    unfold nums
    rw [List.getElem?_map]
    split
    · rename_i hj
      rw [Array.getElem?_toList, hr j hj, List.getElem?_eq_getElem hj, List.getD_eq_getElem?_getD, List.getElem?_eq_getElem hj]
      rfl
    · rename_i hj
      rw [List.getElem?_eq_none (by omega)]
      rfl
  refine ⟨fun k hk => by simpa [Value.ownBlock] using hk.symm, nums .i64 (row rows i), ⟨by rw [nums_length]; exact (Nat.mul_one _).symm, .inr ⟨bk hs i, cp hs i, R, rfl, hb, hR, hc.1, hc.2, by rw [hz]; exact (Nat.mul_one _).symm, htake⟩⟩, ⟨by rw [nums_length]; exact (Nat.mul_one _).symm, fun j p hj => ?_⟩⟩
  have hjl := (List.getElem?_eq_some_iff.1 hj).1
  have e : p = (row rows i).getD j 0 := by rw [List.getD_eq_getElem?_getD, hj]; rfl
  rw [e]
  exact nums_one _ j hjl
/-- A row that was appended to is put back in its place. -/
theorem Mat.putBack (h : Mat w L hs rows) {i : Nat} (hi : i < rows.length) {base : Nat} {ok : Nat → Prop} {v1 : Value} {new : List Int} (hpos : 0 < new.length) (ho : (Kd.int .i64).R 3 w1 base ok v1 new) (hg : w.grownBy w1 (some (bk hs i))) (hat : v1.ownBlock = some (bk hs i) ∨ ∃ b, v1.ownBlock = some b ∧ w.heap.size ≤ b) :
    ∃ g c, v1 = .slice (some ⟨g, 0, none⟩) new.length c ∧ base ≤ g ∧ (g = bk hs i ∨ w.heap.size ≤ g) ∧ Mat (w1.setCell ⟨L, i, none⟩ v1) L (hs.set i (g, c)) (rows.set i new) := by
  obtain ⟨_, inn, ⟨hl, ho⟩, hr⟩ := ho
  rcases ho with ⟨rfl, hz⟩ | ⟨g, c, R, rfl, hgb, hR, hc, hmax, hsz, htake⟩
  · omega
  have hgi : g = bk hs i ∨ w.heap.size ≤ g := by
    rcases hat with hat | ⟨b, hb, hlt⟩
    · exact .inl (by simpa [Value.ownBlock] using hat)
    · have : g = b := by simpa [Value.ownBlock] using hb
      exact .inr (by omega)
  have hLne : L ≠ bk hs i := fun e => h.ne hi e.symm
  have hgL : g ≠ L := by
    rcases hgi with e | e
    · rw [e]; exact h.ne hi
    · have := h.ltL; omega
  have hil : i < hs.length := by rw [h.len]; exact hi
  have hsi : (hs.set i (g, c)).getD i (0, 0) = (g, c) := by rw [List.getD_eq_getElem?_getD, List.getElem?_set, if_pos rfl, if_pos hil]; rfl
  have hsj : ∀ j, i ≠ j → (hs.set i (g, c)).getD j (0, 0) = hs.getD j (0, 0) := by
    intro j hj
    rw [List.getD_eq_getElem?_getD, List.getElem?_set, if_neg hj, ← List.getD_eq_getElem?_getD]
  have hgj : ∀ j, j < rows.length → i ≠ j → g ≠ bk hs j := by
    intro j hj hij
    rcases hgi with e | e
    · intro e2
      exact hij (h.inj i j hi hj (e ▸ e2))
    · have := h.ltI hj; omega
  refine ⟨g, c, rfl, hgb, hgi, ?_, ?_, ?_, ?_, by rw [List.length_set, List.length_set]; exact h.len⟩
  · obtain ⟨C, hC, hcc⟩ := h.outer
    have hC1 := (hg.block L h.ltL (by intro e; injection e with e; exact hLne e)).trans hC
    refine ⟨_, blk_set hC1 i _, fun q hq => ?_⟩
    rw [List.length_set] at hq
    rw [row_set _ _ _ _ hi, Array.getElem?_setIfInBounds]
    unfold bk cp
    by_cases e : i = q
    · subst e
      have hA : i < C.size := (Array.getElem?_eq_some_iff.1 (hcc i hi)).1
      rw [if_pos rfl, if_pos rfl, if_pos hA, hsi]
    · rw [if_neg e, if_neg e, hsj q e]
      exact hcc q hq
  · intro q hq
    rw [List.length_set] at hq
    rw [row_set _ _ _ _ hi]
    unfold bk cp
    by_cases e : i = q
    · subst e
      rw [if_pos rfl, hsi]
      refine ⟨R, blk_far hR (p := ⟨L, i, none⟩) hgL _, by rw [hsz]; exact Nat.mul_one _, fun j hj => ?_⟩
      have h2 : (inn.drop (j * 1)).take 1 = [.int .i64 (new.getD j 0)] := hr.2 j (new.getD j 0) (by rw [List.getD_eq_getElem?_getD, List.getElem?_eq_getElem hj]; rfl)
      have h4 : ((inn.drop (j * 1)).take 1)[0]? = some (.int .i64 (new.getD j 0)) := by rw [h2]; rfl
      rw [Nat.mul_one, List.getElem?_take_of_lt (by omega), List.getElem?_drop, Nat.add_zero, ← (show R.toList.take (new.length * 1) = inn from htake)] at h4
      rw [List.getElem?_take] at h4
      split at h4
      · rw [← Array.getElem?_toList]; exact h4
      · cases h4
    · rw [if_neg e, hsj q e]
      obtain ⟨R', hR', hz', hr'⟩ := h.inner q hq
      have hne : bk hs i ≠ bk hs q := fun e2 => e (h.inj i q hi hq e2)
      have hR1 := (hg.block (bk hs q) (h.ltI hq) (by intro e2; injection e2 with e2; exact hne e2.symm)).trans hR'
      exact ⟨R', blk_far hR1 (p := ⟨L, i, none⟩) (h.ne hq) _, hz', hr'⟩
  · intro q hq
    rw [List.length_set] at hq
    rw [row_set _ _ _ _ hi]
    unfold cp
    by_cases e : i = q
    · subst e
      rw [if_pos rfl, hsi]
      exact ⟨hc, hmax⟩
    · rw [if_neg e, hsj q e]
      exact h.caps q hq
  · intro p q hp hq
    rw [List.length_set] at hp hq
    unfold bk
    by_cases e1 : i = p
    · subst e1
      by_cases e2 : i = q
      · intro _; exact e2
      · rw [hsi, hsj q e2]
        intro e
        exact absurd e (hgj q hq e2)
    · rw [hsj p e1]
      by_cases e2 : i = q
      · subst e2
        rw [hsi]
        intro e
        exact absurd e.symm (hgj p hp e1)
      · rw [hsj q e2]
        exact h.inj p q hp hq
end
end Go.Proofs.Ytgmadofbelhmeaa.L
end
section
/- matrix.reduce: what it does to rows in memory. -/
namespace Go.Proofs.Ytgmadofbelhmeaa.L
open Go.RowKit Go.Proofs.YtgmadofbelhmeaaW.PrintWords Go.Proofs.YtgmadofbelhmeaaW.PrintLast Go.Proofs.YtgmadofbelhmeaaW.PrintMore
set_option linter.unusedVariables false
set_option linter.unusedSimpArgs false

set_option maxHeartbeats 2000000 in
set_option maxRecDepth 100000 in
theorem matrix_reduce.calls (P : Nat → Prop) (B L cap : Nat) (hs : List (Nat × Nat)) (rows : List (List Int)) (m cols : Nat) (w0 w : World) (hM : Mat w L hs rows) (hG : Good m rows) (hm : m ≤ 1000) (hr : rows.length ≤ 1000) (hcap : rows.length ≤ cap) (hc : cols ≤ m)
    (hP : ∀ i, i < rows.length → P (bk hs i)) (hPL : P L) (hPB : ∀ k, P k → B ≤ k) (hB : Below B w0 w) :
    Calls Try.prog 57 #[.slice (some ⟨L, 0, none⟩) rows.length cap, .int .i64 (cols : Int)] w fun e w' => e = .returned (.int .i64 ((reduceTo rows cols).2 : Int)) ∧ ∃ hs', Mat w' L hs' (reduceTo rows cols).1 ∧ (∀ i, i < rows.length → P (bk hs' i)) ∧ Below B w0 w' ∧ Kept w w' P := by
  have HM := Aside0.mk hM
  have HG := Aside0.mk hG
  have HP := Aside0.mk hP
  have HPL := Aside0.mk hPL
  have HPB := Aside0.mk hPB
  have HB := Aside0.mk hB
  clear hM hG hP hPL hPB hB
  generalize hn : rows.length = n at *
  have Hn := Aside0.mk hn
  clear hn
  go_enter Try.func57, Try.ntmps57
  go_wp2_with fail
  go_loopw [18, 5] (fun v u wr => ∃ (k r : Nat) (hs1 : List (Nat × Nat)), v = .int .i64 (k : Int) ∧ u = .int .i64 (r : Int) ∧ k ≤ cols ∧ r ≤ n ∧ Aside0 (r = (reduceTo rows k).2) ∧ Aside0 (Mat wr L hs1 (reduceTo rows k).1) ∧ Aside0 (∀ i, i < n → P (bk hs1 i)) ∧ Aside0 (Below B w0 wr) ∧ Aside0 (Kept w wr P)) (fun v _ _ => cols - (intOf v).toNat)
  case atStart => exact ⟨0, 0, hs, rfl, rfl, Nat.zero_le _, Nat.zero_le _, ⟨rfl⟩, ⟨HM.out⟩, ⟨HP.out⟩, ⟨HB.out⟩, ⟨Kept.refl _ _⟩⟩
  case round =>
    obtain ⟨k, r, hs1, rfl, rfl, hk, hrn, HR, HM1, HP1, HB1, HK1⟩ := hrel
    have hl0 : (reduceTo rows k).1.length = n := by rw [reduceTo_length]; exact Hn.out
    have hinv := (reduceTo_inv (n := k) (by omega) HG.out).1
    have hst : ∀ R0, R0 = (reduceTo rows k).1 → reduceTo rows (k + 1) = stepP k (R0, r) := by
      intro R0 e
      rw [reduceTo_succ, e, HR.out]
    obtain ⟨R0, hR0⟩ : ∃ R0, R0 = (reduceTo rows k).1 := ⟨_, rfl⟩
    have HST := Aside0.mk (hst R0 hR0)
    rw [← hR0] at hl0 hinv
    have HM0 : Aside0 (Mat wr L hs1 R0) := ⟨by rw [hR0]; exact HM1.out⟩
    have HR0 := Aside0.mk hR0
    have HI0 := Aside0.mk hinv
    have HL0 := Aside0.mk hl0
    clear hst hR0 hinv HM1 hl0
    by_cases hlt : k < cols
    · have hltb : decide ((k : Int) < (cols : Int)) = true := decide_eq_true (by omega)
      go_wp2_with fail
      go_loop [7] (fun v => ∃ i : Nat, v = .int .i64 (i : Int) ∧ r ≤ i ∧ i ≤ n ∧ Aside0 (pivot R0 k r = pivot R0 k i)) (fun v => n - (intOf v).toNat)
      case atStart => exact ⟨r, rfl, Nat.le_refl _, hrn, ⟨rfl⟩⟩
      case round =>
        obtain ⟨i, rfl, hi0, hi1, HPV⟩ := hrel
        by_cases hin : i < n
        · have hinb : decide ((i : Int) < (n : Int)) = true := decide_eq_true (by omega)
          have hil : i < R0.length := by rw [HL0.out]; exact hin
          have hO := HM0.out.cellO hil
          have hlr : (row R0 i).length = m := (HI0.out i hil).1
          have hI := HM0.out.cellI hil (j := k) (by rw [hlr]; omega)
          rw [hlr] at hO
          generalize hx : (row R0 i).getD k 0 = x at hI
          by_cases hz : x = 0
          · have hzb : (x == 0) = true := beq_iff_eq.mpr hz
            have HPV2 := Aside0.mk (HPV.out.trans (pivot_go hil (by rw [hx]; exact hz)))
            clear hx hz hlr hil
            go_wp2_with fail
            exact ⟨⟨i + 1, rfl, by omega, by omega, HPV2⟩, by simp [intOf]; omega⟩
          · have hzb : (x == 0) = false := beq_eq_false_iff_ne.mpr hz
            have hp : pivot R0 k r = i := HPV.out.trans (pivot_stop hil (by rw [hx]; exact hz))
            have HST2 := Aside0.mk (show reduceTo rows (k + 1) = (elimTo (scaleRow (swapR R0 r i) r k) r k R0.length, r + 1) by
              rw [HST.out]
              unfold stepP
              rw [if_neg (by show ¬ pivot R0 k r = R0.length; rw [hp, HL0.out]; omega)]
              show _ = _
              rw [hp])
            have hne : ((i : Int) == (n : Int)) = false := beq_eq_false_iff_ne.mpr (by omega)
            have hrl : r < R0.length := by omega
            have hO2 := HM0.out.cellO hrl
            have hlr2 : (row R0 r).length = m := (HI0.out r hrl).1
            rw [hlr2] at hO2
            have hf1 := HM0.out.frO i
            have hf2 := HM0.out.frO r
            have hsw := Aside0.mk (HM0.out.swap hrl hil)
            rw [hlr, hlr2] at hsw
            obtain ⟨vz, hz1, hz2⟩ := HM0.out.setO hil r (.slice (some ⟨bk hs1 i, 0, none⟩) m (cp hs1 i))
            clear hz hp HPV HST hlr hx
            go_wp2_with fail
            go_region
            clear hz1 hz2 hf1 hf2 hO hO2 hI hinb hne hzb hlr2
            have hl1 : hs1.length = n := by rw [HM0.out.len, HL0.out]
            have hPi : P L := HPL.out
            have hBL : B ≤ L := HPB.out L hPi
            obtain ⟨w2, hw2, HM2, HB2, HK2⟩ : ∃ w2, w2 = ((wr.setCell ⟨L, r, none⟩ (.slice (some ⟨bk hs1 i, 0, none⟩) m (cp hs1 i))).setCell ⟨L, i, none⟩ (.slice (some ⟨bk hs1 r, 0, none⟩) m (cp hs1 r))).drew ∧ Aside0 (Mat w2 L (swapH hs1 r i) (swapR R0 r i)) ∧ Aside0 (Below B w0 w2) ∧ Aside0 (Kept w w2 P) :=
              ⟨_, rfl, ⟨hsw.out.move rfl (fun _ _ => rfl)⟩, ⟨below_drew ((HB1.out.setCell hBL _).setCell hBL _)⟩, ⟨Kept.drew (Kept.setCell (Kept.setCell HK1.out (.inl hPi) _) (.inl hPi) _)⟩⟩
            rw [← hw2]
            clear hw2 hsw
            have HP2 := Aside0.mk (show ∀ q, q < n → P (bk (swapH hs1 r i) q) by
              have := swapH_bk hs1 r i (by omega) (by omega) P (by rw [hl1]; exact HP1.out)
              rw [hl1] at this
              exact this)
            obtain ⟨R1, hR1⟩ : ∃ R1, R1 = swapR R0 r i := ⟨_, rfl⟩
            obtain ⟨hs2, hh2⟩ : ∃ hs2, hs2 = swapH hs1 r i := ⟨_, rfl⟩
            have HST3 : Aside0 (reduceTo rows (k + 1) = (elimTo (scaleRow R1 r k) r k n, r + 1)) := ⟨by rw [HST2.out, hR1, HL0.out]⟩
            rw [← hR1, ← hh2] at HM2
            rw [← hh2] at HP2
            have HI1 := Aside0.mk (show Good m R1 by rw [hR1]; exact HI0.out.swap (by rw [HL0.out]; omega) hil)
            have HL1 := Aside0.mk (show R1.length = n by rw [hR1, swap_length, HL0.out])
            have hrn2 : r < n := by omega
            clear hin hi0 hi1
            clear HST2 hR1 hh2 HM0 HB1 HK1 HP1 HI0 HL0 HR0 hil hrl hl1 hBL hPi
            have hrl : r < R1.length := by rw [HL1.out]; omega
            have hlr : (row R1 r).length = m := (HI1.out r hrl).1
            have hO := HM2.out.cellO hrl
            have hI := HM2.out.cellI hrl (j := k) (by rw [hlr]; omega)
            rw [hlr] at hO
            have hel := HI1.out.getD hrl (j := k) (by omega)
            have hgi := Aside0.mk (ginv_some hel)
            have hge := Aside0.mk (ginv_el hel)
            obtain ⟨x, hxx⟩ : ∃ x, x = (row R1 r).getD k 0 := ⟨_, rfl⟩
            obtain ⟨by_, hby⟩ : ∃ y, y = ginv ((row R1 r).getD k 0) := ⟨_, rfl⟩
            rw [← hby] at hgi hge
            have HBY := Aside0.mk hby
            rw [← hxx] at hI hgi
            clear hby hel hxx
            go_wp2_with fail
            refine (field_Inverse.calls 40 x _ _ _ hgi.out).mono ?_
            rintro e w3 ⟨rfl, ⟨nd, rfl⟩⟩
            have HM3 : Aside0 (Mat (w2.drewN nd) L hs2 R1) := ⟨HM2.out.move rfl (fun _ _ => rfl)⟩
            have HB3 := Aside0.mk (pw_below_drewN HB2.out nd)
            have HK3 := Aside0.mk (Kept.drewN HK2.out nd)
            clear HM2 HB2 HK2 hI
            generalize w2.drewN nd = w3 at *
            have hO := HM3.out.cellO hrl
            rw [hlr] at hO
            have HLR := Aside0.mk hlr
            have HPR := Aside0.mk (show P (bk hs2 r) ∧ B ≤ bk hs2 r from ⟨HP2.out r hrn2, HPB.out _ (HP2.out r hrn2)⟩)
            clear hlr
            go_wp2_with fail
            clear hO
            go_loopw [72] (fun v wr => ∃ j : Nat, v = .int .i64 (j : Int) ∧ j ≤ m ∧ Aside0 (Mat wr L hs2 (R1.set r (mid (row R1 r) (fun j => gm ((row R1 r).getD j 0) by_) j))) ∧ Aside0 (Below B w0 wr) ∧ Aside0 (Kept w wr P)) (fun v _ => m - (intOf v).toNat)
            case atStart => exact ⟨0, rfl, Nat.zero_le _, ⟨by rw [mid_zero, show R1.set r (row R1 r) = R1 from set_row R1 r]; exact HM3.out⟩, HB3, HK3⟩
            case round =>
              rename_i wr2 _
              obtain ⟨j, rfl, hj, HMj, HBj, HKj⟩ := hrel
              by_cases hjm : j < m
              · have hjb : decide ((j : Int) < (m : Int)) = true := decide_eq_true (by omega)
                obtain ⟨R2, hR2⟩ : ∃ R2, R2 = R1.set r (mid (row R1 r) (fun j => gm ((row R1 r).getD j 0) by_) j) := ⟨_, rfl⟩
                rw [← hR2] at HMj
                have hrl2 : r < R2.length := by rw [hR2, List.length_set]; exact hrl
                have hlr2 : (row R2 r).length = m := by rw [hR2, row_set _ _ _ _ hrl, if_pos rfl, mid_length]; exact HLR.out
                have hO := HMj.out.cellO hrl2
                have hI := HMj.out.cellI hrl2 (j := j) (by rw [hlr2]; exact hjm)
                have hfr := HMj.out.frI hrl2 j
                have hx : (row R2 r).getD j 0 = (row R1 r).getD j 0 := by rw [hR2, row_set _ _ _ _ hrl, if_pos rfl, mid_getD _ _ _ _ (by rw [HLR.out]; exact hjm), if_neg (by omega)]
                have hel := HI1.out.getD hrl hjm
                have hst := Aside0.mk (HMj.out.store hrl2 (j := j) (by rw [hlr2]; exact hjm) (gm ((row R1 r).getD j 0) by_))
                have hre := Aside0.mk (show R2.set r ((row R2 r).set j (gm ((row R1 r).getD j 0) by_)) = R1.set r (mid (row R1 r) (fun j => gm ((row R1 r).getD j 0) by_) (j + 1)) by
                  rw [hR2, row_set _ _ _ _ hrl, if_pos rfl, List.set_set, mid_set (row R1 r) (fun j => gm ((row R1 r).getD j 0) by_) j])
                rw [hx] at hI
                rw [hlr2] at hO
                have hgm := Aside0.mk (gm_some hel hge.out)
                generalize (row R1 r).getD j 0 = y at hI hgm hst hre hel
                clear hx hel hlr2 hR2
                go_wp2_with fail
                go_region_with ((go_at_call 83; refine (matrix_mul.calls 40 _ _ _ _ hgm.out).mono ?_; rintro e w' ⟨rfl, ⟨nd, rfl⟩⟩))
                all_goals
                  go_wp2_with fail
                  refine ⟨⟨j + 1, rfl, by omega, ⟨?_⟩, ⟨?_⟩, ⟨?_⟩⟩, by simp [intOf]; omega⟩
                  · rw [← hre.out]; exact hst.out.move rfl (fun _ _ => rfl)
                  · repeat (first | exact HBj.out | apply pw_below_drewN | apply below_drew | refine Below.setCell ?_ HPR.out.2 _)
                  · repeat (first | exact HKj.out | apply Kept.drewN | apply Kept.drew | refine Kept.setCell ?_ (.inl HPR.out.1) _)
              · have hjb : decide ((j : Int) < (m : Int)) = false := decide_eq_false (by omega)
                obtain rfl : m = j := by omega
                obtain ⟨R3, hR3⟩ : ∃ R3, R3 = scaleRow R1 r k := ⟨_, rfl⟩
                have hR2 : R1.set r (mid (row R1 r) (fun j => gm ((row R1 r).getD j 0) by_) m) = R3 := by
                  rw [hR3]
                  unfold scaleRow
                  rw [HLR.out, HBY.out]
                rw [hR2] at HMj
                have HI3 := Aside0.mk (show Good m R3 by rw [hR3]; exact HI1.out.scale hrl (by omega))
                have HL3 := Aside0.mk (show R3.length = n by rw [hR3, scale_length, HL1.out])
                have HST4 : Aside0 (reduceTo rows (k + 1) = (elimTo R3 r k n, r + 1)) := ⟨by rw [HST3.out, hR3]⟩
                clear hR2 hR3 HST3 HBY HI1 HL1 HLR hgi hge hjm hj hrl HM3 HB3 HK3
                have hr3 : r < R3.length := by rw [HL3.out]; exact hrn2
                go_wp2_with fail
                go_loopw [89] (fun v wr => ∃ q : Nat, v = .int .i64 (q : Int) ∧ q ≤ n ∧ Aside0 (Mat wr L hs2 (elimTo R3 r k q)) ∧ Aside0 (Below B w0 wr) ∧ Aside0 (Kept w wr P)) (fun v _ => n - (intOf v).toNat)
                case atStart => exact ⟨0, rfl, Nat.zero_le _, ⟨by rw [elimTo_zero]; exact HMj.out⟩, HBj, HKj⟩
                case round =>
                  rename_i wr3 _
                  clear HMj HBj HKj
                  obtain ⟨q, rfl, hq, HMq, HBq, HKq⟩ := hrel
                  by_cases hqn : q < n
                  · have hqb : decide ((q : Int) < (n : Int)) = true := decide_eq_true (by omega)
                    obtain ⟨R4, hR4⟩ : ∃ R4, R4 = elimTo R3 r k q := ⟨_, rfl⟩
                    rw [← hR4] at HMq
                    have hq3 : q < R3.length := by rw [HL3.out]; exact hqn
                    have hq4 : q < R4.length := by rw [hR4, elimTo_length]; exact hq3
                    have hr4 : r < R4.length := by rw [hR4, elimTo_length]; exact hr3
                    have hrow : row R4 q = row R3 q := by rw [hR4, elimTo_row _ _ _ _ _ hq3, if_neg (by omega)]
                    have hrowr : row R4 r = row R3 r := by rw [hR4, elimTo_pivot _ _ _ _ hr3]
                    have hlq : (row R3 q).length = m := (HI3.out q hq3).1
                    have hlr : (row R3 r).length = m := (HI3.out r hr3).1
                    have hOq := HMq.out.cellO hq4
                    have hOr := HMq.out.cellO hr4
                    have hI := HMq.out.cellI hq4 (j := k) (by rw [hrow, hlq]; omega)
                    rw [hrow] at hI hOq
                    rw [hrowr] at hOr
                    rw [hlq] at hOq
                    rw [hlr] at hOr
                    have HES := Aside0.mk (show elimTo R3 r k (q + 1) = R4.set q (elimRow R3 r k q (row R3 q)) by rw [elimTo_succ _ _ _ _ hq3, hR4])
                    have HROW := Aside0.mk hrow
                    have HROWR := Aside0.mk hrowr
                    have HLQ := Aside0.mk hlq
                    have HLR3 := Aside0.mk hlr
                    clear hrow hrowr hR4 hlq hlr
                    obtain ⟨z, hz⟩ : ∃ z, z = (row R3 q).getD k 0 := ⟨_, rfl⟩
                    have hzel : El z := by rw [hz]; exact HI3.out.getD hq3 (by omega)
                    rw [← hz] at hI
                    have HZ := Aside0.mk hz
                    clear hz
                    by_cases hcnd : q ≠ r ∧ z ≠ 0
                    · have c1 : ((q : Int) != (r : Int)) = true := bne_iff_ne.mpr (by omega)
                      have c2 : (z != 0) = true := bne_iff_ne.mpr hcnd.2
                      have hqr : q ≠ r := hcnd.1
                      have HPQ := Aside0.mk (show P (bk hs2 q) ∧ B ≤ bk hs2 q from ⟨HP2.out q hqn, HPB.out _ (HP2.out q hqn)⟩)
                      have HEL := Aside0.mk (show elimRow R3 r k q (row R3 q) = mid (row R3 q) (fun j => gx ((row R3 q).getD j 0) (gm ((row R3 r).getD j 0) z)) m by
                        unfold elimRow
                        rw [if_pos ⟨hqr, by rw [← HZ.out]; exact hcnd.2⟩, HLQ.out, ← HZ.out])
                      clear hcnd
                      go_wp2_with fail
                      clear hOq hOr hI
                      go_loopw [110] (fun v wr => ∃ j : Nat, v = .int .i64 (j : Int) ∧ j ≤ m ∧ Aside0 (Mat wr L hs2 (R4.set q (mid (row R3 q) (fun j => gx ((row R3 q).getD j 0) (gm ((row R3 r).getD j 0) z)) j))) ∧ Aside0 (Below B w0 wr) ∧ Aside0 (Kept w wr P)) (fun v _ => m - (intOf v).toNat)
                      case atStart => exact ⟨0, rfl, Nat.zero_le _, ⟨by rw [mid_zero, ← HROW.out, set_row]; exact HMq.out⟩, HBq, HKq⟩
                      case round =>
                        rename_i wr4 _
                        clear HMq HBq HKq
                        obtain ⟨j, rfl, hj, HMj, HBj, HKj⟩ := hrel
                        by_cases hjm : j < m
                        · have hjb : decide ((j : Int) < (m : Int)) = true := decide_eq_true (by omega)
                          obtain ⟨F, hF⟩ : ∃ F : Nat → Int, F = (fun j => gx ((row R3 q).getD j 0) (gm ((row R3 r).getD j 0) z)) := ⟨_, rfl⟩
                          obtain ⟨R5, hR5⟩ : ∃ R5, R5 = R4.set q (mid (row R3 q) F j) := ⟨_, rfl⟩
                          rw [← hF, ← hR5] at HMj
                          have hq5 : q < R5.length := by rw [hR5, List.length_set]; exact hq4
                          have hr5 : r < R5.length := by rw [hR5, List.length_set]; exact hr4
                          have hrq : row R5 q = mid (row R3 q) F j := by rw [hR5, row_set _ _ _ _ hq4, if_pos rfl]
                          have hrr : row R5 r = row R3 r := by rw [hR5, row_set _ _ _ _ hq4, if_neg hqr, HROWR.out]
                          have hlq : (row R5 q).length = m := by rw [hrq, mid_length, HLQ.out]
                          have hlr : (row R5 r).length = m := by rw [hrr, HLR3.out]
                          have hIq := HMj.out.cellI hq5 (j := j) (by rw [hlq]; exact hjm)
                          have hIr := HMj.out.cellI hr5 (j := j) (by rw [hlr]; exact hjm)
                          have hfr := HMj.out.frI hq5 j
                          rw [show (row R5 q).getD j 0 = (row R3 q).getD j 0 by rw [hrq, mid_getD _ _ _ _ (by rw [HLQ.out]; exact hjm), if_neg (by omega)]] at hIq
                          rw [hrr] at hIr
                          have helq := HI3.out.getD hq3 hjm
                          have helr := HI3.out.getD hr3 hjm
                          have hgm := Aside0.mk (gm_some helr hzel)
                          have hst := Aside0.mk (HMj.out.store hq5 (j := j) (by rw [hlq]; exact hjm) (F j))
                          have hre := Aside0.mk (show R5.set q ((row R5 q).set j (F j)) = R4.set q (mid (row R3 q) F (j + 1)) by
                            rw [hrq, mid_set, hR5, List.set_set])
                          have hFj : F j = Go.bits .xor .i64 ((row R3 q).getD j 0) (gm ((row R3 r).getD j 0) z) := by rw [hF]; rfl
                          rw [hFj] at hst hre
                          have HF := Aside0.mk hF
                          clear hFj hF hR5 hrq hrr hlq hlr
                          generalize (row R3 q).getD j 0 = yq at hIq hst hre helq
                          generalize (row R3 r).getD j 0 = yr at hIr hst hre helr hgm
                          clear helq helr
                          go_wp2_with fail
                          go_region_with ((go_at_call 83; refine (matrix_mul.calls 40 _ _ _ _ hgm.out).mono ?_; rintro e w' ⟨rfl, ⟨nd, rfl⟩⟩))
                          all_goals
                            go_wp2_with fail
                            refine ⟨⟨j + 1, rfl, by omega, ⟨?_⟩, ⟨?_⟩, ⟨?_⟩⟩, by simp [intOf]; omega⟩
                            · rw [← HF.out, ← hre.out]; exact hst.out.move rfl (fun _ _ => rfl)
                            · repeat (first | exact HBj.out | apply pw_below_drewN | apply below_drew | refine Below.setCell ?_ HPQ.out.2 _)
                            · repeat (first | exact HKj.out | apply Kept.drewN | apply Kept.drew | refine Kept.setCell ?_ (.inl HPQ.out.1) _)
                        · have hjb : decide ((j : Int) < (m : Int)) = false := decide_eq_false (by omega)
                          obtain rfl : m = j := by omega
                          have hM6 := HMj.out
                          rw [← HEL.out, ← HES.out] at hM6
                          have HM6 := Aside0.mk hM6
                          clear hM6
                          clear HMj hjm hj
                          go_wp2_with fail
                          exact ⟨⟨q + 1, rfl, by omega, HM6, HBj, HKj⟩, by simp [intOf]; omega⟩
                    · have hre : elimTo R3 r k (q + 1) = R4 := by
                        rw [HES.out]
                        unfold elimRow
                        rw [if_neg (by rw [← HZ.out]; exact hcnd), ← HROW.out, set_row]
                      have hM6 := HMq.out
                      rw [← hre] at hM6
                      have HM6 := Aside0.mk hM6
                      clear hM6 hre
                      by_cases hqr : q = r
                      · have c1 : ((q : Int) != (r : Int)) = false := bne_eq_false_iff_eq.mpr (by omega)
                        clear hcnd hqr
                        go_wp2_with fail
                        exact ⟨⟨q + 1, rfl, by omega, HM6, HBq, HKq⟩, by simp [intOf]; omega⟩
                      · have c1 : ((q : Int) != (r : Int)) = true := bne_iff_ne.mpr (by omega)
                        have c2 : (z != 0) = false := bne_eq_false_iff_eq.mpr (by
                          rcases Classical.em (z = 0) with h0 | h0
                          · exact h0
                          · exact absurd ⟨hqr, h0⟩ hcnd)
                        clear hcnd hqr
                        go_wp2_with fail
                        exact ⟨⟨q + 1, rfl, by omega, HM6, HBq, HKq⟩, by simp [intOf]; omega⟩
                  · have hqb : decide ((q : Int) < (n : Int)) = false := decide_eq_false (by omega)
                    obtain rfl : n = q := by omega
                    go_wp2_with fail
                    refine ⟨⟨k + 1, r + 1, hs2, rfl, rfl, by omega, by omega, ⟨by rw [HST4.out]⟩, ⟨by rw [HST4.out]; exact HMq.out⟩, HP2, HBq, HKq⟩, by simp [intOf]; omega⟩
        · have hinb : decide ((i : Int) < (n : Int)) = false := decide_eq_false (by omega)
          have hne : ((i : Int) == (n : Int)) = true := beq_iff_eq.mpr (by omega)
          have hs2 : reduceTo rows (k + 1) = (R0, r) := by
            rw [HST.out]
            unfold stepP
            rw [if_pos]
            show pivot R0 k r = R0.length
            rw [HPV.out, pivot_end (by rw [HL0.out]; omega), HL0.out]
            omega
          have HS2 := Aside0.mk hs2
          clear hs2
          go_wp2_with fail
          refine ⟨⟨k + 1, r, hs1, rfl, rfl, by omega, hrn, ⟨by rw [HS2.out]⟩, ⟨by rw [HS2.out]; exact HM0.out⟩, HP1, HB1, HK1⟩, by simp [intOf]; omega⟩
    · have hltb : decide ((k : Int) < (cols : Int)) = false := decide_eq_false (by omega)
      obtain rfl : k = cols := by omega
      go_wp2_with fail
      go_ret
      exact ⟨by rw [HR.out]; rfl, hs1, by rw [← HR0.out]; exact HM0.out, HP1.out, HB1.out, HK1.out⟩
end Go.Proofs.Ytgmadofbelhmeaa.L
end
section
-- Printed for this claim by a small program of the session's own, drv.py, round the kit's print.py. Lean checks it.
namespace Go.Proofs.Ytgmadofbelhmeaa.L
open Go.RowKit Go.Proofs.YtgmadofbelhmeaaW.PrintWords Go.Proofs.YtgmadofbelhmeaaW.PrintLast Go.Proofs.YtgmadofbelhmeaaW.PrintMore
attribute [local go_sem] max2_int min2_int max_two min_two max_three min_three max_four min_four   -- for this text's walks alone
set_option linter.unusedVariables false
set_option linter.unusedSimpArgs false

/-! ### matrix_Check: function 55 -/
mutual
def matrix_Check.j0 : Nat → Bool → Int → Int → List Int → Option (Int)
  | 0, _, _, _, _ => none
  | k + 1, x22, x179000, x179001, x179002 => if x22 = true then (some 1) else (if (x179002.length : Int) = (wrap64 (x179000 * x179001)) then (matrix_Check.l0 k x179002 (x179002.length : Int) 0) else (some 2))
def matrix_Check.l0 : Nat → List Int → Int → Int → Option (Int)
  | 0, _, _, _ => none
  | k + 1, x33, x34, x35 => if x35 < x34 then (if 0 ≤ x35 then (if x35 < (x33.length : Int) then (if (rd x33 x35) < 0 then (some 1) else (if (rd x33 x35) > 15 then (some 1) else (matrix_Check.l0 k x33 x34 (wrap64 (x35 + 1))))) else (none)) else (none)) else (some 0)
end
def matrix_Check.f (k : Nat) (a0_0 : Int) (a0_1 : Int) (l0_2 : List Int) : Option (Int) := if a0_0 < 1 then (matrix_Check.j0 k true a0_0 a0_1 l0_2) else (if a0_0 > 16 then (matrix_Check.j0 k true a0_0 a0_1 l0_2) else (if a0_1 < 1 then (matrix_Check.j0 k true a0_0 a0_1 l0_2) else (matrix_Check.j0 k (decide (a0_1 > 16)) a0_0 a0_1 l0_2)))
theorem matrix_Check.mono_l : ∀ k, (∀ y0 y1 y2 y3, LeO (matrix_Check.j0 k y0 y1 y2 y3) (matrix_Check.j0 (k + 1) y0 y1 y2 y3)) ∧ (∀ y0 y1 y2, LeO (matrix_Check.l0 k y0 y1 y2) (matrix_Check.l0 (k + 1) y0 y1 y2))
  | 0 => ⟨fun _ _ _ _ r h => by simp [matrix_Check.j0] at h, fun _ _ _ r h => by simp [matrix_Check.l0] at h⟩
  | k + 1 => by
    obtain ⟨ih0, ih1⟩ := matrix_Check.mono_l k
    refine ⟨?_, ?_⟩
    · intro y0 y1 y2 y3
      unfold matrix_Check.j0
      repeat' first
      | (with_reducible exact ih0 _ _ _ _)
      | (with_reducible exact ih1 _ _ _)
      | (with_reducible exact LeO.refl _)
      | (with_reducible exact LeO.none _)
      | (with_reducible refine LeO.ite ?_ ?_)
      | (with_reducible refine LeO.bind ?_ (fun _ => ?_))
      | exact ih0 _ _ _ _
      | exact ih1 _ _ _
      | exact LeO.none _
      | refine LeO.ite ?_ ?_
      | refine LeO.bind ?_ (fun _ => ?_)
    · intro y0 y1 y2
      unfold matrix_Check.l0
      repeat' first
      | (with_reducible exact ih0 _ _ _ _)
      | (with_reducible exact ih1 _ _ _)
      | (with_reducible exact LeO.refl _)
      | (with_reducible exact LeO.none _)
      | (with_reducible refine LeO.ite ?_ ?_)
      | (with_reducible refine LeO.bind ?_ (fun _ => ?_))
      | exact ih0 _ _ _ _
      | exact ih1 _ _ _
      | exact LeO.none _
      | refine LeO.ite ?_ ?_
      | refine LeO.bind ?_ (fun _ => ?_)
theorem matrix_Check.mono : ∀ a0 a1 a2 k, LeO (matrix_Check.f k a0 a1 a2) (matrix_Check.f (k + 1) a0 a1 a2) := by
  intro a0 a1 a2 k
  obtain ⟨ih0, ih1⟩ := matrix_Check.mono_l k
  unfold matrix_Check.f
  repeat' first
      | (with_reducible exact ih0 _ _ _ _)
      | (with_reducible exact ih1 _ _ _)
      | (with_reducible exact LeO.refl _)
      | (with_reducible exact LeO.none _)
      | (with_reducible refine LeO.ite ?_ ?_)
      | (with_reducible refine LeO.bind ?_ (fun _ => ?_))
      | exact ih0 _ _ _ _
      | exact ih1 _ _ _
      | exact LeO.none _
      | refine LeO.ite ?_ ?_
      | refine LeO.bind ?_ (fun _ => ?_)
set_option maxHeartbeats 8000000 in
set_option maxRecDepth 100000 in
theorem matrix_Check.calls (k : Nat) (a0_0 : Int) (a0_1 : Int) (A0_2 : Option Addr) (c0_2 : Nat) (l0_2 : List Int) (r : Int) (w : World) (hr0_2 : Kd.C (Kd.int .i64) w A0_2 l0_2.length l0_2) (hc0_2 : l0_2.length ≤ c0_2) (h : matrix_Check.f k a0_0 a0_1 l0_2 = some r) :
    Calls Try.prog 55 #[.agg #[.int .i64 a0_0, .int .i64 a0_1, .slice A0_2 l0_2.length c0_2]] w fun e w' => e = .returned (.int .i64 r) ∧ Below w.heap.size w w' := by
  have hu63 := Try.underlying63
  have HR0_2 := Aside0.mk hr0_2
  have HC0_2 := Aside0.mk hc0_2
  clear hr0_2 hc0_2
  have HB := Aside0.mk (Below.refl w.heap.size w)
  have H : (if a0_0 < 1 then (matrix_Check.j0 k true a0_0 a0_1 l0_2) else (if a0_0 > 16 then (matrix_Check.j0 k true a0_0 a0_1 l0_2) else (if a0_1 < 1 then (matrix_Check.j0 k true a0_0 a0_1 l0_2) else (matrix_Check.j0 k (decide (a0_1 > 16)) a0_0 a0_1 l0_2)))) = some r := h
  clear h
  have HC2 := Aside0.mk H
  clear H
  go_enter Try.func55, Try.ntmps55
  go_upto_region 1 with (first | ((with_reducible refine gate_dst (N := 1) rfl ?_); refine box_event ?hg (N := 1) ?hd (cs := #[.int .i64 a0_0, .int .i64 a0_1, .slice A0_2 l0_2.length c0_2]) (t := 63) ?hr ?_; (case hd => rfl); (case hg => rfl); (case hr => first | (go_simp; done) | (go_simp; rfl)); intro gb178 hg w3 hbox hb; have n0_ := Aside0.mk (below_step (by repeat (first | (with_reducible first | exact HB.out | apply below_alloc | apply pw_below_drewN | apply below_drew1) | exact HB.out)) hb); have n1_ := Aside0.mk (hbox); have n2_ := Aside0.mk ((by rw [hg]; exact (below_size (by repeat (first | (with_reducible first | exact HB.out | apply below_alloc | apply pw_below_drewN | apply below_drew1) | exact HB.out))) : w.heap.size ≤ gb178)); have n3_ := Aside0.mk ((by rw [hg]; exact (below_size (by repeat (first | (with_reducible first | exact HB.out | apply below_alloc | apply pw_below_drewN | apply below_drew1) | exact HB.out))) : w.heap.size ≤ gb178)); clear HB; have HB := n0_; have BK178 := n1_; have GW178 := n2_; have GE178 := n3_; clear n0_ n1_ n2_ n3_; clear hb hbox hg))
  (try simp only [Act.put, List.setIfInBounds_toArray, List.set_cons_zero, List.set_cons_succ])
  go_cut [22] (fun v22 wc => ∃ (kq : Nat) (x22_1 : Bool), v22 = .bool x22_1 ∧ Aside0 (matrix_Check.j0 kq x22_1 a0_0 a0_1 l0_2 = some r) ∧ Aside0 (kq ≤ k) ∧ Aside0 (wc.heap[gb178]? = some (.cells #[.int .i64 a0_0, .int .i64 a0_1, (.slice A0_2 l0_2.length c0_2)] 63 (0, 0))) ∧ Aside0 (Below w.heap.size w wc))
  case first =>
    have H := HC2.out
    clear HC2
    by_cases c4 : a0_0 < 1
    · rw [if_pos c4] at H
      have c4b0 : decide (a0_0 < 1) = true := decide_eq_true c4
      clear c4
      (first | rw [c4b0] | (simp only [i64_w, i32_w]; rw [c4b0]) | skip)
      have H' := Aside0.mk H
      clear H
      have hcz5_0 : w3.cell? ⟨gb178, 0, none⟩ = some (.int .i64 a0_0) := (blk_cell BK178.out 0).trans rfl
      have hcz5_1 : w3.cell? ⟨gb178, 1, none⟩ = some (.int .i64 a0_1) := (blk_cell BK178.out 1).trans rfl
      have hcz5_2 : w3.cell? ⟨gb178, 2, none⟩ = some (.slice A0_2 l0_2.length c0_2) := (blk_cell BK178.out 2).trans rfl
      have hfz5_0 := blk_frozen BK178.out 0
      have hfz5_1 := blk_frozen BK178.out 1
      have hfz5_2 := blk_frozen BK178.out 2
      go_wp2
      go_meet
      case rel => exact ⟨_, (true), (by first | rfl | (simp; done) | (simp [*]; done)), H', ⟨by first | omega | exact Nat.le_refl _⟩, ⟨by (with_reducible repeat (first | refine blk_drewN ?_ _ | refine blk_drew ?_ | refine blk_alloc ?_ _)); exact BK178.out⟩, ⟨by repeat (first | (with_reducible first | exact HB.out | apply below_alloc | apply pw_below_drewN | apply below_drew1 | refine below_set ?_ GE178.out) | exact HB.out)⟩⟩
    · rw [if_neg c4] at H
      have c4b0 : decide (a0_0 < 1) = false := decide_eq_false c4
      clear c4
      (first | rw [c4b0] | (simp only [i64_w, i32_w]; rw [c4b0]) | skip)
      by_cases c6 : a0_0 > 16
      · rw [if_pos c6] at H
        have c6b0 : decide (16 < a0_0) = true := decide_eq_true c6
        clear c6
        have H' := Aside0.mk H
        clear H
        have hcz7_0 : w3.cell? ⟨gb178, 0, none⟩ = some (.int .i64 a0_0) := (blk_cell BK178.out 0).trans rfl
        have hcz7_1 : w3.cell? ⟨gb178, 1, none⟩ = some (.int .i64 a0_1) := (blk_cell BK178.out 1).trans rfl
        have hcz7_2 : w3.cell? ⟨gb178, 2, none⟩ = some (.slice A0_2 l0_2.length c0_2) := (blk_cell BK178.out 2).trans rfl
        have hfz7_0 := blk_frozen BK178.out 0
        have hfz7_1 := blk_frozen BK178.out 1
        have hfz7_2 := blk_frozen BK178.out 2
        go_wp2
        go_meet
        case rel => exact ⟨_, (true), (by first | rfl | (simp; done) | (simp [*]; done)), H', ⟨by first | omega | exact Nat.le_refl _⟩, ⟨by (with_reducible repeat (first | refine blk_drewN ?_ _ | refine blk_drew ?_ | refine blk_alloc ?_ _)); exact BK178.out⟩, ⟨by repeat (first | (with_reducible first | exact HB.out | apply below_alloc | apply pw_below_drewN | apply below_drew1 | refine below_set ?_ GE178.out) | exact HB.out)⟩⟩
      · rw [if_neg c6] at H
        have c6b0 : decide (16 < a0_0) = false := decide_eq_false c6
        clear c6
        by_cases c8 : a0_1 < 1
        · rw [if_pos c8] at H
          have c8b0 : decide (a0_1 < 1) = true := decide_eq_true c8
          clear c8
          have H' := Aside0.mk H
          clear H
          have hcz9_0 : w3.cell? ⟨gb178, 0, none⟩ = some (.int .i64 a0_0) := (blk_cell BK178.out 0).trans rfl
          have hcz9_1 : w3.cell? ⟨gb178, 1, none⟩ = some (.int .i64 a0_1) := (blk_cell BK178.out 1).trans rfl
          have hcz9_2 : w3.cell? ⟨gb178, 2, none⟩ = some (.slice A0_2 l0_2.length c0_2) := (blk_cell BK178.out 2).trans rfl
          have hfz9_0 := blk_frozen BK178.out 0
          have hfz9_1 := blk_frozen BK178.out 1
          have hfz9_2 := blk_frozen BK178.out 2
          go_wp2
          go_meet
          case rel => exact ⟨_, (true), (by first | rfl | (simp; done) | (simp [*]; done)), H', ⟨by first | omega | exact Nat.le_refl _⟩, ⟨by (with_reducible repeat (first | refine blk_drewN ?_ _ | refine blk_drew ?_ | refine blk_alloc ?_ _)); exact BK178.out⟩, ⟨by repeat (first | (with_reducible first | exact HB.out | apply below_alloc | apply pw_below_drewN | apply below_drew1 | refine below_set ?_ GE178.out) | exact HB.out)⟩⟩
        · rw [if_neg c8] at H
          have c8b0 : decide (a0_1 < 1) = false := decide_eq_false c8
          clear c8
          have H' := Aside0.mk H
          clear H
          have hcz10_0 : w3.cell? ⟨gb178, 0, none⟩ = some (.int .i64 a0_0) := (blk_cell BK178.out 0).trans rfl
          have hcz10_1 : w3.cell? ⟨gb178, 1, none⟩ = some (.int .i64 a0_1) := (blk_cell BK178.out 1).trans rfl
          have hcz10_2 : w3.cell? ⟨gb178, 2, none⟩ = some (.slice A0_2 l0_2.length c0_2) := (blk_cell BK178.out 2).trans rfl
          have hfz10_0 := blk_frozen BK178.out 0
          have hfz10_1 := blk_frozen BK178.out 1
          have hfz10_2 := blk_frozen BK178.out 2
          go_wp2
          go_meet
          case rel => exact ⟨_, (decide (a0_1 > 16)), (by first | rfl | (simp; done) | (simp [*]; done)), H', ⟨by first | omega | exact Nat.le_refl _⟩, ⟨by (with_reducible repeat (first | refine blk_drewN ?_ _ | refine blk_drew ?_ | refine blk_alloc ?_ _)); exact BK178.out⟩, ⟨by repeat (first | (with_reducible first | exact HB.out | apply below_alloc | apply pw_below_drewN | apply below_drew1 | refine below_set ?_ GE178.out) | exact HB.out)⟩⟩
  case rest =>
    clear HC2
    try clear p2
    try clear c4
    try clear c4b0
    try clear c5
    try clear c6
    try clear c6b0
    try clear c8
    try clear c8b0
    try clear hcz10_0
    try clear hcz10_1
    try clear hcz10_2
    try clear hcz5_0
    try clear hcz5_1
    try clear hcz5_2
    try clear hcz7_0
    try clear hcz7_1
    try clear hcz7_2
    try clear hcz9_0
    try clear hcz9_1
    try clear hcz9_2
    try clear hfz10_0
    try clear hfz10_1
    try clear hfz10_2
    try clear hfz5_0
    try clear hfz5_1
    try clear hfz5_2
    try clear hfz7_0
    try clear hfz7_1
    try clear hfz7_2
    try clear hfz9_0
    try clear hfz9_1
    try clear hfz9_2
    obtain ⟨kq, x22_1, rfl, HA, HJ1, BK178, HB⟩ := hcut
    cases kq with
    | zero => exact absurd HA.out (by simp [matrix_Check.j0])
    | succ kj1 =>
      have H := HA.out
      clear HA
      simp only [matrix_Check.j0] at H
      by_cases c11 : x22_1 = true
      · subst c11
        have H1 : (some 1) = some r := by rw [if_pos rfl] at H; exact H
        clear H
        have H := H1
        clear H1
        obtain rfl := Option.some.inj H
        go_wp2
        go_ret
        exact ⟨by first | rfl | (simp [errW_none, errW_some] <;> rfl) | (simp [*, errW_none, errW_some] <;> rfl), by repeat (first | (with_reducible first | exact HB.out | apply below_alloc | apply pw_below_drewN | apply below_drew1 | refine below_set ?_ GE178.out) | exact HB.out)⟩
      · replace c11 := Bool.eq_false_iff.mpr c11
        subst c11
        have H1 : (if (l0_2.length : Int) = (wrap64 (a0_0 * a0_1)) then (matrix_Check.l0 kj1 l0_2 (l0_2.length : Int) 0) else (some 2)) = some r := by rw [if_neg (show ¬ (false = true) by decide)] at H; exact H
        clear H
        have H := H1
        clear H1
        by_cases c12 : (l0_2.length : Int) = (wrap64 (a0_0 * a0_1))
        · rw [if_pos c12] at H
          have c12b0 : ((l0_2.length : Int) == (wrap64 (a0_0 * a0_1))) = true := beq_iff_eq.mpr c12
          have c12b1 : ((l0_2.length : Int) != (wrap64 (a0_0 * a0_1))) = false := bne_eq_false_iff_eq.mpr c12
          clear c12
          have H' := Aside0.mk H
          clear H
          have hcz13_0 : wc.cell? ⟨gb178, 0, none⟩ = some (.int .i64 a0_0) := (blk_cell BK178.out 0).trans rfl
          have hcz13_1 : wc.cell? ⟨gb178, 1, none⟩ = some (.int .i64 a0_1) := (blk_cell BK178.out 1).trans rfl
          have hcz13_2 : wc.cell? ⟨gb178, 2, none⟩ = some (.slice A0_2 l0_2.length c0_2) := (blk_cell BK178.out 2).trans rfl
          have hfz13_0 := blk_frozen BK178.out 0
          have hfz13_1 := blk_frozen BK178.out 1
          have hfz13_2 := blk_frozen BK178.out 2
          go_wp2
          go_loopg [35] kj1 (fun kq v35 w' => ∃ (x35_2 : Int), v35 = .int .i64 x35_2 ∧ Aside0 (matrix_Check.l0 kq l0_2 (l0_2.length : Int) x35_2 = some r) ∧ Aside0 (kq ≤ kj1) ∧ Aside0 (w'.heap[gb178]? = some (.cells #[.int .i64 a0_0, .int .i64 a0_1, (.slice A0_2 l0_2.length c0_2)] 63 (0, 0))) ∧ Aside0 (Below w.heap.size w w'))
          case atStart => exact ⟨(0), (by first | rfl | (simp; done) | (simp [*]; done)), H', ⟨Nat.le_refl _⟩, ⟨by (with_reducible repeat (first | refine blk_drewN ?_ _ | refine blk_drew ?_ | refine blk_alloc ?_ _)); exact BK178.out⟩, ⟨by repeat (first | (with_reducible first | exact HB.out | apply below_alloc | apply pw_below_drewN | apply below_drew1 | refine below_set ?_ GE178.out) | exact HB.out)⟩⟩
          case round =>
            clear H'
            try clear c1
            try clear p2
            try clear c4
            try clear c4b0
            try clear c5
            try clear c6
            try clear c6b0
            try clear p6
            try clear c8
            try clear c8b0
            try clear c11
            try clear c12
            try clear c12b0
            try clear c12b1
            try clear hcz10_0
            try clear hcz10_1
            try clear hcz10_2
            try clear hcz13_0
            try clear hcz13_1
            try clear hcz13_2
            try clear hcz5_0
            try clear hcz5_1
            try clear hcz5_2
            try clear hcz7_0
            try clear hcz7_1
            try clear hcz7_2
            try clear hcz9_0
            try clear hcz9_1
            try clear hcz9_2
            try clear hfz10_0
            try clear hfz10_1
            try clear hfz10_2
            try clear hfz13_0
            try clear hfz13_1
            try clear hfz13_2
            try clear hfz5_0
            try clear hfz5_1
            try clear hfz5_2
            try clear hfz7_0
            try clear hfz7_1
            try clear hfz7_2
            try clear hfz9_0
            try clear hfz9_1
            try clear hfz9_2
            try clear p2
            obtain ⟨x35_2, rfl, HA, HK2, BK178, HB⟩ := hrel
            cases gk with
            | zero => exact absurd HA.out (by simp [matrix_Check.l0])
            | succ k2 =>
              have H := HA.out
              clear HA
              simp only [matrix_Check.l0] at H
              by_cases c14 : x35_2 < (l0_2.length : Int)
              · rw [if_pos c14] at H
                have c14b0 : decide (x35_2 < (l0_2.length : Int)) = true := decide_eq_true c14
                clear c14
                by_cases c15 : 0 ≤ x35_2
                · rw [if_pos c15] at H
                  have c15b0 : decide (0 ≤ x35_2) = true := decide_eq_true c15
                  clear c15
                  by_cases c16 : x35_2 < (l0_2.length : Int)
                  · rw [if_pos c16] at H
                    have c16b0 : decide (x35_2 < (l0_2.length : Int)) = true := decide_eq_true c16
                    clear c16
                    by_cases c17 : (rd l0_2 x35_2) < 0
                    · rw [if_pos c17] at H
                      have c17b0 : decide ((rd l0_2 x35_2) < 0) = true := decide_eq_true c17
                      clear c17
                      obtain rfl := Option.some.inj H
                      have p179 : 0 ≤ (x35_2 : Int) := of_decide_eq_true (by first | (with_reducible assumption) | assumption)
                      have q179 : x35_2 < (l0_2.length : Int) := of_decide_eq_true (by first | (with_reducible assumption) | assumption)
                      obtain ⟨ad179, e179, hx179_0⟩ := Kd.at_int HR0_2.out x35_2 p179 q179
                      cases e179
                      replace hx179_0 := (HB.out.cell (World.block_lt_of_cell? w _ hx179_0)).trans hx179_0
                      replace p179 := eq_true p179
                      replace q179 := eq_true q179
                      go_wp2
                      go_ret
                      exact ⟨by first | rfl | (simp [errW_none, errW_some] <;> rfl) | (simp [*, errW_none, errW_some] <;> rfl), by repeat (first | (with_reducible first | exact HB.out | apply below_alloc | apply pw_below_drewN | apply below_drew1 | refine below_set ?_ GE178.out) | exact HB.out)⟩
                    · rw [if_neg c17] at H
                      have c17b0 : decide ((rd l0_2 x35_2) < 0) = false := decide_eq_false c17
                      clear c17
                      by_cases c18 : (rd l0_2 x35_2) > 15
                      · rw [if_pos c18] at H
                        have c18b0 : decide (15 < (rd l0_2 x35_2)) = true := decide_eq_true c18
                        clear c18
                        obtain rfl := Option.some.inj H
                        have p179 : 0 ≤ (x35_2 : Int) := of_decide_eq_true (by first | (with_reducible assumption) | assumption)
                        have q179 : x35_2 < (l0_2.length : Int) := of_decide_eq_true (by first | (with_reducible assumption) | assumption)
                        obtain ⟨ad179, e179, hx179_0⟩ := Kd.at_int HR0_2.out x35_2 p179 q179
                        cases e179
                        replace hx179_0 := (HB.out.cell (World.block_lt_of_cell? w _ hx179_0)).trans hx179_0
                        replace p179 := eq_true p179
                        replace q179 := eq_true q179
                        go_wp2
                        go_ret
                        exact ⟨by first | rfl | (simp [errW_none, errW_some] <;> rfl) | (simp [*, errW_none, errW_some] <;> rfl), by repeat (first | (with_reducible first | exact HB.out | apply below_alloc | apply pw_below_drewN | apply below_drew1 | refine below_set ?_ GE178.out) | exact HB.out)⟩
                      · rw [if_neg c18] at H
                        have c18b0 : decide (15 < (rd l0_2 x35_2)) = false := decide_eq_false c18
                        clear c18
                        have H' := Aside0.mk H
                        clear H
                        have p179 : 0 ≤ (x35_2 : Int) := of_decide_eq_true (by first | (with_reducible assumption) | assumption)
                        have q179 : x35_2 < (l0_2.length : Int) := of_decide_eq_true (by first | (with_reducible assumption) | assumption)
                        obtain ⟨ad179, e179, hx179_0⟩ := Kd.at_int HR0_2.out x35_2 p179 q179
                        cases e179
                        replace hx179_0 := (HB.out.cell (World.block_lt_of_cell? w _ hx179_0)).trans hx179_0
                        replace p179 := eq_true p179
                        replace q179 := eq_true q179
                        go_wp2
                        go_roundg k2
                        case measure => have := HJ1.out; have := HK2.out; omega
                        case rel => exact ⟨(wrap64 (x35_2 + 1)), (by first | rfl | (simp; done) | (simp [*]; done)), H', ⟨by have := HJ1.out; have := HK2.out; omega⟩, ⟨by (with_reducible repeat (first | refine blk_drewN ?_ _ | refine blk_drew ?_ | refine blk_alloc ?_ _)); exact BK178.out⟩, ⟨by repeat (first | (with_reducible first | exact HB.out | apply below_alloc | apply pw_below_drewN | apply below_drew1 | refine below_set ?_ GE178.out) | exact HB.out)⟩⟩
                  · rw [if_neg c16] at H
                    exact absurd H (by simp)
                · rw [if_neg c15] at H
                  exact absurd H (by simp)
              · rw [if_neg c14] at H
                have c14b0 : decide (x35_2 < (l0_2.length : Int)) = false := decide_eq_false c14
                clear c14
                obtain rfl := Option.some.inj H
                go_wp2
                go_ret
                exact ⟨by first | rfl | (simp [errW_none, errW_some] <;> rfl) | (simp [*, errW_none, errW_some] <;> rfl), by repeat (first | (with_reducible first | exact HB.out | apply below_alloc | apply pw_below_drewN | apply below_drew1 | refine below_set ?_ GE178.out) | exact HB.out)⟩
        · rw [if_neg c12] at H
          have c12b0 : ((l0_2.length : Int) == (wrap64 (a0_0 * a0_1))) = false := beq_eq_false_iff_ne.mpr c12
          have c12b1 : ((l0_2.length : Int) != (wrap64 (a0_0 * a0_1))) = true := bne_iff_ne.mpr c12
          obtain rfl := Option.some.inj H
          have hcz19_0 : wc.cell? ⟨gb178, 0, none⟩ = some (.int .i64 a0_0) := (blk_cell BK178.out 0).trans rfl
          have hcz19_1 : wc.cell? ⟨gb178, 1, none⟩ = some (.int .i64 a0_1) := (blk_cell BK178.out 1).trans rfl
          have hcz19_2 : wc.cell? ⟨gb178, 2, none⟩ = some (.slice A0_2 l0_2.length c0_2) := (blk_cell BK178.out 2).trans rfl
          have hfz19_0 := blk_frozen BK178.out 0
          have hfz19_1 := blk_frozen BK178.out 1
          have hfz19_2 := blk_frozen BK178.out 2
          go_wp2
          go_ret
          exact ⟨by first | rfl | (simp [errW_none, errW_some] <;> rfl) | (simp [*, errW_none, errW_some] <;> rfl), by repeat (first | (with_reducible first | exact HB.out | apply below_alloc | apply pw_below_drewN | apply below_drew1 | refine below_set ?_ GE178.out) | exact HB.out)⟩

end Go.Proofs.Ytgmadofbelhmeaa.L
end
section
/- slices.Clone at numbers: a new row of the same numbers. -/
namespace Go.Proofs.Ytgmadofbelhmeaa.L
open Go.RowKit Go.Proofs.YtgmadofbelhmeaaW.PrintWords Go.Proofs.YtgmadofbelhmeaaW.PrintLast Go.Proofs.YtgmadofbelhmeaaW.PrintMore
set_option linter.unusedVariables false
set_option linter.unusedSimpArgs false

def slices_Clone_int_int.f (l0 : List Int) : Option (List Int) := if l0.length ≤ 17592186044415 then some l0 else none
theorem Kd_int_KM {w W : World} {base : Nat} {ok : Nat → Prop} {x : Int} {cs : List Value} (h : (Kd.int .i64).K w x cs) : (Kd.int .i64).M W base ok x cs := h
set_option maxHeartbeats 1000000 in
set_option maxRecDepth 100000 in
theorem slices_Clone_int_int.calls (A0 : Option Addr) (c0 : Nat) (l0 : List Int) (r : List Int) (w : World) (hr0 : Kd.C (Kd.int .i64) w A0 l0.length l0) (hc0 : l0.length ≤ c0) (h : slices_Clone_int_int.f l0 = some r) :
    Calls Try.prog 82 #[.slice A0 l0.length c0] w fun e w' => ∃ v0_ : Value, e = .returned (v0_) ∧ Kd.R (Kd.int .i64) 3 w' w.heap.size (fun _ => True) v0_ r ∧ Below w.heap.size w w' := by
  have hl : l0.length ≤ 17592186044415 := by
    unfold slices_Clone_int_int.f at h
    split at h
    · assumption
    · cases h
  have hr : l0 = r := by
    unfold slices_Clone_int_int.f at h
    rw [if_pos hl] at h
    exact Option.some.inj h
  subst hr
  clear h
  have q22 : ∀ (w : World) (a : Option Addr) (n c n' c' : Nat), (binOp .eql 22 (.slice a n c) (.slice none n' c')).run Try.prog w = .ok (.bool a.isNone) w := fun w a n c n' c' => Lib.run_eql_slice_nil w _ _ a n c n' c' Try.underlying22
  have HR0 := Aside0.mk hr0
  have HB := Aside0.mk (Below.refl w.heap.size w)
  clear hr0
  cases A0 with
  | none =>
    have h0 : l0.length = 0 := by
      rcases Nat.eq_zero_or_pos l0.length with h0 | h0
      · exact h0
      · obtain ⟨ad, h, _⟩ := HR0.out.2.2 h0
        cases h
    obtain rfl : l0 = [] := List.eq_nil_of_length_eq_zero h0
    clear h0
    go_enter Try.func82, Try.ntmps82
    go_wp2
    go_ret
    exact ⟨_, rfl, Kd.R_nil _ _ _ _ _, HB.out⟩
  | some ad =>
    go_enter Try.func82, Try.ntmps82
    go_wp2_with (at_builtin; refine Kd.R_append_rows (Kd.int .i64) (Rr := (Kd.int .i64).K w) (w0 := w) w.heap.size (by rfl) (.tmp 5) (.tmp 6) 22 3 (.int .i64 0) 8 rfl Try.underlying22 info3 rfl (by decide) (by omega) _ [] l0 (some ad) l0.length c0 (fun _ => True) (fun _ => False) rfl rfl ?aO ?aR (fun _ _ h => (Kd_int_KM h)) (fun _ h => h.elim) (fun _ _ => trivial) ?aB ?aS ?aL ?_)
    case aO => exact ⟨fun _ _ => trivial, [], World.ownsRow_made w #[] 0 (Nat.le_refl _) (Nat.zero_le _) (by simp), Reps.none _ _⟩
    case aR => exact Kd.C_below HR0.out (below_alloc (Below.refl _ _) _)
    case aB => exact below_alloc (Below.refl _ _) _
    case aS => simp
    case aL => simp only [List.length_nil]; omega
    intro v1 w1 ho hb hg hat
    go_wp2
    go_ret
    exact ⟨_, rfl, ho, hb⟩
end Go.Proofs.Ytgmadofbelhmeaa.L
end
