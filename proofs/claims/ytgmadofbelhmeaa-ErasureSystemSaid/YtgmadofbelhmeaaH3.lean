/- Texts of this claim, put together by a small program of the session's own: F56, MInvA, MInv, MClone37, F38, MDecA. -/
import Derived.Test.YtgmadofbelhmeaaH0
import Derived.Test.YtgmadofbelhmeaaH2
import Derived.Deep.RegionLaw
import Derived.Lib.SliceRun
import Derived.Test.YtgmadofbelhmeaaH1
section
-- Printed for this claim by a small program of the session's own, drv.py, round the kit's print.py. Lean checks it.
namespace Go.Proofs.Ytgmadofbelhmeaa.L
open Go.RowKit Go.Proofs.YtgmadofbelhmeaaW.PrintWords Go.Proofs.YtgmadofbelhmeaaW.PrintLast Go.Proofs.YtgmadofbelhmeaaW.PrintMore
attribute [local go_sem] max2_int min2_int max_two min_two max_three min_three max_four min_four   -- for this text's walks alone
set_option linter.unusedVariables false
set_option linter.unusedSimpArgs false

/-! ### matrix_rows: function 56 -/
def matrix_rows.l0 : Nat → List (List Int) → Int → Int → Int → Int → List Int → Option ((List (List Int)))
  | 0, _, _, _, _, _, _ => none
  | k + 1, x3, x6, x7, x190000, x190001, x190002 => if x7 < x6 then (if 0 ≤ (wrap64 (x7 * x190001)) then (if (wrap64 (x7 * x190001)) ≤ (wrap64 ((wrap64 (x7 + 1)) * x190001)) then (if (wrap64 ((wrap64 (x7 + 1)) * x190001)) ≤ (x190002.length : Int) then ((slices_Clone_int_int.f ((x190002.take ((wrap64 ((wrap64 (x7 + 1)) * x190001)) : Int).toNat).drop ((wrap64 (x7 * x190001)) : Int).toNat)).bind fun t191 => (if x3.length < 5864062014805 then (matrix_rows.l0 k (x3 ++ [t191]) x6 (wrap64 (x7 + 1)) x190000 x190001 x190002) else (none))) else (none)) else (none)) else (none)) else (some x3)
def matrix_rows.f (k : Nat) (a0_0 : Int) (a0_1 : Int) (l0_2 : List Int) : Option ((List (List Int))) := matrix_rows.l0 k ([] : List (List Int)) a0_0 0 a0_0 a0_1 l0_2
theorem matrix_rows.mono_l : ∀ k, (∀ y0 y1 y2 y3 y4 y5, LeO (matrix_rows.l0 k y0 y1 y2 y3 y4 y5) (matrix_rows.l0 (k + 1) y0 y1 y2 y3 y4 y5))
  | 0 => fun _ _ _ _ _ _ r h => by simp [matrix_rows.l0] at h
  | k + 1 => by
    have ih0 := matrix_rows.mono_l k
    · intro y0 y1 y2 y3 y4 y5
      unfold matrix_rows.l0
      repeat' first
      | (with_reducible exact ih0 _ _ _ _ _ _)
      | (with_reducible exact LeO.refl _)
      | (with_reducible exact LeO.none _)
      | (with_reducible refine LeO.ite ?_ ?_)
      | (with_reducible refine LeO.bind ?_ (fun _ => ?_))
      | exact ih0 _ _ _ _ _ _
      | exact LeO.none _
      | refine LeO.ite ?_ ?_
      | refine LeO.bind ?_ (fun _ => ?_)
theorem matrix_rows.mono : ∀ a0 a1 a2 k, LeO (matrix_rows.f k a0 a1 a2) (matrix_rows.f (k + 1) a0 a1 a2) := by
  intro a0 a1 a2 k
  have ih0 := matrix_rows.mono_l k
  unfold matrix_rows.f
  repeat' first
      | (with_reducible exact ih0 _ _ _ _ _ _)
      | (with_reducible exact LeO.refl _)
      | (with_reducible exact LeO.none _)
      | (with_reducible refine LeO.ite ?_ ?_)
      | (with_reducible refine LeO.bind ?_ (fun _ => ?_))
      | exact ih0 _ _ _ _ _ _
      | exact LeO.none _
      | refine LeO.ite ?_ ?_
      | refine LeO.bind ?_ (fun _ => ?_)
set_option maxHeartbeats 8000000 in
set_option maxRecDepth 100000 in
theorem matrix_rows.calls (k : Nat) (a0_0 : Int) (a0_1 : Int) (A0_2 : Option Addr) (c0_2 : Nat) (l0_2 : List Int) (r : List (List Int)) (w : World) (hr0_2 : Kd.C (Kd.int .i64) w A0_2 l0_2.length l0_2) (hc0_2 : l0_2.length ≤ c0_2) (h : matrix_rows.f k a0_0 a0_1 l0_2 = some r) :
    Calls Try.prog 56 #[.agg #[.int .i64 a0_0, .int .i64 a0_1, .slice A0_2 l0_2.length c0_2]] w fun e w' => ∃ v0_ : Value, e = .returned (v0_) ∧ Kd.S (Kd.slice 3 (Kd.int .i64)) 22 w' w.heap.size (fun _ => True) v0_ r ∧ Below w.heap.size w w' := by
  have hu63 := Try.underlying63
  have HR0_2 := Aside0.mk hr0_2
  have HC0_2 := Aside0.mk hc0_2
  clear hr0_2 hc0_2
  have HB := Aside0.mk (Below.refl w.heap.size w)
  have H : (matrix_rows.l0 k ([] : List (List Int)) a0_0 0 a0_0 a0_1 l0_2) = some r := h
  clear h
  have H' := Aside0.mk H
  clear H
  go_enter Try.func56, Try.ntmps56
  go_wp2_with (first | ((with_reducible refine gate_dst (N := 1) rfl ?_); refine box_event ?hg (N := 1) ?hd (cs := #[.int .i64 a0_0, .int .i64 a0_1, .slice A0_2 l0_2.length c0_2]) (t := 63) ?hr ?_; (case hd => rfl); (case hg => rfl); (case hr => first | (go_simp; done) | (go_simp; rfl)); intro gb189 hg w2 hbox hb; have n0_ := Aside0.mk (below_step (by repeat (first | (with_reducible first | exact HB.out | apply below_alloc | apply pw_below_drewN | apply below_drew1) | exact HB.out)) hb); have n1_ := Aside0.mk (hbox); have n2_ := Aside0.mk ((by rw [hg]; exact (below_size (by repeat (first | (with_reducible first | exact HB.out | apply below_alloc | apply pw_below_drewN | apply below_drew1) | exact HB.out))) : w.heap.size ≤ gb189)); have n3_ := Aside0.mk ((by rw [hg]; exact (below_size (by repeat (first | (with_reducible first | exact HB.out | apply below_alloc | apply pw_below_drewN | apply below_drew1) | exact HB.out))) : w.heap.size ≤ gb189)); clear HB; have HB := n0_; have BK189 := n1_; have GW189 := n2_; have GE189 := n3_; clear n0_ n1_ n2_ n3_; clear hb hbox hg; have hcz3_0 : w2.cell? ⟨gb189, 0, none⟩ = some (.int .i64 a0_0) := (blk_cell BK189.out 0).trans rfl; have hcz3_1 : w2.cell? ⟨gb189, 1, none⟩ = some (.int .i64 a0_1) := (blk_cell BK189.out 1).trans rfl; have hcz3_2 : w2.cell? ⟨gb189, 2, none⟩ = some (.slice A0_2 l0_2.length c0_2) := (blk_cell BK189.out 2).trans rfl; have hfz3_0 := blk_frozen BK189.out 0; have hfz3_1 := blk_frozen BK189.out 1; have hfz3_2 := blk_frozen BK189.out 2))
  go_loopg [3, 7] k (fun kq v3 v7 w' => ∃ (x3_1 : List (List Int)) (x7_1 : Int), v7 = .int .i64 x7_1 ∧ Aside0 (matrix_rows.l0 kq x3_1 a0_0 x7_1 a0_0 a0_1 l0_2 = some r) ∧ Aside0 (kq ≤ k) ∧ Aside0 (Kd.S (Kd.slice 3 (Kd.int .i64)) 22 w' w.heap.size (fun _ => True) v3 x3_1) ∧ Aside0 (w'.heap[gb189]? = some (.cells #[.int .i64 a0_0, .int .i64 a0_1, (.slice A0_2 l0_2.length c0_2)] 63 (0, 0))) ∧ Aside0 (Below w.heap.size w w'))
  case atStart => exact ⟨(([] : List (List Int))), (0), (by first | rfl | (simp; done) | (simp [*]; done)), H', ⟨Nat.le_refl _⟩, ⟨by first | exact Kd.S_nil _ _ _ _ _ | exact Kd.N_nil _ _ _ _ _ | exact Kd.V_nil _ _ _ _ _ | exact Kd.Q_nil _ _ _ _ _ | exact Kd.R_nil _ _ _ _ _⟩, ⟨by (with_reducible repeat (first | refine blk_drewN ?_ _ | refine blk_drew ?_ | refine blk_alloc ?_ _)); exact BK189.out⟩, ⟨by repeat (first | (with_reducible first | exact HB.out | apply below_alloc | apply pw_below_drewN | apply below_drew1 | refine below_set ?_ GE189.out) | exact HB.out)⟩⟩
  case round =>
    clear H'
    try clear p2
    try clear hcz3_0
    try clear hcz3_1
    try clear hcz3_2
    try clear hfz3_0
    try clear hfz3_1
    try clear hfz3_2
    obtain ⟨x3_1, x7_1, rfl, HA, HK1, HO_3, BK189, HB⟩ := hrel
    cases gk with
    | zero => exact absurd HA.out (by simp [matrix_rows.l0])
    | succ k1 =>
      have H := HA.out
      clear HA
      simp only [matrix_rows.l0] at H
      by_cases c4 : x7_1 < a0_0
      · rw [if_pos c4] at H
        have c4b0 : decide (x7_1 < a0_0) = true := decide_eq_true c4
        clear c4
        obtain ⟨ji5, hji5⟩ : ∃ j_ : Int, (wrap64 (x7_1 * a0_1)) = j_ := ⟨_, rfl⟩
        replace H : (if 0 ≤ (ji5) then (if (ji5) ≤ (wrap64 ((wrap64 (x7_1 + 1)) * a0_1)) then (if (wrap64 ((wrap64 (x7_1 + 1)) * a0_1)) ≤ (l0_2.length : Int) then ((slices_Clone_int_int.f ((l0_2.take ((wrap64 ((wrap64 (x7_1 + 1)) * a0_1)) : Int).toNat).drop ((ji5) : Int).toNat)).bind fun t191 => (if x3_1.length < 5864062014805 then (matrix_rows.l0 k1 (x3_1 ++ [t191]) a0_0 (wrap64 (x7_1 + 1)) a0_0 a0_1 l0_2) else (none))) else (none)) else (none)) else (none)) = some r := by first | (rw [hji5] at H; exact H) | (simp only [hji5] at H ⊢; exact H)
        have hji5w : (IntKind.i64.wrap (x7_1 * a0_1)) = ji5 := (i64_w _).trans hji5
        by_cases c6 : 0 ≤ (ji5)
        · rw [if_pos c6] at H
          have c6b0 := eq_true c6
          have c6b1 : decide (0 ≤ (ji5)) = true := decide_eq_true c6
          clear c6
          by_cases c7 : (ji5) ≤ (wrap64 ((wrap64 (x7_1 + 1)) * a0_1))
          · rw [if_pos c7] at H
            have c7b0 := eq_true c7
            have c7b1 : decide ((ji5) ≤ (wrap64 ((wrap64 (x7_1 + 1)) * a0_1))) = true := decide_eq_true c7
            by_cases c8 : (wrap64 ((wrap64 (x7_1 + 1)) * a0_1)) ≤ (l0_2.length : Int)
            · rw [if_pos c8] at H
              have c8b0 := eq_true c8
              have c8b1 : decide ((wrap64 ((wrap64 (x7_1 + 1)) * a0_1)) ≤ (l0_2.length : Int)) = true := decide_eq_true c8
              replace H := Option.bind_eq_some_iff.mp H
              obtain ⟨t191, A90, H⟩ := H
              replace H : (if x3_1.length < 5864062014805 then (matrix_rows.l0 k1 (x3_1 ++ [t191]) a0_0 (wrap64 (x7_1 + 1)) a0_0 a0_1 l0_2) else (none)) = some r := H
              have A9 := Aside0.mk A90
              clear A90
              by_cases c10 : x3_1.length < 5864062014805
              · rw [if_pos c10] at H
                have LMc10 := Aside0.mk c10
                clear c10
                obtain ⟨y194, hy194⟩ : ∃ y_ : List (List Int), y_ = (x3_1 ++ [t191]) := ⟨_, rfl⟩
                replace H : (matrix_rows.l0 k1 y194 a0_0 (wrap64 (x7_1 + 1)) a0_0 a0_1 l0_2) = some r := by first | (rw [hy194]; with_reducible exact H) | (have H2_ := (Option.bind_some _ _).symm.trans H; rw [hy194]; with_reducible exact H2_) | (have H2_ := (Option.bind_some _ _).symm.trans H; with_reducible exact H2_) | with_reducible exact H | (rw [hy194]; exact H) | exact H
                have Ny194 := Aside0.mk hy194
                clear hy194
                have H' := Aside0.mk H
                clear H
                have hcz11_0 : wr.cell? ⟨gb189, 0, none⟩ = some (.int .i64 a0_0) := (blk_cell BK189.out 0).trans rfl
                have hcz11_1 : wr.cell? ⟨gb189, 1, none⟩ = some (.int .i64 a0_1) := (blk_cell BK189.out 1).trans rfl
                have hcz11_2 : wr.cell? ⟨gb189, 2, none⟩ = some (.slice A0_2 l0_2.length c0_2) := (blk_cell BK189.out 2).trans rfl
                have hfz11_0 := blk_frozen BK189.out 0
                have hfz11_1 := blk_frozen BK189.out 1
                have hfz11_2 := blk_frozen BK189.out 2
                obtain ⟨i012, hi012, _, hsz12, _⟩ := info_parts info3
                obtain ⟨A12, hcut12, hA12, hC12⟩ := print_mid_of (P := Try.prog) (Value.int .i64) 0 22 3 .i64 .i64 Try.underlying22 hi012 hsz12 A0_2 c0_2 l0_2 (ji5) (wrap64 ((wrap64 (x7_1 + 1)) * a0_1)) (of_decide_eq_true (by first | (with_reducible assumption) | assumption)) (by first | omega | exact of_decide_eq_true (by first | (with_reducible assumption) | assumption)) (of_decide_eq_true (by first | (with_reducible assumption) | assumption)) HC0_2.out
                have HR190 := Aside0.mk (Kd.C_of_reads (h1 := fun _ => rfl) (hA12 _ (Kd.reads_of_C HR0_2.out)))
                have HC190 := Aside0.mk hC12
                clear hA12 hC12 hi012 hsz12
                go_wp2_with (first | ((with_reducible refine gate_callee (f := 82) rfl ?_); refine goesL_ (some 23) rfl rfl Try.func82 (by kernel_rfl) rfl #[.slice A12 ((l0_2.take ((wrap64 ((wrap64 (x7_1 + 1)) * a0_1)) : Int).toNat).drop ((ji5) : Int).toNat).length (c0_2 - (ji5).toNat)] rfl (by (try simp only [List.map_toArray, List.map_cons, List.map_nil]); first | done | (rw [show ((l0_2.take ((wrap64 ((wrap64 (x7_1 + 1)) * a0_1)) : Int).toNat).drop ((ji5) : Int).toNat).length = ((wrap64 ((wrap64 (x7_1 + 1)) * a0_1)).toNat - (ji5).toNat) from (by rw [List.length_drop, List.length_take]; have h_ : ((wrap64 ((wrap64 (x7_1 + 1)) * a0_1)) : Int) ≤ (l0_2.length : Int) := of_decide_eq_true (by first | (with_reducible assumption) | assumption); omega)] <;> rfl) | (simp only [hji5]; rfl) | rfl | (simp only [List.length_drop, List.length_take]; rfl)) ?_; (with_reducible refine (slices_Clone_int_int.calls _ _ ((l0_2.take ((wrap64 ((wrap64 (x7_1 + 1)) * a0_1)) : Int).toNat).drop ((ji5) : Int).toNat) t191 _ ?side1 ?side2 A9.out).mono ?_); (case side1 => repeat (first | exact (Kd.C_below HR190.out HB.out) | (with_reducible refine Kd.C_alloc ?_ _) | (with_reducible refine Kd.C_drewN ?_ _) | (with_reducible refine Kd.C_drew ?_))); (case side2 => exact HC190.out); rintro e w13 ⟨v192, rfl, ho0, hb⟩; refine ⟨_, rfl, ?_⟩; have n0_ := Aside0.mk (Kd.S_elder' (by (with_reducible repeat (first | apply Kd.S_alloc | apply Kd.S_drewN | apply Kd.S_drew)); exact HO_3.out) (Kd.R_base ho0) hb); have n1_ := Aside0.mk (Kd.R_lower ho0 (below_size (by repeat (first | (with_reducible first | exact HB.out | apply below_alloc | apply pw_below_drewN | apply below_drew1 | refine below_set ?_ GE189.out) | exact HB.out)))); have n2_ := Aside0.mk (blk_below (g := gb189) (o := .cells #[.int .i64 a0_0, .int .i64 a0_1, .slice A0_2 l0_2.length c0_2] 63 (0, 0)) (by (with_reducible repeat (first | refine blk_drewN ?_ _ | refine blk_drew ?_ | refine blk_alloc ?_ _)); exact BK189.out) hb); have n3_ := Aside0.mk (below_step (by repeat (first | (with_reducible first | exact HB.out | apply below_alloc | apply pw_below_drewN | apply below_drew1 | refine below_set ?_ GE189.out) | exact HB.out)) hb); clear HO_3; clear BK189; clear HB; have HO_3 := n0_; have HO193 := n1_; have BK189 := n2_; have HB := n3_; clear n0_ n1_ n2_ n3_; (try clear hb); (try clear hb2); (try clear hk); (try clear hi); (try clear ho0); obtain ⟨Ao15, co15, eo15⟩ := Kd.R_slice HO193.out; subst eo15) | ((with_reducible refine gate_builtin (b := .append) (xs := #[.tmp 10, .tmp 24]) rfl ?_); at_builtin; refine Kd.S_append (Kd.slice 3 (Kd.int .i64)) (w0 := w) w.heap.size rfl (.tmp 10) (.tmp 24) 96 22 (.slice none 0 0) 24 rfl Try.underlying96 info22 rfl (by decide) (by omega) u3 x3_1 t191 [.slice Ao15 t191.length co15] (fun _ => True) (fun k_ => some k_ = (.slice Ao15 t191.length co15 : Value).ownBlock) rfl rfl ?aP (fun k_ hk_ => ((Kd.R_mono (ok' := fun k_ => ((fun _ => True)) k_ ∧ some k_ ≠ (u3 : Value).ownBlock) (Kd.R_apart' (HO193.out) (Kd.S_typed HO_3.out) (by decide)) (fun k_ hk => ⟨trivial, hk.2⟩))).1 k_ hk_.symm) ?aF ?aO ?aB ?aS ?aL ?_; (case aP => exact Kd.M_row (Kd.R_mono (Kd.R_tight rfl (Kd.R_mono (ok' := fun k_ => ((fun _ => True)) k_ ∧ some k_ ≠ (u3 : Value).ownBlock) (Kd.R_apart' (HO193.out) (Kd.S_typed HO_3.out) (by decide)) (fun k_ hk => ⟨trivial, hk.2⟩))) (fun _ h_ => h_))); (case aB => exact (by repeat (first | (with_reducible first | exact HB.out | apply below_alloc | apply pw_below_drewN | apply below_drew1 | refine below_set ?_ GE189.out) | exact HB.out))); (case aF => exact (fun _ _ => trivial)); (case aO => exact (by (with_reducible repeat (first | apply Kd.S_alloc | apply Kd.S_drewN | apply Kd.S_drew)); exact Kd.S_mono HO_3.out (fun k_ hk => ⟨trivial, fun e_ => hk.2 e_⟩))); (case aS => exact (below_size (by repeat (first | (with_reducible first | exact HB.out | apply below_alloc | apply pw_below_drewN | apply below_drew1 | refine below_set ?_ GE189.out) | exact HB.out)))); (case aL => have := LMc10.out; omega); intro v195 w14 ho hb hg hat; rw [← Ny194.out] at ho; have n0_ := Aside0.mk (blk_grown (g := gb189) (o := .cells #[.int .i64 a0_0, .int .i64 a0_1, .slice A0_2 l0_2.length c0_2] 63 (0, 0)) (by (with_reducible repeat (first | refine blk_drewN ?_ _ | refine blk_drew ?_ | refine blk_alloc ?_ _)); exact BK189.out) hg (Kd.S_ne HO_3.out BK189.out (by decide))); have n1_ := Aside0.mk (hb); have n2_ := Aside0.mk (ho); clear BK189; clear HB; clear HO_3; clear HO193; have BK189 := n0_; have HB := n1_; have HO196 := n2_; clear n0_ n1_ n2_; clear ho hb hg hat))
                go_roundg k1
                case measure => have := HK1.out; omega
                case rel => exact ⟨(y194), (wrap64 (x7_1 + 1)), (by first | rfl | (simp; done) | (simp [*]; done)), H', ⟨by have := HK1.out; omega⟩, ⟨by (with_reducible repeat (first | apply Kd.S_alloc | apply Kd.S_drewN | apply Kd.S_drew)); exact HO196.out⟩, ⟨by (with_reducible repeat (first | refine blk_drewN ?_ _ | refine blk_drew ?_ | refine blk_alloc ?_ _)); exact BK189.out⟩, ⟨by repeat (first | (with_reducible first | exact HB.out | apply below_alloc | apply pw_below_drewN | apply below_drew1 | refine below_set ?_ GE189.out) | exact HB.out)⟩⟩
              · rw [if_neg c10] at H
                exact absurd H (by simp)
            · rw [if_neg c8] at H
              exact absurd H (by simp)
          · rw [if_neg c7] at H
            exact absurd H (by simp)
        · rw [if_neg c6] at H
          exact absurd H (by simp)
      · rw [if_neg c4] at H
        have c4b0 : decide (x7_1 < a0_0) = false := decide_eq_false c4
        clear c4
        obtain rfl := Option.some.inj H
        go_wp2
        go_ret
        exact ⟨_, by first | rfl | (simp [errW_none, errW_some] <;> rfl) | (simp [*, errW_none, errW_some] <;> rfl), by (with_reducible repeat (first | apply Kd.S_alloc | apply Kd.S_drewN | apply Kd.S_drew)); exact HO_3.out, by repeat (first | (with_reducible first | exact HB.out | apply below_alloc | apply pw_below_drewN | apply below_drew1 | refine below_set ?_ GE189.out) | exact HB.out)⟩

end Go.Proofs.Ytgmadofbelhmeaa.L
end
section
/- matrix.Inverse: the plain part, and how rows lie in memory. -/
namespace Go.Proofs.Ytgmadofbelhmeaa.L
open Go.RowKit Go.Proofs.YtgmadofbelhmeaaW.PrintWords Go.Proofs.YtgmadofbelhmeaaW.PrintLast Go.Proofs.YtgmadofbelhmeaaW.PrintMore
set_option linter.unusedVariables false
set_option linter.unusedSimpArgs false

theorem w64 {x : Int} (h0 : -9223372036854775808 ≤ x) (h1 : x ≤ 9223372036854775807) : wrap64 x = x := IntWalk.wrap64_in _ ⟨h0, h1⟩
def ElL (l : List Int) : Prop := ∀ x, x ∈ l → El x
instance (a : Int) : Decidable (El a) := by unfold El; exact inferInstance
instance (l : List Int) : Decidable (ElL l) := by unfold ElL; exact inferInstance
theorem ElL.at_ {l : List Int} (h : ElL l) {i : Int} (h0 : 0 ≤ i) (h1 : i < l.length) : El (rd l i) := by
  unfold rd
  rw [List.getD_eq_getElem?_getD, List.getElem?_eq_getElem (show i.toNat < l.length by omega)]
  exact h _ (List.getElem_mem _)
theorem check_loop {l : List Int} (h : ElL l) (hl : l.length ≤ 1000) (d : Nat) : ∀ (k : Nat) (x : Int), 0 ≤ x → x + d = l.length → d < k → matrix_Check.l0 k l (l.length : Int) x = some 0 := by
  induction d with
  | zero =>
    intro k x h0 h1 hk
    obtain ⟨k, rfl⟩ : ∃ m, k = m + 1 := ⟨k - 1, by omega⟩
    simp only [matrix_Check.l0]
    rw [if_neg (by omega)]
  | succ d ih =>
    intro k x h0 h1 hk
    obtain ⟨k, rfl⟩ : ∃ m, k = m + 1 := ⟨k - 1, by omega⟩
    have hlt : x < (l.length : Int) := by omega
    have he := h.at_ h0 hlt
    unfold El at he
    simp only [matrix_Check.l0]
    rw [if_pos hlt, if_pos h0, if_pos hlt, if_neg (by omega), if_neg (by omega), w64 (by omega) (by omega)]
    exact ih k (x + 1) (by omega) (by omega) (by omega)
theorem sq_le {n : Int} (h1 : 1 ≤ n) (h2 : n ≤ 16) {m : Nat} (h : (m : Int) = n * n) : m ≤ 256 := by
  have h3 : n * n ≤ 16 * 16 := Int.mul_le_mul h2 h2 (by omega) (by omega)
  omega
theorem check_ok {n : Int} {l : List Int} (h1 : 1 ≤ n) (h2 : n ≤ 16) (hl : (l.length : Int) = n * n) (h : ElL l) : matrix_Check.f 300 n n l = some 0 := by
  have hb := sq_le h1 h2 hl
  unfold matrix_Check.f
  rw [if_neg (by omega), if_neg (by omega), if_neg (by omega)]
  have e : decide (n > 16) = false := decide_eq_false (by omega)
  rw [e]
  show matrix_Check.j0 (299 + 1) _ _ _ _ = _
  simp only [matrix_Check.j0]
  rw [if_neg (by decide), w64 (by omega) (by omega), if_pos hl]
  exact check_loop h (by omega) l.length 299 0 (by omega) (by omega) (by omega)
/-- The i-th row of a square matrix. -/
def cut (l : List Int) (n i : Nat) : List Int := (l.take ((i + 1) * n)).drop (i * n)
theorem cut_length {l : List Int} {n i : Nat} (hl : l.length = n * n) (hi : i < n) : (cut l n i).length = n := by
  unfold cut
  have h1 : (i + 1) * n ≤ n * n := Nat.mul_le_mul_right _ hi
  rw [List.length_drop, List.length_take, hl, Nat.min_eq_left h1, Nat.succ_mul]
  omega
theorem rows_loop {l : List Int} {n : Nat} (hn : n ≤ 16) (hn1 : 1 ≤ n) (hl : l.length = n * n) (d : Nat) : ∀ (k i : Nat), i + d = n → d < k →
    matrix_rows.l0 k ((List.range i).map (cut l n)) (n : Int) (i : Int) (n : Int) (n : Int) l = some ((List.range n).map (cut l n)) := by
  have hb : n * n ≤ 16 * 16 := Nat.mul_le_mul hn hn
  induction d with
  | zero =>
    intro k i h1 hk
    obtain ⟨k, rfl⟩ : ∃ m, k = m + 1 := ⟨k - 1, by omega⟩
    obtain rfl : i = n := by omega
    simp only [matrix_rows.l0]
    rw [if_neg (by omega)]
  | succ d ih =>
    intro k i h1 hk
    obtain ⟨k, rfl⟩ : ∃ m, k = m + 1 := ⟨k - 1, by omega⟩
    have hi : i < n := by omega
    have e1 : (i : Int) * (n : Int) = ((i * n : Nat) : Int) := by rw [Int.natCast_mul]
    have e2 : ((i : Int) + 1) * (n : Int) = (((i + 1) * n : Nat) : Int) := by rw [Int.natCast_mul]; rfl
    have h2 : (i + 1) * n ≤ n * n := Nat.mul_le_mul_right _ hi
    have h3 : (i + 1) * n = i * n + n := Nat.succ_mul _ _
    simp only [matrix_rows.l0]
    rw [w64 (x := (i : Int) + 1) (by omega) (by omega), e1, e2, w64 (x := ((i * n : Nat) : Int)) (by omega) (by omega), w64 (x := (((i + 1) * n : Nat) : Int)) (by omega) (by omega)]
    rw [if_pos (by omega), if_pos (by omega), if_pos (by omega), if_pos (by omega)]
    have hc : (l.take ((((i + 1) * n : Nat) : Int)).toNat).drop (((i * n : Nat) : Int)).toNat = cut l n i := rfl
    rw [hc]
    unfold slices_Clone_int_int.f
    rw [if_pos (by rw [cut_length hl hi]; omega), Option.bind_some, if_pos (by simp; omega)]
    have e3 : (List.range i).map (cut l n) ++ [cut l n i] = (List.range (i + 1)).map (cut l n) := by rw [List.range_succ, List.map_append]; rfl
    rw [e3]
    exact ih k (i + 1) (by omega) (by omega)
theorem rows_ok {n : Nat} {l : List Int} (h1 : 1 ≤ n) (h2 : n ≤ 16) (hl : l.length = n * n) : matrix_rows.f 20 n n l = some ((List.range n).map (cut l n)) :=
  rows_loop h2 h1 hl n 20 0 (by omega) (by omega)
theorem row_map (f : Nat → List Int) (n i : Nat) (h : i < n) : row ((List.range n).map f) i = f i := by
  unfold row
  rw [List.getD_eq_getElem?_getD, List.getElem?_map, List.getElem?_range h]
  rfl

/-! ### rows that were made, as a matrix in memory -/
theorem S_mat {w : World} {base : Nat} {v : Value} {xs : List (List Int)} (h : Kd.S (Kd.slice 3 (Kd.int .i64)) 22 w base (fun _ => True) v xs) (hne : 0 < xs.length) (hr : ∀ i, i < xs.length → 0 < (row xs i).length) :
    ∃ L cap hs, v = .slice (some ⟨L, 0, none⟩) xs.length cap ∧ xs.length ≤ cap ∧ Mat w L hs xs ∧ base ≤ L ∧ ∀ i, i < xs.length → base ≤ bk hs i := by
  obtain ⟨f, h0, inner, ho, hrep⟩ := h
  rw [List.length_zipIdx] at ho
  obtain ⟨hlen, ho⟩ := ho
  rcases ho with ⟨rfl, hz⟩ | ⟨L, cap, cur, rfl, hL, hheap, hc, hmax, hsz, htake⟩
  · omega
  · have one : ∀ i, i < xs.length → ∃ g c R, inner[i]? = some (.slice (some ⟨g, 0, none⟩) (row xs i).length c) ∧ ((row xs i).length ≤ c ∧ c ≤ maxLen) ∧ base ≤ g ∧ f g = i ∧ w.heap[g]? = some (.cells R 3 (0, 0)) ∧ R.size = c ∧ ∀ j, j < (row xs i).length → R[j]? = some (.int .i64 ((row xs i).getD j 0)) := by
      intro i hi
      have hx : xs[i]? = some (row xs i) := by unfold row; rw [List.getD_eq_getElem?_getD, List.getElem?_eq_getElem hi]; rfl
      obtain ⟨vi, hci, hRi⟩ := hrep.2 i (row xs i, i) (Kd.zip_at hx)
      obtain ⟨hok, inn, hoi, hri⟩ := hRi
      have hi2 : inner[i]? = some vi := by
        have h1 : ((inner.drop (i * 1)).take 1)[0]? = some vi := by
          have : (inner.drop (i * 1)).take 1 = [vi] := hci
          rw [this]
          rfl
        rw [Nat.mul_one, List.getElem?_take_of_lt (by omega), List.getElem?_drop, Nat.add_zero] at h1
        exact h1
      obtain ⟨hl2, hoi⟩ := hoi
      have hpos := hr i hi
      rcases hoi with ⟨rfl, hz⟩ | ⟨g, c, R, rfl, hg, hheap2, hc2, hmax2, hsz2, htake2⟩
      · have hz2 : (row xs i).length = 0 := hz
        omega
      · refine ⟨g, c, R, hi2, ⟨hc2, hmax2⟩, hg, (hok g rfl).2, hheap2, by rw [hsz2]; exact Nat.mul_one _, fun j hj => ?_⟩
        have h2 := hri.2 j ((row xs i).getD j 0) (by rw [List.getD_eq_getElem?_getD, List.getElem?_eq_getElem hj]; rfl)
        have h3 : (inn.drop (j * 1)).take 1 = [.int .i64 ((row xs i).getD j 0)] := h2
        have h4 : ((inn.drop (j * 1)).take 1)[0]? = some (.int .i64 ((row xs i).getD j 0)) := by rw [h3]; rfl
        rw [Nat.mul_one, List.getElem?_take_of_lt (by omega), List.getElem?_drop, Nat.add_zero, ← htake2] at h4
        rw [List.getElem?_take] at h4
        split at h4
        · rw [← Array.getElem?_toList]; exact h4
        · cases h4
    have hcell : ∀ (i : Nat), cur.toList.take (xs.length * 1) = inner → ∀ (u : Value), inner[i]? = some u → cur[i]? = some u := by
      intro i e u hu
      rw [← e, List.getElem?_take] at hu
      split at hu
      · rw [← Array.getElem?_toList]; exact hu
      · cases hu
    let pick : Nat → Nat × Nat := fun i => if hi : i < xs.length then (Classical.choose (one i hi), Classical.choose (Classical.choose_spec (one i hi))) else (0, 0)
    let hs : List (Nat × Nat) := (List.range xs.length).map pick
    have hget : ∀ i, i < xs.length → hs.getD i (0, 0) = pick i := by
      intro i hi
      show ((List.range xs.length).map pick).getD i (0, 0) = pick i
      rw [List.getD_eq_getElem?_getD, List.getElem?_map, List.getElem?_range hi]
      rfl
    have all : ∀ i, i < xs.length → ∃ R, inner[i]? = some (.slice (some ⟨bk hs i, 0, none⟩) (row xs i).length (cp hs i)) ∧ ((row xs i).length ≤ cp hs i ∧ cp hs i ≤ maxLen) ∧ base ≤ bk hs i ∧ f (bk hs i) = i ∧ w.heap[bk hs i]? = some (.cells R 3 (0, 0)) ∧ R.size = cp hs i ∧ ∀ j, j < (row xs i).length → R[j]? = some (.int .i64 ((row xs i).getD j 0)) := by
      intro i hi
      have e1 : bk hs i = Classical.choose (one i hi) := by unfold bk; rw [hget i hi]; show (if hi : i < xs.length then _ else _ : Nat × Nat).1 = _; rw [dif_pos hi]
      have e2 : cp hs i = Classical.choose (Classical.choose_spec (one i hi)) := by unfold cp; rw [hget i hi]; show (if hi : i < xs.length then _ else _ : Nat × Nat).2 = _; rw [dif_pos hi]
      rw [e1, e2]
      exact Classical.choose_spec (Classical.choose_spec (one i hi))
    refine ⟨L, cap, hs, rfl, hc, ⟨⟨cur, hheap, fun i hi => ?_⟩, fun i hi => ?_, fun i hi => ?_, fun i j hi hj e => ?_, by show ((List.range xs.length).map pick).length = _; simp⟩, hL, fun i hi => ?_⟩
    · obtain ⟨R, a1, _⟩ := all i hi
      exact hcell i htake _ a1
    · obtain ⟨R, _, _, _, _, a2, a3, a4⟩ := all i hi
      exact ⟨R, a2, a3, a4⟩
    · obtain ⟨R, _, a2, _⟩ := all i hi
      exact a2
    · obtain ⟨R, _, _, _, a2, _⟩ := all i hi
      obtain ⟨R', _, _, _, a2', _⟩ := all j hj
      rw [← a2, ← a2', e]
    · obtain ⟨R, _, _, a2, _⟩ := all i hi
      exact a2
end Go.Proofs.Ytgmadofbelhmeaa.L
end
section
/- matrix.Inverse at a square matrix of elements: its rows with the unit beside them, reduced. -/
namespace Go.Proofs.Ytgmadofbelhmeaa.L
open Go.RowKit Go.Proofs.YtgmadofbelhmeaaW.PrintWords Go.Proofs.YtgmadofbelhmeaaW.PrintLast Go.Proofs.YtgmadofbelhmeaaW.PrintMore
set_option linter.unusedVariables false
set_option linter.unusedSimpArgs false

/-- The rows 0 to n - 1 of a matrix, those below j with a unit row beside them. -/
def unitRow (n i : Nat) : List Int := (List.replicate n 0).set i 1
def augTo (l : List Int) (n j : Nat) : List (List Int) := (List.range n).map fun i => if i < j then cut l n i ++ unitRow n i else cut l n i
def invRows (l : List Int) (n : Nat) : List (List Int) × Nat := reduceTo (augTo l n n) n
def tails (rows : List (List Int)) (n j : Nat) : List Int := (rows.take j).flatMap fun r => r.drop n
def matrix_Inverse.f (a0_0 a0_1 : Int) (l0_2 : List Int) : Option (Int × Int × List Int × Int) :=
  if 1 ≤ a0_0 ∧ a0_0 ≤ 16 ∧ a0_1 = a0_0 ∧ (l0_2.length : Int) = a0_0 * a0_0 ∧ ElL l0_2 then
    (if (invRows l0_2 a0_0.toNat).2 < a0_0.toNat then some (0, 0, [], 14) else some (a0_0, a0_0, tails (invRows l0_2 a0_0.toNat).1 a0_0.toNat a0_0.toNat, 0))
  else none
theorem augTo_length (l : List Int) (n j : Nat) : (augTo l n j).length = n := by simp [augTo]
theorem augTo_row (l : List Int) (n j i : Nat) (h : i < n) : row (augTo l n j) i = if i < j then cut l n i ++ unitRow n i else cut l n i := row_map _ n i h
theorem augTo_set (l : List Int) (n j : Nat) (h : j < n) : (augTo l n j).set j (cut l n j ++ unitRow n j) = augTo l n (j + 1) := by
  apply list_ext_row
  · rw [List.length_set, augTo_length, augTo_length]
  · intro i hi
    rw [List.length_set, augTo_length] at hi
    rw [row_set _ _ _ _ (by rw [augTo_length]; exact h), augTo_row _ _ _ _ hi, augTo_row _ _ _ _ hi]
    by_cases e : j = i
    · subst e
      rw [if_pos rfl, if_pos (by omega)]
    · rw [if_neg e]
      by_cases h1 : i < j
      · rw [if_pos h1, if_pos (by omega)]
      · rw [if_neg h1, if_neg (by omega)]
theorem augTo_zero (l : List Int) (n : Nat) : augTo l n 0 = (List.range n).map (cut l n) := by
  unfold augTo
  simp only [Nat.not_lt_zero, if_false]
theorem unitRow_length (n i : Nat) : (unitRow n i).length = n := by simp [unitRow]
theorem unitRow_getD (n i j : Nat) (h : j < n) : (unitRow n i).getD j 0 = if i = j then 1 else 0 := by
  unfold unitRow
  rw [List.getD_eq_getElem?_getD, List.getElem?_set, List.length_replicate]
  by_cases e : i = j
  · subst e
    simp [h]
  · rw [if_neg e, if_neg e, List.getElem?_replicate, if_pos h]
    rfl
theorem cut_getD {l : List Int} {n i j : Nat} (hi : i < n) (hj : j < n) : (cut l n i).getD j 0 = l.getD (i * n + j) 0 := by
  unfold cut
  have h3 : (i + 1) * n = i * n + n := Nat.succ_mul _ _
  rw [List.getD_eq_getElem?_getD, List.getElem?_drop, List.getElem?_take, if_pos (by omega), ← List.getD_eq_getElem?_getD]
theorem aug_good {l : List Int} {n : Nat} (hl : l.length = n * n) (he : ElL l) : Good (2 * n) (augTo l n n) := by
  intro i hi
  rw [augTo_length] at hi
  rw [augTo_row _ _ _ _ hi, if_pos hi]
  refine ⟨by rw [List.length_append, cut_length hl hi, unitRow_length]; omega, fun j hj => ?_⟩
  have hc := cut_length hl hi
  by_cases h1 : j < n
  · rw [List.getD_eq_getElem?_getD, List.getElem?_append_left (by omega), ← List.getD_eq_getElem?_getD, cut_getD hi h1]
    have hb : i * n + j < l.length := by
      have : (i + 1) * n ≤ n * n := Nat.mul_le_mul_right _ hi
      rw [Nat.succ_mul] at this
      omega
    rw [List.getD_eq_getElem?_getD, List.getElem?_eq_getElem hb]
    exact he _ (List.getElem_mem _)
  · rw [List.getD_eq_getElem?_getD, List.getElem?_append_right (by omega), ← List.getD_eq_getElem?_getD, hc, unitRow_getD _ _ _ (by omega)]
    split <;> (unfold El; omega)

theorem tails_succ (rows : List (List Int)) (n j : Nat) (h : j < rows.length) : tails rows n (j + 1) = tails rows n j ++ (row rows j).drop n := by
  unfold tails
  rw [List.take_succ_eq_append_getElem h, List.flatMap_append]
  have e : row rows j = rows[j] := by unfold row; rw [List.getD_eq_getElem?_getD, List.getElem?_eq_getElem h]; rfl
  rw [e]
  simp
theorem tails_length {rows : List (List Int)} {n : Nat} (hG : Good (2 * n) rows) (j : Nat) (h : j ≤ rows.length) : (tails rows n j).length = j * n := by
  induction j with
  | zero => simp [tails]
  | succ j ih =>
    have h1 := (hG j h).1
    have h2 := ih (by omega)
    have h3 : (j + 1) * n = j * n + n := Nat.succ_mul _ _
    rw [tails_succ _ _ _ h, List.length_append, List.length_drop]
    omega
theorem tails_le {rows : List (List Int)} {n j : Nat} (hG : Good (2 * n) rows) (hl : rows.length = n) (hn : n ≤ 16) (hj : j < n) : ((tails rows n j).length + (2 * n - n)) * 8 ≤ 140737488355328 := by
  rw [tails_length hG j (by omega)]
  have : j * n ≤ 16 * 16 := Nat.mul_le_mul (by omega) hn
  omega
set_option maxHeartbeats 2000000 in
set_option maxRecDepth 100000 in
theorem matrix_Inverse.calls (a0_0 a0_1 : Int) (A0_2 : Option Addr) (c0_2 : Nat) (l0_2 : List Int) (r1 r2 : Int) (r3 : List Int) (r4 : Int) (w : World) (hr0_2 : Kd.C (Kd.int .i64) w A0_2 l0_2.length l0_2) (hc0_2 : l0_2.length ≤ c0_2) (h : matrix_Inverse.f a0_0 a0_1 l0_2 = some (r1, r2, r3, r4)) :
    Calls Try.prog 39 #[.agg #[.int .i64 a0_0, .int .i64 a0_1, .slice A0_2 l0_2.length c0_2]] w fun e w' => ∃ v2_ : Value, e = .returned (.tuple #[.agg #[.int .i64 r1, .int .i64 r2, v2_], .int .i64 r4]) ∧ Kd.R (Kd.int .i64) 3 w' w.heap.size (fun _ => True) v2_ r3 ∧ Below w.heap.size w w' := by
  unfold matrix_Inverse.f at h
  split at h
  case isFalse => cases h
  rename_i hc
  obtain ⟨g1, g2, rfl, g4, g5⟩ := hc
  obtain ⟨n, rfl⟩ : ∃ n : Nat, a0_1 = (n : Int) := ⟨a0_1.toNat, by omega⟩
  rw [Int.toNat_natCast] at h
  have hn1 : 1 ≤ n := by omega
  have hn2 : n ≤ 16 := by omega
  have hln : l0_2.length = n * n := by
    have : ((l0_2.length : Int)) = ((n * n : Nat) : Int) := by rw [g4, Int.natCast_mul]
    omega
  have H := Aside0.mk h
  have HCK := Aside0.mk (check_ok g1 g2 g4 g5)
  have HRW := Aside0.mk (rows_ok hn1 hn2 hln)
  have HLN := Aside0.mk hln
  have HEL := Aside0.mk g5
  have HR := Aside0.mk hr0_2
  have HC := Aside0.mk hc0_2
  clear h g1 g2 g4 g5 hln hr0_2 hc0_2
  have hu63 := Try.underlying63
  go_enter Try.func39, Try.ntmps39
  go_wp2_with fail
  refine (matrix_Check.calls 300 _ _ _ _ _ _ _ (Kd.C_below HR.out (below_alloc (below_alloc (Below.refl _ _) _) _)) HC.out HCK.out).mono ?_
  rintro e w1 ⟨rfl, hb1⟩
  obtain ⟨k1, k2, HB1⟩ : Aside0 (w1.heap[w.heap.size]? = some (.cells #[.int .i64 n, .int .i64 n, .slice A0_2 l0_2.length c0_2] 63 (0, 0))) ∧ Aside0 (w1.heap[w.heap.size + 1]? = some (.cells #[.int .i64 0, .int .i64 0, .slice none 0 0] 63 (0, 0))) ∧ Aside0 (Below w.heap.size w w1) := by
    have e1 := blk_new w (.cells #[.int .i64 n, .int .i64 n, .slice A0_2 l0_2.length c0_2] 63)
    have e2 := blk_new (w.alloc (.cells #[.int .i64 n, .int .i64 n, .slice A0_2 l0_2.length c0_2] 63)) (.cells #[.int .i64 0, .int .i64 0, .slice none 0 0] 63)
    rw [show (w.alloc (.cells #[.int .i64 n, .int .i64 n, .slice A0_2 l0_2.length c0_2] 63)).heap.size = w.heap.size + 1 by simp] at e2
    have e3 := blk_alloc e1 (.cells #[.int .i64 0, .int .i64 0, .slice none 0 0] 63)
    refine ⟨⟨blk_below e3 (hb1.mono ?_)⟩, ⟨blk_below e2 (hb1.mono ?_)⟩, ⟨(below_alloc (below_alloc (Below.refl _ _) _) _).trans (hb1.mono ?_)⟩⟩ <;> simp
    omega
  clear hb1
  have hn3 : ((n : Int) != (n : Int)) = false := by simp
  have c10 : w1.cell? ⟨w.heap.size, 0, none⟩ = some (.int .i64 n) := (blk_cell k1.out 0).trans rfl
  have c11 : w1.cell? ⟨w.heap.size, 1, none⟩ = some (.int .i64 n) := (blk_cell k1.out 1).trans rfl
  have c12 : w1.cell? ⟨w.heap.size, 2, none⟩ = some (.slice A0_2 l0_2.length c0_2) := (blk_cell k1.out 2).trans rfl
  go_wp2_with fail
  refine (matrix_rows.calls 20 _ _ _ _ _ _ _ (Kd.C_below HR.out (HB1.out)) HC.out HRW.out).mono ?_
  rintro e w2 ⟨v0, rfl, hS, hb2⟩
  obtain ⟨L, cap, hs, rfl, hcap, hM, hL0, hB0⟩ := S_mat hS (by simp; omega) (fun i hi => by
    rw [List.length_map, List.length_range] at hi
    rw [row_map _ _ _ hi, cut_length HLN.out hi]
    omega)
  rw [List.length_map, List.length_range] at hcap hB0 ⊢
  rw [← augTo_zero] at hM
  have K1 := Aside0.mk (blk_below k1.out hb2)
  have K2 := Aside0.mk (blk_below k2.out hb2)
  have hlt1 := blk_lt k2.out
  have HB2 := Aside0.mk (HB1.out.trans (hb2.mono HB1.out.size))
  clear hS hb2 k1 k2 c10 c11 c12 hn3 HB1
  have HM := Aside0.mk hM
  have HLB := Aside0.mk (show w.heap.size + 2 ≤ L ∧ ∀ i, i < n → w.heap.size + 2 ≤ bk hs i from ⟨by omega, fun i hi => by have := hB0 i hi; omega⟩)
  clear hM hL0 hB0 hlt1
  go_wp2_with fail
  clear HCK HRW HR HC
  go_loopw [30] (fun v wr => ∃ (j : Nat) (hs1 : List (Nat × Nat)), v = .int .i64 (j : Int) ∧ j ≤ n ∧ Aside0 (Mat wr L hs1 (augTo l0_2 n j)) ∧ Aside0 (∀ i, i < n → w.heap.size + 2 ≤ bk hs1 i) ∧ Aside0 (wr.heap[w.heap.size + 1]? = some (.cells #[.int .i64 0, .int .i64 0, .slice none 0 0] 63 (0, 0))) ∧ Aside0 (Below w.heap.size w wr)) (fun v _ => n - (intOf v).toNat)
  case atStart => exact ⟨0, hs, rfl, Nat.zero_le _, HM, ⟨HLB.out.2⟩, K2, HB2⟩
  case round =>
    clear HM K1 K2 HB2
    obtain ⟨j, hs1, rfl, hj, HM, HBJ, K2, HB2⟩ := hrel
    by_cases hjn : j < n
    · have hjb : decide ((j : Int) < (n : Int)) = true := decide_eq_true (by omega)
      have hjl : j < (augTo l0_2 n j).length := by rw [augTo_length]; exact hjn
      have hrj : row (augTo l0_2 n j) j = cut l0_2 n j := by rw [augTo_row _ _ _ _ hjn, if_neg (by omega)]
      have hcl : (cut l0_2 n j).length = n := cut_length HLN.out hjn
      have HRJ := Aside0.mk hrj
      have HCL := Aside0.mk hcl
      clear hrj hcl
      go_wp2_with (first
        | ((with_reducible refine gate_dst (N := 34) rfl ?_); refine Kd.R_make (Kd.int .i64) _ 3 rfl (N := 34) rfl 22 _ _ rfl (n : Int) rfl rfl Try.underlying22 (.int .i64 0) 8 info3 rfl (by decide) (by omega) 0 (ok := fun _ => True) (okp := fun _ => True) rfl (fun _ hk => hk) trivial (by omega) (by omega) (Below.refl _ _) (Nat.le_refl _) ?_; intro v1 w3 ho hb hg_ hnew_; obtain ⟨g, co, rfl, hgb, hgl, hgc⟩ := Kd.R_form ho (by simp; omega); clear hg_ hnew_ hgc; rw [show (List.replicate (n : Int).toNat (0 : Int)).length = n by simp] at ho ⊢; rw [show (n : Int).toNat = n by simp] at ho; obtain ⟨hx, hf⟩ := Kd.R_celln 0 ho (j : Int) (by omega) (by omega); have hset := Aside0.mk (Kd.R_putn ho (j : Int) 1); rw [show (j : Int).toNat = j by simp] at hx hf hset; have HM3 := Aside0.mk (HM.out.below hb); have K3 := Aside0.mk (blk_below K2.out hb); have HB3 := Aside0.mk (HB2.out.trans (hb.mono HB2.out.size)); have HM4 := Aside0.mk (HM3.out.far (p := ⟨g, j, none⟩) (by have := HM.out.ltL; show L ≠ g; omega) (fun i hi => by have := HM.out.ltI hi; show bk hs1 i ≠ g; omega) (.int .i64 1)); have hOj := HM4.out.cellO hjl; rw [HRJ.out, HCL.out] at hOj; have HGW := Aside0.mk (show w.heap.size + 2 ≤ g from by have := blk_lt K2.out; omega); have HG := Aside0.mk (show g ≠ L ∧ bk hs1 j ≠ g from ⟨by have := HM.out.ltL; omega, by have := HM.out.ltI hjl; omega⟩); clear ho hb hgl hgb HM K2 HB2)
        | (at_builtin; refine Kd.R_append_rows (Kd.int .i64) (Rr := (Kd.int .i64).K wr) (w0 := w) w.heap.size (by rfl) (.tmp 43) (.tmp 44) 22 3 (.int .i64 0) 8 rfl Try.underlying22 info3 rfl (by decide) (by omega) _ (cut l0_2 n j) (unitRow n j) (some ⟨g, 0, none⟩) n co (fun _ => True) (fun _ => False) rfl rfl ?aO ?aR (fun _ _ h => h) (fun _ h => h.elim) (fun _ _ => trivial) ?aB ?aS ?aL ?_))
      case aO =>
        have hR := HM4.out.rowR hjl (base := w.heap.size) (by have := HBJ.out j hjn; omega)
        rw [HRJ.out, HCL.out] at hR
        exact Kd.R_mono hR (fun _ _ => trivial)
      case aR =>
        have h9 := (Kd.R_reads' hset.out).2.2
        rw [show ((List.replicate n (0 : Int)).set j 1).length = n by simp] at h9
        exact h9
      case aB => exact HB3.out.setCell (by have := HGW.out; show w.heap.size ≤ g; omega) _
      case aS => exact (HB3.out.setCell (by have := HGW.out; show w.heap.size ≤ g; omega) _).size
      case aL => rw [HCL.out]; omega
      intro v2 w5 ho2 hb2 hg2 hat2
      obtain ⟨g2, c2, rfl, hg2a, hg2b, hM5⟩ := HM4.out.putBack hjl (by rw [List.length_append, HCL.out, unitRow_length]; omega) ho2 hg2 (hat2.imp (fun h => h) (fun ⟨b, h1, h2⟩ => ⟨b, h1, by simpa using h2⟩))
      rw [augTo_set _ _ _ hjn] at hM5
      have HM5 := Aside0.mk hM5
      have hblk := (hg2.block L HM4.out.ltL (by intro e; have e2 : L = bk hs1 j := by simpa [Value.ownBlock] using e
                                                exact HM4.out.ne hjl e2.symm))
      have hoc : ∃ C, w5.heap[L]? = some (.cells C 22 (0, 0)) ∧ j < C.size := by
        obtain ⟨C, hC, hcc⟩ := HM4.out.outer
        exact ⟨C, hblk.trans hC, (Array.getElem?_eq_some_iff.1 (hcc j hjl)).1⟩
      obtain ⟨C, hC, hCj⟩ := hoc
      obtain ⟨vo, hvo⟩ : ∃ vo, w5.cell? ⟨L, j, none⟩ = some vo := ⟨_, (blk_cell hC j).trans (Array.getElem?_eq_getElem hCj)⟩
      have hfo : w5.frozen? ⟨L, j, none⟩ = false := blk_frozen hC j
      have K5 : w5.heap[w.heap.size + 1]? = some (.cells #[.int .i64 0, .int .i64 0, .slice none 0 0] 63 (0, 0)) := by
        refine blk_grown (blk_far K3.out (p := ⟨g, j, none⟩) (by have := HGW.out; show w.heap.size + 1 ≠ g; omega) _) hg2 ?_
        intro e
        have e2 : w.heap.size + 1 = bk hs1 j := by simpa [Value.ownBlock] using e
        have := HBJ.out j hjn
        omega
      have K6 := Aside0.mk (blk_far K5 (p := ⟨L, j, none⟩) (by have := HLB.out.1; show w.heap.size + 1 ≠ L; omega) (.slice (some ⟨g2, 0, none⟩) (cut l0_2 n j ++ unitRow n j).length c2))
      have HB6 := Aside0.mk (hb2.setCell (p := ⟨L, j, none⟩) (by have := HLB.out.1; show w.heap.size ≤ L; omega) (.slice (some ⟨g2, 0, none⟩) (cut l0_2 n j ++ unitRow n j).length c2))
      have HBJ6 := Aside0.mk (show ∀ i, i < n → w.heap.size + 2 ≤ bk (hs1.set j (g2, c2)) i from fun i hi => by
        unfold bk
        rw [List.getD_eq_getElem?_getD, List.getElem?_set]
        by_cases e : j = i
        · rw [if_pos e, if_pos (by rw [HM4.out.len]; exact hjl)]
          show w.heap.size + 2 ≤ g2
          rcases hg2b with h1 | h1
          · have := HBJ.out j hjn; omega
          · have h2 := blk_lt (blk_far K3.out (p := ⟨g, j, none⟩) (by have := HGW.out; show w.heap.size + 1 ≠ g; omega) (.int .i64 1)); omega
        · rw [if_neg e, ← List.getD_eq_getElem?_getD]
          exact HBJ.out i hi)
      simp only [List.length_append] at HM5 K6 HB6
      clear ho2 hb2 hg2 hat2 hM5 hblk hC hCj K5 hx hf hset HM3 K3 HB3 HM4 hOj HGW HG hg2a hg2b HRJ HCL hjl
      go_wp2_with fail
      exact ⟨⟨j + 1, _, rfl, by omega, HM5, HBJ6, K6, HB6⟩, by simp [intOf]; omega⟩
    · have hjb : decide ((j : Int) < (n : Int)) = false := decide_eq_false (by omega)
      obtain rfl : n = j := by omega
      have HGD := Aside0.mk (aug_good HLN.out HEL.out)
      go_wp2_with fail
      have hcon := matrix_reduce.calls (fun k => k = L ∨ ∃ i, i < n ∧ k = bk hs1 i) w.heap.size L cap hs1 (augTo l0_2 n n) (2 * n) n w _ HM.out HGD.out (by omega) (by rw [augTo_length]; omega) (by rw [augTo_length]; exact hcap) (by omega) (fun i hi => .inr ⟨i, by rw [augTo_length] at hi; exact hi, rfl⟩) (.inl rfl) (fun k hk => by
        rcases hk with rfl | ⟨i, hi, rfl⟩
        · have := HLB.out.1; omega
        · have := HBJ.out i hi; omega) HB2.out
      rw [augTo_length] at hcon
      refine hcon.mono ?_
      clear hcon
      rintro e w3 ⟨rfl, hs2, hM2, hP2, hB2, hK2⟩
      have K3 := Aside0.mk ((hK2.2 (w.heap.size + 1) (blk_lt K2.out) (by
        rintro (e | ⟨i, hi, e⟩)
        · have := HLB.out.1; omega
        · have := HBJ.out i hi; omega)).trans K2.out)
      have HM2 := Aside0.mk hM2
      have HB3 := Aside0.mk hB2
      have HBL := Aside0.mk (show ∀ i, i < n → w.heap.size + 2 ≤ bk hs2 i from fun i hi => by
        rcases hP2 i hi with e | ⟨q, hq, e⟩
        · have := HLB.out.1; omega
        · have := HBJ.out q hq; omega)
      clear hM2 hB2 hK2 hP2 HM K2 HB2 HBJ
      have HINV := Aside0.mk (reduceTo_inv (n := n) (by omega) HGD.out)
      change Aside0 (Mat w3 L hs2 (invRows l0_2 n).1) at HM2
      have HLI := Aside0.mk (show (invRows l0_2 n).1.length = n by unfold invRows; rw [reduceTo_length, augTo_length])
      change Aside0 (Good (2 * n) (invRows l0_2 n).1 ∧ (invRows l0_2 n).2 ≤ (augTo l0_2 n n).length) at HINV
      obtain ⟨rk, hrk⟩ : ∃ rk, rk = (invRows l0_2 n).2 := ⟨_, rfl⟩
      obtain ⟨RR, hRR⟩ : ∃ RR, RR = (invRows l0_2 n).1 := ⟨_, rfl⟩
      rw [show (reduceTo (augTo l0_2 n n) n).2 = rk from hrk.symm]
      rw [← hrk, ← hRR] at H
      rw [← hRR] at HM2 HLI HINV
      clear hrk hRR
      by_cases hlt : rk < n
      · have h2 := H.out
        rw [if_pos hlt] at h2
        injection h2 with h2
        injection h2 with h21 h2
        injection h2 with h22 h2
        injection h2 with h23 h24
        subst h21 h22 h23 h24
        have hltb : decide ((rk : Int) < (n : Int)) = true := decide_eq_true (by omega)
        clear H
        have c20 : w3.cell? ⟨w.heap.size + 1, 0, none⟩ = some (.int .i64 0) := (blk_cell K3.out 0).trans rfl
        have c21 : w3.cell? ⟨w.heap.size + 1, 1, none⟩ = some (.int .i64 0) := (blk_cell K3.out 1).trans rfl
        have c22 : w3.cell? ⟨w.heap.size + 1, 2, none⟩ = some (.slice none 0 0) := (blk_cell K3.out 2).trans rfl
        have f20 := blk_frozen K3.out 0
        have f21 := blk_frozen K3.out 1
        have f22 := blk_frozen K3.out 2
        go_wp2_with fail
        refine bodyPost_ret (results_ct rfl _ _ (w.heap.size + 1) 63 #[.int .i64 0, .int .i64 0, .slice none 0 0] (0, 0) _ rfl (by refine blk_put (cs := #[.int .i64 0, .int .i64 0, .slice none 0 0]) ?_ 2 _ rfl; refine blk_put (cs := #[.int .i64 0, .int .i64 0, .slice none 0 0]) ?_ 1 _ rfl; refine blk_put (cs := #[.int .i64 0, .int .i64 0, .slice none 0 0]) ?_ 0 _ rfl; exact K3.out) Try.underlying63 rfl (by kernel_rfl)) rfl ?_
        exact ⟨_, rfl, Kd.R_nil _ _ _ _ _, by repeat (first | exact HB3.out | refine below_set ?_ (Nat.le_succ _))⟩
      · have h2 := H.out
        rw [if_neg hlt] at h2
        injection h2 with h2
        injection h2 with h21 h2
        injection h2 with h22 h2
        injection h2 with h23 h24
        subst h21 h22 h23 h24
        have hltb : decide ((rk : Int) < (n : Int)) = false := decide_eq_false (by omega)
        clear H
        go_wp2_with fail
        have hM4 := Aside0.mk (HM2.out.below (below_alloc (Below.refl _ _) (.cells #[.int .i64 n, .int .i64 n, .slice none 0 0] 63)))
        have hK4 := Aside0.mk (blk_alloc K3.out (.cells #[.int .i64 n, .int .i64 n, .slice none 0 0] 63))
        have HB30 := HB3
        have hB4 := Aside0.mk (below_alloc HB3.out (.cells #[.int .i64 n, .int .i64 n, .slice none 0 0] 63))
        have hlt3 := Aside0.mk (show w.heap.size + 2 ≤ w3.heap.size ∧ L < w3.heap.size ∧ ∀ i, i < n → bk hs2 i < w3.heap.size from ⟨by have := blk_lt K3.out; omega, HM2.out.ltL, fun i hi => HM2.out.ltI (by rw [HLI.out]; exact hi)⟩)
        clear hltb hlt
        go_loopw [59] (fun u wr => ∃ (j : Nat) (v : Value), u = .int .i64 (j : Int) ∧ j ≤ n ∧ Aside0 ((Kd.int .i64).R 3 wr w3.heap.size (fun _ => True) v (tails RR n j)) ∧ Aside0 (wr.heap[w3.heap.size]? = some (.cells #[.int .i64 n, .int .i64 n, v] 63 (0, 0))) ∧ Aside0 (wr.heap[w.heap.size + 1]? = some (.cells #[.int .i64 0, .int .i64 0, .slice none 0 0] 63 (0, 0))) ∧ Aside0 (Mat wr L hs2 RR) ∧ Aside0 (Below w.heap.size w wr) ∧ Aside0 (Below w3.heap.size w3 wr)) (fun u _ => n - (intOf u).toNat)
        case atStart => exact ⟨0, .slice none 0 0, rfl, Nat.zero_le _, ⟨Kd.R_nil _ _ _ _ _⟩, ⟨blk_new _ _⟩, hK4, hM4, hB4, ⟨below_alloc (Below.refl _ _) _⟩⟩
        case round =>
          clear HM2 K3 HB3 hM4 hK4 hB4
          obtain ⟨j, v, rfl, hj, HO, KB, K3, HM2, HB3, HBB⟩ := hrel
          by_cases hjn : j < n
          · have hjb : decide ((j : Int) < (n : Int)) = true := decide_eq_true (by omega)
            have hjl : j < RR.length := by rw [HLI.out]; exact hjn
            have hrl : (row RR j).length = 2 * n := (HINV.out.1 j hjl).1
            have hO := HM2.out.cellO hjl
            rw [hrl] at hO
            have hcp : n < cp hs2 j := by have := (HM2.out.caps j hjl).1; omega
            have hcc : wr.cell? ⟨w3.heap.size, 2, none⟩ = some v := (blk_cell KB.out 2).trans rfl
            obtain ⟨A4, c4, rfl⟩ := Kd.R_slice HO.out
            go_wp2_with fail
            have hRC := Kd.C_drop (Kd.R_reads' (HM2.out.rowR hjl (base := 0) (Nat.zero_le _))).2.2 (m := n) (c := cp hs2 j) (by rw [hrl]; omega) (HM2.out.caps j hjl).1
            rw [if_neg (by omega)] at hRC
            have hlen : ((row RR j).drop n).length = 2 * n - n := by rw [List.length_drop, hrl]
            have ha4 : (some (⟨bk hs2 j, 0, none⟩ : Addr)).map (fun x => x.add (n * (Kd.int .i64).sz)) = some ⟨bk hs2 j, n, none⟩ := by
              show some _ = _
              show some ((⟨bk hs2 j, 0, none⟩ : Addr).add (n * (Kd.int .i64).sz)) = _
              rw [show n * (Kd.int .i64).sz = n from Nat.mul_one n, add_plain]
            rw [hlen, ha4] at hRC
            clear hlen ha4
            have HTS := Aside0.mk (tails_succ RR n j hjl)
            obtain ⟨tl, htl⟩ : ∃ tl, tl = (row RR j).drop n := ⟨_, rfl⟩
            rw [← htl] at hRC HTS
            have HRC := Aside0.mk hRC
            clear hRC htl
            have hszz := HBB.out.size
            have hs1a : (n : Int) ≤ 2 * (n : Int) := by omega
            have hs2a : (2 * (n : Int)) ≤ (cp hs2 j : Int) := by have := (HM2.out.caps j hjl).1; omega
            have hs3a : ((cp hs2 j : Int) == (n : Int)) = false := beq_eq_false_iff_ne.mpr (by omega)
            have hs4a : ¬ (cp hs2 j = n) := by omega
            have HTL := Aside0.mk (tails_le HINV.out.1 HLI.out hn2 hjn)
            go_region_law (refine Kd.R_append_rows_step (Kd.int .i64) (Rr := (Kd.int .i64).K wr) (w0 := w3) w3.heap.size (by rfl) (.tmp 64) (.tmp 67) 22 3 (.int .i64 0) 8 rfl Try.underlying22 info3 rfl (by decide) (by omega) _ (tails RR n j) tl _ (2 * n - n) _ (fun _ => True) (fun _ => False) rfl rfl (Kd.R_drew HO.out) (Kd.C_drew HRC.out) (fun _ _ h => h) (fun _ h => h.elim) (fun _ _ => trivial) (below_drew HBB.out) hszz HTL.out ?_; intro v5 w5 ho5 hb5 hg5 hat5; have hk5 := blk_grown (blk_drew KB.out) hg5 (Kd.R_ne HO.out KB.out (by decide)); have hc5 : w5.cell? ⟨w3.heap.size, 2, none⟩ = some (.slice A4 (tails RR n j).length c4) := (blk_cell hk5 2).trans rfl; have hf5 := blk_frozen hk5 2; obtain ⟨A5, c5, rfl⟩ := Kd.R_slice ho5)
            rw [List.length_append, ← HTS.out] at ho5
            have hne1 := Kd.R_ne HO.out K3.out (by decide)
            have HO5 := Aside0.mk (Kd.R_set ho5 hk5 (t := 63) (by decide) 2 (.slice A5 ((tails RR n j).length + tl.length) c5))
            have KB5 := Aside0.mk (blk_put (cs' := #[.int .i64 n, .int .i64 n, .slice A5 ((tails RR n j).length + tl.length) c5]) hk5 2 (.slice A5 ((tails RR n j).length + tl.length) c5) rfl)
            have K5 := Aside0.mk (blk_far (blk_grown (blk_drew K3.out) hg5 hne1) (p := ⟨w3.heap.size, 2, none⟩) (by have := hlt3.out.1; show w.heap.size + 1 ≠ w3.heap.size; omega) (.slice A5 ((tails RR n j).length + tl.length) c5))
            have hrow : ∀ k, (Value.slice A4 (tails RR n j).length c4).ownBlock = some k → w3.heap.size ≤ k := fun k hk => by
              obtain ⟨inner, ho⟩ := Kd.R_own HO.out
              exact own_base ho k hk
            have HM5 := Aside0.mk ((HM2.out.move (w1 := w5) (hg5.block L HM2.out.ltL (fun e => by have := hrow L e.symm; have := hlt3.out.2.1; omega)) (fun i hi => hg5.block _ (HM2.out.ltI hi) (fun e => by have := hrow _ e.symm; have := hlt3.out.2.2 i (by rw [← HLI.out]; exact hi); omega))).far (p := ⟨w3.heap.size, 2, none⟩) (by have := hlt3.out.2.1; show L ≠ w3.heap.size; omega) (fun i hi => by have := hlt3.out.2.2 i (by rw [← HLI.out]; exact hi); show bk hs2 i ≠ w3.heap.size; omega) (.slice A5 ((tails RR n j).length + tl.length) c5))
            have HBa := Aside0.mk (hb5.setCell (p := ⟨w3.heap.size, 2, none⟩) (Nat.le_refl _) (.slice A5 ((tails RR n j).length + tl.length) c5))
            have HBb := Aside0.mk ((HB30.out.trans (hb5.mono HB30.out.size)).setCell (p := ⟨w3.heap.size, 2, none⟩) HB30.out.size (.slice A5 ((tails RR n j).length + tl.length) c5))
            clear ho5 hb5 hg5 hat5 hk5 hc5 hf5 hrow hne1 HTS HTL HRC hs1a hs2a hs3a hs4a hszz hcc hO
            go_wp2_with fail
            exact ⟨⟨j + 1, _, rfl, by omega, HO5, KB5, K5, HM5, HBb, HBa⟩, by simp [intOf]; omega⟩
          · have hjb : decide ((j : Int) < (n : Int)) = false := decide_eq_false (by omega)
            obtain rfl : n = j := by omega
            obtain ⟨A4, c4, rfl⟩ := Kd.R_slice HO.out
            have d0 : wr.cell? ⟨w3.heap.size, 0, none⟩ = some (.int .i64 n) := (blk_cell KB.out 0).trans rfl
            have d1 : wr.cell? ⟨w3.heap.size, 1, none⟩ = some (.int .i64 n) := (blk_cell KB.out 1).trans rfl
            have d2 : wr.cell? ⟨w3.heap.size, 2, none⟩ = some (.slice A4 (tails RR n n).length c4) := (blk_cell KB.out 2).trans rfl
            have c20 : wr.cell? ⟨w.heap.size + 1, 0, none⟩ = some (.int .i64 0) := (blk_cell K3.out 0).trans rfl
            have c21 : wr.cell? ⟨w.heap.size + 1, 1, none⟩ = some (.int .i64 0) := (blk_cell K3.out 1).trans rfl
            have c22 : wr.cell? ⟨w.heap.size + 1, 2, none⟩ = some (.slice none 0 0) := (blk_cell K3.out 2).trans rfl
            have f20 := blk_frozen K3.out 0
            have f21 := blk_frozen K3.out 1
            have f22 := blk_frozen K3.out 2
            go_wp2_with fail
            refine bodyPost_ret (results_ct rfl _ _ (w.heap.size + 1) 63 #[.int .i64 n, .int .i64 n, .slice A4 (tails RR n n).length c4] (0, 0) _ rfl (by refine blk_put (cs := #[.int .i64 n, .int .i64 n, .slice none 0 0]) ?_ 2 _ rfl; refine blk_put (cs := #[.int .i64 n, .int .i64 0, .slice none 0 0]) ?_ 1 _ rfl; refine blk_put (cs := #[.int .i64 0, .int .i64 0, .slice none 0 0]) ?_ 0 _ rfl; exact K3.out) Try.underlying63 rfl (by kernel_rfl)) rfl ?_
            refine ⟨_, rfl, ?_, by repeat (first | exact HB3.out | refine below_set ?_ (Nat.le_succ _))⟩
            have hR2 := Kd.R_lower HO.out HB30.out.size
            exact Kd.R_set (Kd.R_set (Kd.R_set hR2 K3.out (t := 63) (by decide) 0 _) (blk_put K3.out 0 _ rfl) (t := 63) (by decide) 1 _) (blk_put (blk_put K3.out 0 _ rfl) 1 _ rfl) (t := 63) (by decide) 2 _
end Go.Proofs.Ytgmadofbelhmeaa.L
end
section
/- slices.Clone at the shards: a new row of the same shards. -/
namespace Go.Proofs.Ytgmadofbelhmeaa.L
open Go.RowKit Go.Proofs.YtgmadofbelhmeaaW.PrintWords Go.Proofs.YtgmadofbelhmeaaW.PrintLast Go.Proofs.YtgmadofbelhmeaaW.PrintMore
set_option linter.unusedVariables false
set_option linter.unusedSimpArgs false

def api_Shard.f (l0 : List S37) : Option (List S37) := if l0.length ≤ 5864062014805 then some l0 else none
theorem k37_KM {w W : World} {base : Nat} {ok : Nat → Prop} {x : S37} {cs : List Value} (h : k37.K w x cs) : k37.M W base ok x cs := by
  obtain rfl := k37_open h
  exact k37_mkM _ _ _ x
set_option maxHeartbeats 1000000 in
set_option maxRecDepth 100000 in
theorem api_Shard.calls (A0 : Option Addr) (c0 : Nat) (l0 : List S37) (r : List S37) (w : World) (hr0 : Kd.C k37 w A0 l0.length l0) (hc0 : l0.length ≤ c0) (h : api_Shard.f l0 = some r) :
    Calls Try.prog 35 #[.slice A0 l0.length c0] w fun e w' => ∃ v0_ : Value, e = .returned (v0_) ∧ Kd.R k37 37 w' w.heap.size (fun _ => True) v0_ r ∧ Below w.heap.size w w' := by
  have hl : l0.length ≤ 5864062014805 := by
    unfold api_Shard.f at h
    split at h
    · assumption
    · cases h
  have hr : l0 = r := by
    unfold api_Shard.f at h
    rw [if_pos hl] at h
    exact Option.some.inj h
  subst hr
  clear h
  have q30 : ∀ (w : World) (a : Option Addr) (n c n' c' : Nat), (binOp .eql 30 (.slice a n c) (.slice none n' c')).run Try.prog w = .ok (.bool a.isNone) w := fun w a n c n' c' => Lib.run_eql_slice_nil w _ _ a n c n' c' Try.underlying30
  have HR0 := Aside0.mk hr0
  have HB := Aside0.mk (Below.refl w.heap.size w)
  clear hr0
  cases A0 with
  | none =>
    have h0 : l0.length = 0 := by
      rcases Nat.eq_zero_or_pos l0.length with h0 | h0
      · exact h0
      · obtain ⟨ad, h, _⟩ := HR0.out.2.2 h0
        cases h
    obtain rfl : l0 = [] := List.eq_nil_of_length_eq_zero h0
    clear h0
    go_enter Try.func35, Try.ntmps35
    go_wp2
    go_ret
    exact ⟨_, rfl, Kd.R_nil _ _ _ _ _, HB.out⟩
  | some ad =>
    go_enter Try.func35, Try.ntmps35
    go_wp2_with (at_builtin; refine Kd.R_append_rows k37 (Rr := k37.K w) (w0 := w) w.heap.size (by rfl) (.tmp 5) (.tmp 6) 30 37 (.agg #[.int .i64 0, .string ⟨#[]⟩]) 24 rfl Try.underlying30 info37 rfl (by decide) (by omega) _ [] l0 (some ad) l0.length c0 (fun _ => True) (fun _ => False) rfl rfl ?aO ?aR (fun _ _ h => k37_KM h) (fun _ h => h.elim) (fun _ _ => trivial) ?aB ?aS ?aL ?_)
    case aO => exact ⟨fun _ _ => trivial, [], World.ownsRow_made w #[] 0 (Nat.le_refl _) (Nat.zero_le _) (by simp), Reps.none _ _⟩
    case aR => exact Kd.C_below HR0.out (below_alloc (Below.refl _ _) _)
    case aB => exact below_alloc (Below.refl _ _) _
    case aS => simp
    case aL => simp only [List.length_nil]; omega
    intro v1 w1 ho hb hg hat
    go_wp2
    go_ret
    exact ⟨_, rfl, ho, hb⟩
end Go.Proofs.Ytgmadofbelhmeaa.L
end
section
-- Printed for this claim by a small program of the session's own, drv.py, round the kit's print.py. Lean checks it.
namespace Go.Proofs.Ytgmadofbelhmeaa.L
open Go.RowKit Go.Proofs.YtgmadofbelhmeaaW.PrintWords Go.Proofs.YtgmadofbelhmeaaW.PrintLast Go.Proofs.YtgmadofbelhmeaaW.PrintMore
attribute [local go_sem] max2_int min2_int max_two min_two max_three min_three max_four min_four   -- for this text's walks alone
set_option linter.unusedVariables false
set_option linter.unusedSimpArgs false

/-! ### matrix_Pick: function 38 -/
mutual
def matrix_Pick.j0 : Nat → List Int → Bool → Int → Int → List Int → Option (Int × Int × List Int × Int)
  | 0, _, _, _, _, _ => none
  | k + 1, x1, x23, x181000, x181001, x181002 => if x23 = true then (some (0, 0, ([] : List Int), 1)) else (matrix_Pick.l0 k x1 (x1.length : Int) 0 x181000 x181001 x181002 (x1.length : Int) x181001 ([] : List Int))
def matrix_Pick.l0 : Nat → List Int → Int → Int → Int → Int → List Int → Int → Int → List Int → Option (Int × Int × List Int × Int)
  | 0, _, _, _, _, _, _, _, _, _ => none
  | k + 1, x30, x31, x32, x181000, x181001, x181002, x184000, x184001, x184002 => if x32 < x31 then (if 0 ≤ x32 then (if x32 < (x30.length : Int) then (if (rd x30 x32) < 0 then (some (0, 0, ([] : List Int), 1)) else (if (rd x30 x32) ≥ x181000 then (some (0, 0, ([] : List Int), 1)) else (if 0 ≤ (wrap64 ((rd x30 x32) * x181001)) then (if (wrap64 ((rd x30 x32) * x181001)) ≤ (wrap64 ((wrap64 ((rd x30 x32) + 1)) * x181001)) then (if (wrap64 ((wrap64 ((rd x30 x32) + 1)) * x181001)) ≤ (x181002.length : Int) then (if x184002.length + ((x181002.take ((wrap64 ((wrap64 ((rd x30 x32) + 1)) * x181001)) : Int).toNat).drop ((wrap64 ((rd x30 x32) * x181001)) : Int).toNat).length < 17592186044416 then (matrix_Pick.l0 k x30 x31 (wrap64 (x32 + 1)) x181000 x181001 x181002 x184000 x184001 (x184002 ++ ((x181002.take ((wrap64 ((wrap64 ((rd x30 x32) + 1)) * x181001)) : Int).toNat).drop ((wrap64 ((rd x30 x32) * x181001)) : Int).toNat))) else (none)) else (none)) else (none)) else (none)))) else (none)) else (none)) else (some (x184000, x184001, x184002, 0))
end
def matrix_Pick.f (k : Nat) (a0_0 : Int) (a0_1 : Int) (l0_2 : List Int) (l1 : List Int) : Option (Int × Int × List Int × Int) := (matrix_Check.f k a0_0 a0_1 l0_2).bind fun t182 => (if t182 = 0 then (if (l1.length : Int) < 1 then (matrix_Pick.j0 k l1 true a0_0 a0_1 l0_2) else (matrix_Pick.j0 k l1 (decide ((l1.length : Int) > 16)) a0_0 a0_1 l0_2)) else (some (0, 0, ([] : List Int), t182)))
theorem matrix_Pick.mono_l : ∀ k, (∀ y0 y1 y2 y3 y4, LeO (matrix_Pick.j0 k y0 y1 y2 y3 y4) (matrix_Pick.j0 (k + 1) y0 y1 y2 y3 y4)) ∧ (∀ y0 y1 y2 y3 y4 y5 y6 y7 y8, LeO (matrix_Pick.l0 k y0 y1 y2 y3 y4 y5 y6 y7 y8) (matrix_Pick.l0 (k + 1) y0 y1 y2 y3 y4 y5 y6 y7 y8))
  | 0 => ⟨fun _ _ _ _ _ r h => by simp [matrix_Pick.j0] at h, fun _ _ _ _ _ _ _ _ _ r h => by simp [matrix_Pick.l0] at h⟩
  | k + 1 => by
    obtain ⟨ih0, ih1⟩ := matrix_Pick.mono_l k
    refine ⟨?_, ?_⟩
    · intro y0 y1 y2 y3 y4
      unfold matrix_Pick.j0
      repeat' first
      | (with_reducible exact ih0 _ _ _ _ _)
      | (with_reducible exact ih1 _ _ _ _ _ _ _ _ _)
      | (with_reducible exact matrix_Check.mono _ _ _ _)
      | (with_reducible exact LeO.refl _)
      | (with_reducible exact LeO.none _)
      | (with_reducible refine LeO.ite ?_ ?_)
      | (with_reducible refine LeO.bind ?_ (fun _ => ?_))
      | exact ih0 _ _ _ _ _
      | exact ih1 _ _ _ _ _ _ _ _ _
      | exact matrix_Check.mono _ _ _ _
      | exact LeO.none _
      | refine LeO.ite ?_ ?_
      | refine LeO.bind ?_ (fun _ => ?_)
    · intro y0 y1 y2 y3 y4 y5 y6 y7 y8
      unfold matrix_Pick.l0
      repeat' first
      | (with_reducible exact ih0 _ _ _ _ _)
      | (with_reducible exact ih1 _ _ _ _ _ _ _ _ _)
      | (with_reducible exact matrix_Check.mono _ _ _ _)
      | (with_reducible exact LeO.refl _)
      | (with_reducible exact LeO.none _)
      | (with_reducible refine LeO.ite ?_ ?_)
      | (with_reducible refine LeO.bind ?_ (fun _ => ?_))
      | exact ih0 _ _ _ _ _
      | exact ih1 _ _ _ _ _ _ _ _ _
      | exact matrix_Check.mono _ _ _ _
      | exact LeO.none _
      | refine LeO.ite ?_ ?_
      | refine LeO.bind ?_ (fun _ => ?_)
theorem matrix_Pick.mono : ∀ a0 a1 a2 a3 k, LeO (matrix_Pick.f k a0 a1 a2 a3) (matrix_Pick.f (k + 1) a0 a1 a2 a3) := by
  intro a0 a1 a2 a3 k
  obtain ⟨ih0, ih1⟩ := matrix_Pick.mono_l k
  unfold matrix_Pick.f
  repeat' first
      | (with_reducible exact ih0 _ _ _ _ _)
      | (with_reducible exact ih1 _ _ _ _ _ _ _ _ _)
      | (with_reducible exact matrix_Check.mono _ _ _ _)
      | (with_reducible exact LeO.refl _)
      | (with_reducible exact LeO.none _)
      | (with_reducible refine LeO.ite ?_ ?_)
      | (with_reducible refine LeO.bind ?_ (fun _ => ?_))
      | exact ih0 _ _ _ _ _
      | exact ih1 _ _ _ _ _ _ _ _ _
      | exact matrix_Check.mono _ _ _ _
      | exact LeO.none _
      | refine LeO.ite ?_ ?_
      | refine LeO.bind ?_ (fun _ => ?_)
def matrix_Pick.T12 : Bool × List (List Nat × List Nat) := (true, [([], []), ([0], [0]), ([], []), ([2], [2]), ([], []), ([], []), ([5], [5]), ([4, 6], [4, 6]), ([], []), ([8], [8]), ([], []), ([10], [10]), ([9, 11], [9, 11]), ([3, 7, 12], [3, 7, 12]), ([1, 13], [1, 13]), ([0, 1, 2, 3, 4, 5, 6, 7, 8, 9, 10, 11, 12, 13, 14], []), ([15, 14, 14, 0, 1, 2, 3, 4, 5, 6, 7, 8, 9, 10, 11, 12, 13, 14], [14, 15])])
def matrix_Pick.B12 : List Nat := [0, 1, 0, 4, 0, 0, 32, 112, 0, 256, 0, 1024, 3840, 8188, 16383, 32767, 65535]
theorem matrix_Pick.tab12 : rtab .any (opsOf Try.f38 12) = matrix_Pick.T12 := by kernel_rfl
theorem matrix_Pick.bits12 : waitsOk matrix_Pick.T12.2 matrix_Pick.B12 = true := by kernel_rfl
set_option maxHeartbeats 8000000 in
set_option maxRecDepth 100000 in
theorem matrix_Pick.calls (k : Nat) (a0_0 : Int) (a0_1 : Int) (A0_2 : Option Addr) (c0_2 : Nat) (l0_2 : List Int) (A1 : Option Addr) (c1 : Nat) (l1 : List Int) (r1 : Int) (r2 : Int) (r3 : List Int) (r4 : Int) (w : World) (hr0_2 : Kd.C (Kd.int .i64) w A0_2 l0_2.length l0_2) (hc0_2 : l0_2.length ≤ c0_2) (hr1 : Kd.C (Kd.int .i64) w A1 l1.length l1) (hc1 : l1.length ≤ c1) (h : matrix_Pick.f k a0_0 a0_1 l0_2 l1 = some (r1, r2, r3, r4)) :
    Calls Try.prog 38 #[.agg #[.int .i64 a0_0, .int .i64 a0_1, .slice A0_2 l0_2.length c0_2], .slice A1 l1.length c1] w fun e w' => ∃ v2_ : Value, e = .returned (.tuple #[.agg #[.int .i64 r1, .int .i64 r2, v2_], .int .i64 r4]) ∧ Kd.R (Kd.int .i64) 3 w' w.heap.size (fun _ => True) v2_ r3 ∧ Below w.heap.size w w' := by
  have hu63 := Try.underlying63
  have HR0_2 := Aside0.mk hr0_2
  have HC0_2 := Aside0.mk hc0_2
  clear hr0_2 hc0_2
  have HR1 := Aside0.mk hr1
  have HC1 := Aside0.mk hc1
  clear hr1 hc1
  have HB := Aside0.mk (Below.refl w.heap.size w)
  have H : ((matrix_Check.f k a0_0 a0_1 l0_2).bind fun t182 => (if t182 = 0 then (if (l1.length : Int) < 1 then (matrix_Pick.j0 k l1 true a0_0 a0_1 l0_2) else (matrix_Pick.j0 k l1 (decide ((l1.length : Int) > 16)) a0_0 a0_1 l0_2)) else (some (0, 0, ([] : List Int), t182)))) = some (r1, r2, r3, r4) := h
  clear h
  replace H := Option.bind_eq_some_iff.mp H
  obtain ⟨t182, A30, H⟩ := H
  replace H : (if t182 = 0 then (if (l1.length : Int) < 1 then (matrix_Pick.j0 k l1 true a0_0 a0_1 l0_2) else (matrix_Pick.j0 k l1 (decide ((l1.length : Int) > 16)) a0_0 a0_1 l0_2)) else (some (0, 0, ([] : List Int), t182))) = some (r1, r2, r3, r4) := H
  have A3 := Aside0.mk A30
  clear A30
  by_cases c4 : t182 = 0
  · rw [if_pos c4] at H
    have c4b0 : (t182 == 0) = true := beq_iff_eq.mpr c4
    have c4b1 : (t182 != 0) = false := bne_eq_false_iff_eq.mpr c4
    clear c4
    have HC5 := Aside0.mk H
    clear H
    go_enter Try.func38, Try.ntmps38
    go_upto_region 4 with (first | ((with_reducible refine gate_dst (N := 2) rfl ?_); (try (refine gate_guard (by rfl) ?_; dsimp only)); refine box_event ?hg (N := 2) ?hd (cs := #[.int .i64 a0_0, .int .i64 a0_1, .slice A0_2 l0_2.length c0_2]) (t := 63) ?hr ?_; (case hd => rfl); (case hg => rfl); (case hr => first | (go_simp; done) | (go_simp; rfl)); intro gb180 hg w6 hbox hb; have n0_ := Aside0.mk (below_step (by repeat (first | (with_reducible first | exact HB.out | apply below_alloc | apply pw_below_drewN | apply below_drew1) | exact HB.out)) hb); have n1_ := Aside0.mk (hbox); have n2_ := Aside0.mk ((by rw [hg]; exact (below_size (by repeat (first | (with_reducible first | exact HB.out | apply below_alloc | apply pw_below_drewN | apply below_drew1) | exact HB.out))) : w.heap.size ≤ gb180)); have n3_ := Aside0.mk ((by rw [hg]; exact (below_size (by repeat (first | (with_reducible first | exact HB.out | apply below_alloc | apply pw_below_drewN | apply below_drew1) | exact HB.out))) : w.heap.size ≤ gb180)); clear HB; have HB := n0_; have BK180 := n1_; have GW180 := n2_; have GE180 := n3_; clear n0_ n1_ n2_ n3_; clear hb hbox hg) | ((with_reducible refine gate_dst (N := 4) rfl ?_); (try (refine gate_guard (by rfl) ?_; dsimp only)); refine box_event ?hg (N := 4) ?hd (cs := #[.int .i64 0, .int .i64 0, .slice none 0 0]) (t := 63) ?hr ?_; (case hd => rfl); (case hg => rfl); (case hr => first | (go_simp; done) | (go_simp; rfl)); intro gb181 hg w7 hbox hb; have n0_ := Aside0.mk (blk_below (g := gb180) (o := .cells #[.int .i64 a0_0, .int .i64 a0_1, .slice A0_2 l0_2.length c0_2] 63 (0, 0)) (by (with_reducible repeat (first | refine blk_drewN ?_ _ | refine blk_drew ?_ | refine blk_alloc ?_ _)); exact BK180.out) hb); have n1_ := Aside0.mk (below_step (by repeat (first | (with_reducible first | exact HB.out | apply below_alloc | apply pw_below_drewN | apply below_drew1 | refine below_set ?_ GE180.out) | exact HB.out)) hb); have n2_ := Aside0.mk (hbox); have n3_ := Aside0.mk ((by rw [hg]; exact (below_size (by repeat (first | (with_reducible first | exact HB.out | apply below_alloc | apply pw_below_drewN | apply below_drew1 | refine below_set ?_ GE180.out) | exact HB.out))) : w.heap.size ≤ gb181)); have n4_ := Aside0.mk ((by rw [hg]; exact (below_size (by repeat (first | (with_reducible first | exact HB.out | apply below_alloc | apply pw_below_drewN | apply below_drew1 | refine below_set ?_ GE180.out) | exact HB.out))) : w.heap.size ≤ gb181)); have n5_ := Aside0.mk ((by rw [hg]; exact Nat.ne_of_lt (blk_lt (g := gb180) (o := .cells #[.int .i64 a0_0, .int .i64 a0_1, .slice A0_2 l0_2.length c0_2] 63 (0, 0)) (by (with_reducible repeat (first | refine blk_drewN ?_ _ | refine blk_drew ?_ | refine blk_alloc ?_ _)); exact BK180.out)) : gb180 ≠ gb181)); have n6_ := Aside0.mk ((by rw [hg]; exact Nat.ne_of_gt (blk_lt (g := gb180) (o := .cells #[.int .i64 a0_0, .int .i64 a0_1, .slice A0_2 l0_2.length c0_2] 63 (0, 0)) (by (with_reducible repeat (first | refine blk_drewN ?_ _ | refine blk_drew ?_ | refine blk_alloc ?_ _)); exact BK180.out)) : gb181 ≠ gb180)); clear BK180; clear HB; have BK180 := n0_; have HB := n1_; have BK181 := n2_; have GW181 := n3_; have GE181 := n4_; have NB180_181 := n5_; have NB181_180 := n6_; clear n0_ n1_ n2_ n3_ n4_ n5_ n6_; clear hb hbox hg; have hnb8 := NB180_181.out; have hnc8 := NB181_180.out; have hcz9_0 : w7.cell? ⟨gb180, 0, none⟩ = some (.int .i64 a0_0) := (blk_cell BK180.out 0).trans rfl; have hcz9_1 : w7.cell? ⟨gb180, 1, none⟩ = some (.int .i64 a0_1) := (blk_cell BK180.out 1).trans rfl; have hcz9_2 : w7.cell? ⟨gb180, 2, none⟩ = some (.slice A0_2 l0_2.length c0_2) := (blk_cell BK180.out 2).trans rfl; have hfz9_0 := blk_frozen BK180.out 0; have hfz9_1 := blk_frozen BK180.out 1; have hfz9_2 := blk_frozen BK180.out 2) | ((with_reducible refine gate_callee (f := 55) rfl ?_); refine goesL_ (some 11) rfl rfl Try.func55 (by kernel_rfl) rfl #[.agg #[.int .i64 a0_0, .int .i64 a0_1, .slice A0_2 l0_2.length c0_2]] rfl (by (try simp only [List.map_toArray, List.map_cons, List.map_nil]); first | done | rfl | (simp only [List.length_drop, List.length_take]; rfl)) ?_; (with_reducible refine (matrix_Check.calls k a0_0 a0_1 _ _ l0_2 t182 _ ?side1 ?side2 A3.out).mono ?_); (case side1 => repeat (first | exact (Kd.C_below HR0_2.out HB.out) | (with_reducible refine Kd.C_alloc ?_ _) | (with_reducible refine Kd.C_drewN ?_ _) | (with_reducible refine Kd.C_drew ?_))); (case side2 => exact HC0_2.out); rintro e w10 ⟨rfl, hb⟩; refine ⟨_, rfl, ?_⟩; have n0_ := Aside0.mk (blk_below (g := gb180) (o := .cells #[.int .i64 a0_0, .int .i64 a0_1, .slice A0_2 l0_2.length c0_2] 63 (0, 0)) (by (with_reducible repeat (first | refine blk_drewN ?_ _ | refine blk_drew ?_ | refine blk_alloc ?_ _)); exact BK180.out) hb); have n1_ := Aside0.mk (blk_below (g := gb181) (o := .cells #[.int .i64 0, .int .i64 0, .slice none 0 0] 63 (0, 0)) (by (with_reducible repeat (first | refine blk_drewN ?_ _ | refine blk_drew ?_ | refine blk_alloc ?_ _)); exact BK181.out) hb); have n2_ := Aside0.mk (below_step (by repeat (first | (with_reducible first | exact HB.out | apply below_alloc | apply pw_below_drewN | apply below_drew1 | refine below_set ?_ GE180.out | refine below_set ?_ GE181.out) | exact HB.out)) hb); clear BK180; clear BK181; clear HB; have BK180 := n0_; have BK181 := n1_; have HB := n2_; clear n0_ n1_ n2_; (try clear hb); (try clear hb2); (try clear hk); (try clear hi)))
    (try simp only [Act.put, List.setIfInBounds_toArray, List.set_cons_zero, List.set_cons_succ])
    go_cut [23] (fun v23 wc => ∃ (kq : Nat) (x23_4 : Bool), v23 = .bool x23_4 ∧ Aside0 (matrix_Pick.j0 kq l1 x23_4 a0_0 a0_1 l0_2 = some (r1, r2, r3, r4)) ∧ Aside0 (kq ≤ k) ∧ Aside0 (wc.heap[gb180]? = some (.cells #[.int .i64 a0_0, .int .i64 a0_1, (.slice A0_2 l0_2.length c0_2)] 63 (0, 0))) ∧ Aside0 (wc.heap[gb181]? = some (.cells #[.int .i64 0, .int .i64 0, (.slice none 0 0)] 63 (0, 0))) ∧ Aside0 (Below w.heap.size w wc))
    case first =>
      have H := HC5.out
      clear HC5
      by_cases c11 : (l1.length : Int) < 1
      · rw [if_pos c11] at H
        have c11b0 : decide ((l1.length : Int) < 1) = true := decide_eq_true c11
        have c11b1 : decide (l1.length < 1) = true := decide_eq_true (by omega)
        clear c11
        (first | rw [c11b0] | (simp only [i64_w, i32_w]; rw [c11b0]) | skip)
        have H' := Aside0.mk H
        clear H
        go_wp2
        go_meet
        case rel => exact ⟨_, (true), (by first | rfl | (simp; done) | (simp [*]; done)), H', ⟨by first | omega | exact Nat.le_refl _⟩, ⟨by (with_reducible repeat (first | refine blk_drewN ?_ _ | refine blk_drew ?_ | refine blk_alloc ?_ _)); exact BK180.out⟩, ⟨by (with_reducible repeat (first | refine blk_drewN ?_ _ | refine blk_drew ?_ | refine blk_alloc ?_ _)); exact BK181.out⟩, ⟨by repeat (first | (with_reducible first | exact HB.out | apply below_alloc | apply pw_below_drewN | apply below_drew1 | refine below_set ?_ GE180.out | refine below_set ?_ GE181.out) | exact HB.out)⟩⟩
      · rw [if_neg c11] at H
        have c11b0 : decide ((l1.length : Int) < 1) = false := decide_eq_false c11
        have c11b1 : decide (l1.length < 1) = false := decide_eq_false (by omega)
        clear c11
        (first | rw [c11b0] | (simp only [i64_w, i32_w]; rw [c11b0]) | skip)
        have H' := Aside0.mk H
        clear H
        go_wp2
        go_meet
        case rel => exact ⟨_, (decide ((l1.length : Int) > 16)), (by first | rfl | (simp; done) | (simp [*]; done)), H', ⟨by first | omega | exact Nat.le_refl _⟩, ⟨by (with_reducible repeat (first | refine blk_drewN ?_ _ | refine blk_drew ?_ | refine blk_alloc ?_ _)); exact BK180.out⟩, ⟨by (with_reducible repeat (first | refine blk_drewN ?_ _ | refine blk_drew ?_ | refine blk_alloc ?_ _)); exact BK181.out⟩, ⟨by repeat (first | (with_reducible first | exact HB.out | apply below_alloc | apply pw_below_drewN | apply below_drew1 | refine below_set ?_ GE180.out | refine below_set ?_ GE181.out) | exact HB.out)⟩⟩
    case rest =>
      clear HC5
      try clear c1
      try clear p2
      try clear c3
      try clear c4
      try clear c4b0
      try clear c4b1
      try clear c5
      try clear c8
      try clear c11
      try clear c11b0
      try clear c11b1
      try clear hcz9_0
      try clear hcz9_1
      try clear hcz9_2
      try clear hfz9_0
      try clear hfz9_1
      try clear hfz9_2
      obtain ⟨kq, x23_4, rfl, HA, HJ4, BK180, BK181, HB⟩ := hcut
      cases kq with
      | zero => exact absurd HA.out (by simp [matrix_Pick.j0])
      | succ kj4 =>
        have H := HA.out
        clear HA
        simp only [matrix_Pick.j0] at H
        by_cases c12 : x23_4 = true
        · subst c12
          have H1 : (some (0, 0, ([] : List Int), 1)) = some (r1, r2, r3, r4) := by rw [if_pos rfl] at H; exact H
          clear H
          have H := H1
          clear H1
          simp only [Option.some.injEq, Prod.mk.injEq] at H
          obtain ⟨rfl, rfl, rfl, rfl⟩ := H
          have hnb13 := NB181_180.out
          have hnc13 := NB180_181.out
          have hcz14_0 : wc.cell? ⟨gb181, 0, none⟩ = some (.int .i64 0) := (blk_cell BK181.out 0).trans rfl
          have hcz14_1 : wc.cell? ⟨gb181, 1, none⟩ = some (.int .i64 0) := (blk_cell BK181.out 1).trans rfl
          have hcz14_2 : wc.cell? ⟨gb181, 2, none⟩ = some (.slice none 0 0) := (blk_cell BK181.out 2).trans rfl
          have hfz14_0 := blk_frozen BK181.out 0
          have hfz14_1 := blk_frozen BK181.out 1
          have hfz14_2 := blk_frozen BK181.out 2
          go_wp2
          refine bodyPost_ret (results_ct rfl _ _ gb181 63 #[.int .i64 0, .int .i64 0, .slice none 0 0] (0, 0) _ rfl (by (with_reducible repeat (first | refine blk_drewN ?_ _ | refine blk_drew ?_ | refine blk_alloc ?_ _)); refine blk_put (cs := #[.int .i64 0, .int .i64 0, .slice none 0 0]) ?_ 2 _ rfl; (with_reducible repeat (first | refine blk_drewN ?_ _ | refine blk_drew ?_ | refine blk_alloc ?_ _)); refine blk_put (cs := #[.int .i64 0, .int .i64 0, .slice none 0 0]) ?_ 1 _ rfl; (with_reducible repeat (first | refine blk_drewN ?_ _ | refine blk_drew ?_ | refine blk_alloc ?_ _)); refine blk_put (cs := #[.int .i64 0, .int .i64 0, .slice none 0 0]) ?_ 0 _ rfl; (with_reducible repeat (first | refine blk_drewN ?_ _ | refine blk_drew ?_ | refine blk_alloc ?_ _)); exact BK181.out) Try.underlying63 rfl (by kernel_rfl)) rfl ?_
          exact ⟨_, by first | rfl | (simp [errW_none, errW_some] <;> rfl) | (simp [*, errW_none, errW_some] <;> rfl), by first | exact Kd.R_nil _ _ _ _ _ | exact Kd.N_nil _ _ _ _ _ | exact Kd.V_nil _ _ _ _ _ | exact Kd.Q_nil _ _ _ _ _ | exact Kd.S_nil _ _ _ _ _, by repeat (first | (with_reducible first | exact HB.out | apply below_alloc | apply pw_below_drewN | apply below_drew1 | refine below_set ?_ GE180.out | refine below_set ?_ GE181.out) | exact HB.out)⟩
        · replace c12 := Bool.eq_false_iff.mpr c12
          subst c12
          have H1 : (matrix_Pick.l0 kj4 l1 (l1.length : Int) 0 a0_0 a0_1 l0_2 (l1.length : Int) a0_1 ([] : List Int)) = some (r1, r2, r3, r4) := by rw [if_neg (show ¬ (false = true) by decide)] at H; exact H
          clear H
          have H := H1
          clear H1
          have H' := Aside0.mk H
          clear H
          have hnb15 := NB180_181.out
          have hnc15 := NB181_180.out
          have hcz16_0 : wc.cell? ⟨gb180, 0, none⟩ = some (.int .i64 a0_0) := (blk_cell BK180.out 0).trans rfl
          have hcz16_1 : wc.cell? ⟨gb180, 1, none⟩ = some (.int .i64 a0_1) := (blk_cell BK180.out 1).trans rfl
          have hcz16_2 : wc.cell? ⟨gb180, 2, none⟩ = some (.slice A0_2 l0_2.length c0_2) := (blk_cell BK180.out 2).trans rfl
          have hfz16_0 := blk_frozen BK180.out 0
          have hfz16_1 := blk_frozen BK180.out 1
          have hfz16_2 := blk_frozen BK180.out 2
          go_wp2_with (first | ((with_reducible refine gate_dst (N := 7) rfl ?_); (try (refine gate_guard (by rfl) ?_; dsimp only)); refine box_event ?hg (N := 7) ?hd (cs := #[.int .i64 0, .int .i64 0, .slice none 0 0]) (t := 63) ?hr ?_; (case hd => rfl); (case hg => rfl); (case hr => first | (go_simp; done) | (go_simp; rfl)); intro gb183 hg w17 hbox hb; have n0_ := Aside0.mk (blk_below (g := gb180) (o := .cells #[.int .i64 a0_0, .int .i64 a0_1, .slice A0_2 l0_2.length c0_2] 63 (0, 0)) (by (with_reducible repeat (first | refine blk_drewN ?_ _ | refine blk_drew ?_ | refine blk_alloc ?_ _)); exact BK180.out) hb); have n1_ := Aside0.mk (blk_below (g := gb181) (o := .cells #[.int .i64 0, .int .i64 0, .slice none 0 0] 63 (0, 0)) (by (with_reducible repeat (first | refine blk_drewN ?_ _ | refine blk_drew ?_ | refine blk_alloc ?_ _)); exact BK181.out) hb); have n2_ := Aside0.mk (below_step (by repeat (first | (with_reducible first | exact HB.out | apply below_alloc | apply pw_below_drewN | apply below_drew1 | refine below_set ?_ GE180.out | refine below_set ?_ GE181.out) | exact HB.out)) hb); have n3_ := Aside0.mk (hbox); have n4_ := Aside0.mk ((by rw [hg]; exact (below_size (by repeat (first | (with_reducible first | exact HB.out | apply below_alloc | apply pw_below_drewN | apply below_drew1 | refine below_set ?_ GE180.out | refine below_set ?_ GE181.out) | exact HB.out))) : w.heap.size ≤ gb183)); have n5_ := Aside0.mk ((by rw [hg]; exact (below_size (by repeat (first | (with_reducible first | exact HB.out | apply below_alloc | apply pw_below_drewN | apply below_drew1 | refine below_set ?_ GE180.out | refine below_set ?_ GE181.out) | exact HB.out))) : w.heap.size ≤ gb183)); have n6_ := Aside0.mk ((by rw [hg]; exact Nat.ne_of_lt (blk_lt (g := gb180) (o := .cells #[.int .i64 a0_0, .int .i64 a0_1, .slice A0_2 l0_2.length c0_2] 63 (0, 0)) (by (with_reducible repeat (first | refine blk_drewN ?_ _ | refine blk_drew ?_ | refine blk_alloc ?_ _)); exact BK180.out)) : gb180 ≠ gb183)); have n7_ := Aside0.mk ((by rw [hg]; exact Nat.ne_of_gt (blk_lt (g := gb180) (o := .cells #[.int .i64 a0_0, .int .i64 a0_1, .slice A0_2 l0_2.length c0_2] 63 (0, 0)) (by (with_reducible repeat (first | refine blk_drewN ?_ _ | refine blk_drew ?_ | refine blk_alloc ?_ _)); exact BK180.out)) : gb183 ≠ gb180)); have n8_ := Aside0.mk ((by rw [hg]; exact Nat.ne_of_lt (blk_lt (g := gb181) (o := .cells #[.int .i64 0, .int .i64 0, .slice none 0 0] 63 (0, 0)) (by (with_reducible repeat (first | refine blk_drewN ?_ _ | refine blk_drew ?_ | refine blk_alloc ?_ _)); exact BK181.out)) : gb181 ≠ gb183)); have n9_ := Aside0.mk ((by rw [hg]; exact Nat.ne_of_gt (blk_lt (g := gb181) (o := .cells #[.int .i64 0, .int .i64 0, .slice none 0 0] 63 (0, 0)) (by (with_reducible repeat (first | refine blk_drewN ?_ _ | refine blk_drew ?_ | refine blk_alloc ?_ _)); exact BK181.out)) : gb183 ≠ gb181)); clear BK180; clear BK181; clear HB; have BK180 := n0_; have BK181 := n1_; have HB := n2_; have BK183 := n3_; have GW183 := n4_; have GE183 := n5_; have NB180_183 := n6_; have NB183_180 := n7_; have NB181_183 := n8_; have NB183_181 := n9_; clear n0_ n1_ n2_ n3_ n4_ n5_ n6_ n7_ n8_ n9_; clear hb hbox hg; have hnb18 := NB183_180.out; have hnc18 := NB180_183.out; have hnb19 := NB183_181.out; have hnc19 := NB181_183.out; have hcz20_0 : w17.cell? ⟨gb183, 0, none⟩ = some (.int .i64 0) := (blk_cell BK183.out 0).trans rfl; have hcz20_1 : w17.cell? ⟨gb183, 1, none⟩ = some (.int .i64 0) := (blk_cell BK183.out 1).trans rfl; have hcz20_2 : w17.cell? ⟨gb183, 2, none⟩ = some (.slice none 0 0) := (blk_cell BK183.out 2).trans rfl; have hfz20_0 := blk_frozen BK183.out 0; have hfz20_1 := blk_frozen BK183.out 1; have hfz20_2 := blk_frozen BK183.out 2))
          go_loopg [32] kj4 (fun kq v32 w' => ∃ (x32_2 : Int) (x182000_2 : Int) (x182001_2 : Int) (x184002_2 : List Int) (u184002 : Value), v32 = .int .i64 x32_2 ∧ Aside0 (matrix_Pick.l0 kq l1 (l1.length : Int) x32_2 a0_0 a0_1 l0_2 (l1.length : Int) a0_1 x184002_2 = some (r1, r2, r3, r4)) ∧ Aside0 (kq ≤ kj4) ∧ Aside0 (Kd.R (Kd.int .i64) 3 w' w.heap.size (fun _ => True) u184002 x184002_2) ∧ Aside0 (w'.heap[gb180]? = some (.cells #[.int .i64 a0_0, .int .i64 a0_1, (.slice A0_2 l0_2.length c0_2)] 63 (0, 0))) ∧ Aside0 (w'.heap[gb181]? = some (.cells #[.int .i64 x182000_2, .int .i64 x182001_2, (.slice none 0 0)] 63 (0, 0))) ∧ Aside0 (w'.heap[gb183]? = some (.cells #[.int .i64 (l1.length : Int), .int .i64 a0_1, u184002] 63 (0, 0))) ∧ Aside0 (Below w.heap.size w w'))
          case atStart => exact ⟨(0), (0), (0), (([] : List Int)), (.slice none 0 0), (by first | rfl | (simp; done) | (simp [*]; done)), H', ⟨Nat.le_refl _⟩, ⟨by first | exact Kd.R_nil _ _ _ _ _ | exact Kd.N_nil _ _ _ _ _ | exact Kd.V_nil _ _ _ _ _ | exact Kd.Q_nil _ _ _ _ _ | exact Kd.S_nil _ _ _ _ _⟩, ⟨by (with_reducible repeat (first | refine blk_drewN ?_ _ | refine blk_drew ?_ | refine blk_alloc ?_ _)); refine blk_far ?_ NB180_183.out _; (with_reducible repeat (first | refine blk_drewN ?_ _ | refine blk_drew ?_ | refine blk_alloc ?_ _)); refine blk_far ?_ NB180_183.out _; (with_reducible repeat (first | refine blk_drewN ?_ _ | refine blk_drew ?_ | refine blk_alloc ?_ _)); refine blk_far ?_ NB180_183.out _; (with_reducible repeat (first | refine blk_drewN ?_ _ | refine blk_drew ?_ | refine blk_alloc ?_ _)); exact BK180.out⟩, ⟨by (with_reducible repeat (first | refine blk_drewN ?_ _ | refine blk_drew ?_ | refine blk_alloc ?_ _)); refine blk_far ?_ NB181_183.out _; (with_reducible repeat (first | refine blk_drewN ?_ _ | refine blk_drew ?_ | refine blk_alloc ?_ _)); refine blk_far ?_ NB181_183.out _; (with_reducible repeat (first | refine blk_drewN ?_ _ | refine blk_drew ?_ | refine blk_alloc ?_ _)); refine blk_far ?_ NB181_183.out _; (with_reducible repeat (first | refine blk_drewN ?_ _ | refine blk_drew ?_ | refine blk_alloc ?_ _)); exact BK181.out⟩, ⟨by (with_reducible repeat (first | refine blk_drewN ?_ _ | refine blk_drew ?_ | refine blk_alloc ?_ _)); refine blk_put (cs := #[.int .i64 (l1.length : Int), .int .i64 a0_1, .slice none 0 0]) ?_ 2 _ rfl; (with_reducible repeat (first | refine blk_drewN ?_ _ | refine blk_drew ?_ | refine blk_alloc ?_ _)); refine blk_put (cs := #[.int .i64 (l1.length : Int), .int .i64 0, .slice none 0 0]) ?_ 1 _ rfl; (with_reducible repeat (first | refine blk_drewN ?_ _ | refine blk_drew ?_ | refine blk_alloc ?_ _)); refine blk_put (cs := #[.int .i64 0, .int .i64 0, .slice none 0 0]) ?_ 0 _ rfl; (with_reducible repeat (first | refine blk_drewN ?_ _ | refine blk_drew ?_ | refine blk_alloc ?_ _)); exact BK183.out⟩, ⟨by repeat (first | (with_reducible first | exact HB.out | apply below_alloc | apply pw_below_drewN | apply below_drew1 | refine below_set ?_ GE180.out | refine below_set ?_ GE181.out | refine below_set ?_ GE183.out) | exact HB.out)⟩⟩
          case round =>
            clear H'
            try clear c1
            try clear p2
            try clear c3
            try clear c4
            try clear c4b0
            try clear c4b1
            try clear c5
            try clear c8
            try clear c11
            try clear c11b0
            try clear c11b1
            try clear c12
            try clear c13
            try clear c15
            try clear c18
            try clear c19
            try clear hcz14_0
            try clear hcz14_1
            try clear hcz14_2
            try clear hcz16_0
            try clear hcz16_1
            try clear hcz16_2
            try clear hcz20_0
            try clear hcz20_1
            try clear hcz20_2
            try clear hcz9_0
            try clear hcz9_1
            try clear hcz9_2
            try clear hfz14_0
            try clear hfz14_1
            try clear hfz14_2
            try clear hfz16_0
            try clear hfz16_1
            try clear hfz16_2
            try clear hfz20_0
            try clear hfz20_1
            try clear hfz20_2
            try clear hfz9_0
            try clear hfz9_1
            try clear hfz9_2
            try clear p2
            obtain ⟨x32_2, x182000_2, x182001_2, x184002_2, u184002, rfl, HA, HK2, HO_184002, BK180, BK181, BK183, HB⟩ := hrel
            cases gk with
            | zero => exact absurd HA.out (by simp [matrix_Pick.l0])
            | succ k2 =>
              have H := HA.out
              clear HA
              simp only [matrix_Pick.l0] at H
              by_cases c21 : x32_2 < (l1.length : Int)
              · rw [if_pos c21] at H
                have c21b0 : decide (x32_2 < (l1.length : Int)) = true := decide_eq_true c21
                clear c21
                by_cases c22 : 0 ≤ x32_2
                · rw [if_pos c22] at H
                  have c22b0 : decide (0 ≤ x32_2) = true := decide_eq_true c22
                  clear c22
                  by_cases c23 : x32_2 < (l1.length : Int)
                  · rw [if_pos c23] at H
                    have c23b0 : decide (x32_2 < (l1.length : Int)) = true := decide_eq_true c23
                    clear c23
                    by_cases c24 : (rd l1 x32_2) < 0
                    · rw [if_pos c24] at H
                      have c24b0 : decide ((rd l1 x32_2) < 0) = true := decide_eq_true c24
                      clear c24
                      simp only [Option.some.injEq, Prod.mk.injEq] at H
                      obtain ⟨rfl, rfl, rfl, rfl⟩ := H
                      have p184 : 0 ≤ (x32_2 : Int) := of_decide_eq_true (by first | (with_reducible assumption) | assumption)
                      have q184 : x32_2 < (l1.length : Int) := of_decide_eq_true (by first | (with_reducible assumption) | assumption)
                      obtain ⟨ad184, e184, hx184_0⟩ := Kd.at_int HR1.out x32_2 p184 q184
                      cases e184
                      replace hx184_0 := (HB.out.cell (World.block_lt_of_cell? w _ hx184_0)).trans hx184_0
                      replace p184 := eq_true p184
                      replace q184 := eq_true q184
                      have hnb25 := NB181_180.out
                      have hnc25 := NB180_181.out
                      have hnb26 := NB181_183.out
                      have hnc26 := NB183_181.out
                      have hcz27_0 : wr.cell? ⟨gb181, 0, none⟩ = some (.int .i64 x182000_2) := (blk_cell BK181.out 0).trans rfl
                      have hcz27_1 : wr.cell? ⟨gb181, 1, none⟩ = some (.int .i64 x182001_2) := (blk_cell BK181.out 1).trans rfl
                      have hcz27_2 : wr.cell? ⟨gb181, 2, none⟩ = some (.slice none 0 0) := (blk_cell BK181.out 2).trans rfl
                      have hfz27_0 := blk_frozen BK181.out 0
                      have hfz27_1 := blk_frozen BK181.out 1
                      have hfz27_2 := blk_frozen BK181.out 2
                      go_wp2
                      refine bodyPost_ret (results_ct rfl _ _ gb181 63 #[.int .i64 0, .int .i64 0, .slice none 0 0] (0, 0) _ rfl (by (with_reducible repeat (first | refine blk_drewN ?_ _ | refine blk_drew ?_ | refine blk_alloc ?_ _)); refine blk_put (cs := #[.int .i64 0, .int .i64 0, .slice none 0 0]) ?_ 2 _ rfl; (with_reducible repeat (first | refine blk_drewN ?_ _ | refine blk_drew ?_ | refine blk_alloc ?_ _)); refine blk_put (cs := #[.int .i64 0, .int .i64 x182001_2, .slice none 0 0]) ?_ 1 _ rfl; (with_reducible repeat (first | refine blk_drewN ?_ _ | refine blk_drew ?_ | refine blk_alloc ?_ _)); refine blk_put (cs := #[.int .i64 x182000_2, .int .i64 x182001_2, .slice none 0 0]) ?_ 0 _ rfl; (with_reducible repeat (first | refine blk_drewN ?_ _ | refine blk_drew ?_ | refine blk_alloc ?_ _)); exact BK181.out) Try.underlying63 rfl (by kernel_rfl)) rfl ?_
                      exact ⟨_, by first | rfl | (simp [errW_none, errW_some] <;> rfl) | (simp [*, errW_none, errW_some] <;> rfl), by first | exact Kd.R_nil _ _ _ _ _ | exact Kd.N_nil _ _ _ _ _ | exact Kd.V_nil _ _ _ _ _ | exact Kd.Q_nil _ _ _ _ _ | exact Kd.S_nil _ _ _ _ _, by repeat (first | (with_reducible first | exact HB.out | apply below_alloc | apply pw_below_drewN | apply below_drew1 | refine below_set ?_ GE180.out | refine below_set ?_ GE181.out | refine below_set ?_ GE183.out) | exact HB.out)⟩
                    · rw [if_neg c24] at H
                      have c24b0 : decide ((rd l1 x32_2) < 0) = false := decide_eq_false c24
                      clear c24
                      by_cases c28 : (rd l1 x32_2) ≥ a0_0
                      · rw [if_pos c28] at H
                        have c28b0 : decide (a0_0 ≤ (rd l1 x32_2)) = true := decide_eq_true c28
                        clear c28
                        simp only [Option.some.injEq, Prod.mk.injEq] at H
                        obtain ⟨rfl, rfl, rfl, rfl⟩ := H
                        have p184 : 0 ≤ (x32_2 : Int) := of_decide_eq_true (by first | (with_reducible assumption) | assumption)
                        have q184 : x32_2 < (l1.length : Int) := of_decide_eq_true (by first | (with_reducible assumption) | assumption)
                        obtain ⟨ad184, e184, hx184_0⟩ := Kd.at_int HR1.out x32_2 p184 q184
                        cases e184
                        replace hx184_0 := (HB.out.cell (World.block_lt_of_cell? w _ hx184_0)).trans hx184_0
                        replace p184 := eq_true p184
                        replace q184 := eq_true q184
                        have hnb29 := NB180_181.out
                        have hnc29 := NB181_180.out
                        have hnb30 := NB180_183.out
                        have hnc30 := NB183_180.out
                        have hcz31_0 : wr.cell? ⟨gb180, 0, none⟩ = some (.int .i64 a0_0) := (blk_cell BK180.out 0).trans rfl
                        have hcz31_1 : wr.cell? ⟨gb180, 1, none⟩ = some (.int .i64 a0_1) := (blk_cell BK180.out 1).trans rfl
                        have hcz31_2 : wr.cell? ⟨gb180, 2, none⟩ = some (.slice A0_2 l0_2.length c0_2) := (blk_cell BK180.out 2).trans rfl
                        have hfz31_0 := blk_frozen BK180.out 0
                        have hfz31_1 := blk_frozen BK180.out 1
                        have hfz31_2 := blk_frozen BK180.out 2
                        have hnb32 := NB181_183.out
                        have hnc32 := NB183_181.out
                        have hcz33_0 : wr.cell? ⟨gb181, 0, none⟩ = some (.int .i64 x182000_2) := (blk_cell BK181.out 0).trans rfl
                        have hcz33_1 : wr.cell? ⟨gb181, 1, none⟩ = some (.int .i64 x182001_2) := (blk_cell BK181.out 1).trans rfl
                        have hcz33_2 : wr.cell? ⟨gb181, 2, none⟩ = some (.slice none 0 0) := (blk_cell BK181.out 2).trans rfl
                        have hfz33_0 := blk_frozen BK181.out 0
                        have hfz33_1 := blk_frozen BK181.out 1
                        have hfz33_2 := blk_frozen BK181.out 2
                        go_wp2
                        refine bodyPost_ret (results_ct rfl _ _ gb181 63 #[.int .i64 0, .int .i64 0, .slice none 0 0] (0, 0) _ rfl (by (with_reducible repeat (first | refine blk_drewN ?_ _ | refine blk_drew ?_ | refine blk_alloc ?_ _)); refine blk_put (cs := #[.int .i64 0, .int .i64 0, .slice none 0 0]) ?_ 2 _ rfl; (with_reducible repeat (first | refine blk_drewN ?_ _ | refine blk_drew ?_ | refine blk_alloc ?_ _)); refine blk_put (cs := #[.int .i64 0, .int .i64 x182001_2, .slice none 0 0]) ?_ 1 _ rfl; (with_reducible repeat (first | refine blk_drewN ?_ _ | refine blk_drew ?_ | refine blk_alloc ?_ _)); refine blk_put (cs := #[.int .i64 x182000_2, .int .i64 x182001_2, .slice none 0 0]) ?_ 0 _ rfl; (with_reducible repeat (first | refine blk_drewN ?_ _ | refine blk_drew ?_ | refine blk_alloc ?_ _)); exact BK181.out) Try.underlying63 rfl (by kernel_rfl)) rfl ?_
                        exact ⟨_, by first | rfl | (simp [errW_none, errW_some] <;> rfl) | (simp [*, errW_none, errW_some] <;> rfl), by first | exact Kd.R_nil _ _ _ _ _ | exact Kd.N_nil _ _ _ _ _ | exact Kd.V_nil _ _ _ _ _ | exact Kd.Q_nil _ _ _ _ _ | exact Kd.S_nil _ _ _ _ _, by repeat (first | (with_reducible first | exact HB.out | apply below_alloc | apply pw_below_drewN | apply below_drew1 | refine below_set ?_ GE180.out | refine below_set ?_ GE181.out | refine below_set ?_ GE183.out) | exact HB.out)⟩
                      · rw [if_neg c28] at H
                        have c28b0 : decide (a0_0 ≤ (rd l1 x32_2)) = false := decide_eq_false c28
                        clear c28
                        obtain ⟨ji34, hji34⟩ : ∃ j_ : Int, (wrap64 ((rd l1 x32_2) * a0_1)) = j_ := ⟨_, rfl⟩
                        replace H : (if 0 ≤ (ji34) then (if (ji34) ≤ (wrap64 ((wrap64 ((rd l1 x32_2) + 1)) * a0_1)) then (if (wrap64 ((wrap64 ((rd l1 x32_2) + 1)) * a0_1)) ≤ (l0_2.length : Int) then (if x184002_2.length + ((l0_2.take ((wrap64 ((wrap64 ((rd l1 x32_2) + 1)) * a0_1)) : Int).toNat).drop ((ji34) : Int).toNat).length < 17592186044416 then (matrix_Pick.l0 k2 l1 (l1.length : Int) (wrap64 (x32_2 + 1)) a0_0 a0_1 l0_2 (l1.length : Int) a0_1 (x184002_2 ++ ((l0_2.take ((wrap64 ((wrap64 ((rd l1 x32_2) + 1)) * a0_1)) : Int).toNat).drop ((ji34) : Int).toNat))) else (none)) else (none)) else (none)) else (none)) = some (r1, r2, r3, r4) := by first | (rw [hji34] at H; exact H) | (simp only [hji34] at H ⊢; exact H)
                        have hji34w : (IntKind.i64.wrap ((rd l1 x32_2) * a0_1)) = ji34 := (i64_w _).trans hji34
                        by_cases c35 : 0 ≤ (ji34)
                        · rw [if_pos c35] at H
                          have c35b0 := eq_true c35
                          have c35b1 : decide (0 ≤ (ji34)) = true := decide_eq_true c35
                          clear c35
                          by_cases c36 : (ji34) ≤ (wrap64 ((wrap64 ((rd l1 x32_2) + 1)) * a0_1))
                          · rw [if_pos c36] at H
                            have c36b0 := eq_true c36
                            have c36b1 : decide ((ji34) ≤ (wrap64 ((wrap64 ((rd l1 x32_2) + 1)) * a0_1))) = true := decide_eq_true c36
                            by_cases c37 : (wrap64 ((wrap64 ((rd l1 x32_2) + 1)) * a0_1)) ≤ (l0_2.length : Int)
                            · rw [if_pos c37] at H
                              have c37b0 := eq_true c37
                              have c37b1 : decide ((wrap64 ((wrap64 ((rd l1 x32_2) + 1)) * a0_1)) ≤ (l0_2.length : Int)) = true := decide_eq_true c37
                              by_cases c38 : x184002_2.length + ((l0_2.take ((wrap64 ((wrap64 ((rd l1 x32_2) + 1)) * a0_1)) : Int).toNat).drop ((ji34) : Int).toNat).length < 17592186044416
                              · rw [if_pos c38] at H
                                have LMc38 := Aside0.mk c38
                                clear c38
                                obtain ⟨y186, hy186⟩ : ∃ y_ : List Int, y_ = (x184002_2 ++ ((l0_2.take ((wrap64 ((wrap64 ((rd l1 x32_2) + 1)) * a0_1)) : Int).toNat).drop ((ji34) : Int).toNat)) := ⟨_, rfl⟩
                                replace H : (matrix_Pick.l0 k2 l1 (l1.length : Int) (wrap64 (x32_2 + 1)) a0_0 a0_1 l0_2 (l1.length : Int) a0_1 y186) = some (r1, r2, r3, r4) := by first | (rw [hy186]; with_reducible exact H) | (have H2_ := (Option.bind_some _ _).symm.trans H; rw [hy186]; with_reducible exact H2_) | (have H2_ := (Option.bind_some _ _).symm.trans H; with_reducible exact H2_) | with_reducible exact H | (rw [hy186]; exact H) | exact H
                                have Ny186 := Aside0.mk hy186
                                clear hy186
                                have H' := Aside0.mk H
                                clear H
                                have p184 : 0 ≤ (x32_2 : Int) := of_decide_eq_true (by first | (with_reducible assumption) | assumption)
                                have q184 : x32_2 < (l1.length : Int) := of_decide_eq_true (by first | (with_reducible assumption) | assumption)
                                obtain ⟨ad184, e184, hx184_0⟩ := Kd.at_int HR1.out x32_2 p184 q184
                                cases e184
                                replace hx184_0 := (HB.out.cell (World.block_lt_of_cell? w _ hx184_0)).trans hx184_0
                                replace p184 := eq_true p184
                                replace q184 := eq_true q184
                                have hnb39 := NB180_181.out
                                have hnc39 := NB181_180.out
                                have hnb40 := NB180_183.out
                                have hnc40 := NB183_180.out
                                have hcz41_0 : wr.cell? ⟨gb180, 0, none⟩ = some (.int .i64 a0_0) := (blk_cell BK180.out 0).trans rfl
                                have hcz41_1 : wr.cell? ⟨gb180, 1, none⟩ = some (.int .i64 a0_1) := (blk_cell BK180.out 1).trans rfl
                                have hcz41_2 : wr.cell? ⟨gb180, 2, none⟩ = some (.slice A0_2 l0_2.length c0_2) := (blk_cell BK180.out 2).trans rfl
                                have hfz41_0 := blk_frozen BK180.out 0
                                have hfz41_1 := blk_frozen BK180.out 1
                                have hfz41_2 := blk_frozen BK180.out 2
                                try go_wp2
                                have n0_ := Aside0.mk (Kd.R_drew HO_184002.out)
                                have n1_ := Aside0.mk (blk_drew BK180.out)
                                have n2_ := Aside0.mk (blk_drew BK181.out)
                                have n3_ := Aside0.mk (blk_drew BK183.out)
                                have n4_ := Aside0.mk (below_drew1 HB.out)
                                clear HO_184002
                                clear BK180
                                clear BK181
                                clear BK183
                                clear HB
                                have HO_184002 := n0_
                                have BK180 := n1_
                                have BK181 := n2_
                                have BK183 := n3_
                                have HB := n4_
                                clear n0_ n1_ n2_ n3_ n4_
                                obtain ⟨i043, hi043, _, hsz43, _⟩ := info_parts info3
                                obtain ⟨A43, hcut43, hA43, hC43⟩ := print_mid_of (P := Try.prog) (Value.int .i64) 0 22 3 .i64 .i64 Try.underlying22 hi043 hsz43 A0_2 c0_2 l0_2 (ji34) (wrap64 ((wrap64 ((rd l1 x32_2) + 1)) * a0_1)) (of_decide_eq_true (by first | (with_reducible assumption) | assumption)) (by first | omega | exact of_decide_eq_true (by first | (with_reducible assumption) | assumption)) (of_decide_eq_true (by first | (with_reducible assumption) | assumption)) HC0_2.out
                                have HR185 := Aside0.mk (Kd.C_of_reads (h1 := fun _ => rfl) (hA43 _ (Kd.reads_of_C HR0_2.out)))
                                have HC185 := Aside0.mk hC43
                                clear hA43 hC43 hi043 hsz43
                                refine start_ (n := 17) (S := fun w' => w'.cell? ⟨gb183, 0, none⟩ = some (.int .i64 (l1.length : Int)) ∧ w'.cell? ⟨gb183, 1, none⟩ = some (.int .i64 a0_1) ∧ w'.cell? ⟨gb183, 2, none⟩ = some (u184002) ∧ w'.cell? ⟨gb180, 0, none⟩ = some (.int .i64 a0_0) ∧ w'.cell? ⟨gb180, 1, none⟩ = some (.int .i64 a0_1) ∧ w'.cell? ⟨gb180, 2, none⟩ = some (.slice A0_2 l0_2.length c0_2)) (ds := [16]) #[false, false, false, false, false, false, false, false, false, false, false, false, false, false, false, false, false] (by kernel_rfl) rfl rfl ⟨(blk_cell BK183.out 0).trans rfl, (blk_cell BK183.out 1).trans rfl, (blk_cell BK183.out 2).trans rfl, (blk_cell BK180.out 0).trans rfl, (blk_cell BK180.out 1).trans rfl, (blk_cell BK180.out 2).trans rfl⟩ (fun hHeld => ?_); refine with_tabW matrix_Pick.tab12 matrix_Pick.bits12 (fun HT_ HW_ => ?_)
                                generalize wr.drew = w42 at HO_184002 BK180 BK181 BK183 HB HR185 hHeld ⊢
                                refine pure_ (i := 0) (N := some 45) (v := ?_) (a' := ?_) #[true, false, false, false, false, false, false, false, false, false, false, false, false, false, false, false, false] rfl rfl (any_of HT_.out (by kernel_rfl)) (fun _ _ _ h => h) (Or.inl ⟨by rfl, ?_⟩) ?_ ?_
                                rotate_left
                                · intro w'
                                  go_simp
                                  with_reducible rfl
                                rotate_left
                                · simp only [Act.put, List.setIfInBounds_toArray, List.set_cons_zero, List.set_cons_succ, i64_w, i32_w]
                                  rfl
                                refine pure_ (i := 2) (N := some 47) (v := ?_) (a' := ?_) #[true, false, true, false, false, false, false, false, false, false, false, false, false, false, false, false, false] rfl rfl (any_of HT_.out (by kernel_rfl)) (fun _ _ _ h => h) (Or.inl ⟨by rfl, ?_⟩) ?_ ?_
                                rotate_left
                                · intro w'
                                  go_simp
                                  with_reducible rfl
                                rotate_left
                                · simp only [Act.put, List.setIfInBounds_toArray, List.set_cons_zero, List.set_cons_succ, i64_w, i32_w]
                                  rfl
                                refine pure_ (i := 4) (N := some 49) (v := ?_) (a' := ?_) #[true, false, true, false, true, false, false, false, false, false, false, false, false, false, false, false, false] rfl rfl (any_of HT_.out (by kernel_rfl)) (fun _ _ _ h => h) (Or.inl ⟨by rfl, ?_⟩) ?_ ?_
                                rotate_left
                                · intro w'
                                  go_simp
                                  with_reducible rfl
                                rotate_left
                                · simp only [Act.put, List.setIfInBounds_toArray, List.set_cons_zero, List.set_cons_succ, i64_w, i32_w]
                                  rfl
                                refine pure_ (i := 5) (N := some 50) (v := ?_) (a' := ?_) #[true, false, true, false, true, true, false, false, false, false, false, false, false, false, false, false, false] rfl rfl (any_of HT_.out (by kernel_rfl)) (fun _ _ _ h => h) (Or.inl ⟨by rfl, ?_⟩) ?_ ?_
                                rotate_left
                                · intro w'
                                  go_simp
                                  with_reducible rfl
                                rotate_left
                                · simp only [Act.put, List.setIfInBounds_toArray, List.set_cons_zero, List.set_cons_succ, i64_w, i32_w]
                                  rfl
                                refine pure_ (i := 8) (N := some 53) (v := ?_) (a' := ?_) #[true, false, true, false, true, true, false, false, true, false, false, false, false, false, false, false, false] rfl rfl (any_of HT_.out (by kernel_rfl)) (fun _ _ _ h => h) (Or.inl ⟨by rfl, ?_⟩) ?_ ?_
                                rotate_left
                                · intro w'
                                  go_simp
                                  with_reducible rfl
                                rotate_left
                                · simp only [Act.put, List.setIfInBounds_toArray, List.set_cons_zero, List.set_cons_succ, i64_w, i32_w]
                                  rfl
                                refine pure_ (i := 9) (N := some 54) (v := ?_) (a' := ?_) #[true, false, true, false, true, true, false, false, true, true, false, false, false, false, false, false, false] rfl rfl (any_of HT_.out (by kernel_rfl)) (fun _ _ _ h => h) (Or.inl ⟨by rfl, ?_⟩) ?_ ?_
                                rotate_left
                                · intro w'
                                  go_simp
                                  with_reducible rfl
                                rotate_left
                                · simp only [Act.put, List.setIfInBounds_toArray, List.set_cons_zero, List.set_cons_succ, i64_w, i32_w]
                                  rfl
                                refine pure_ (i := 10) (N := some 55) (v := ?_) (a' := ?_) #[true, false, true, false, true, true, false, false, true, true, true, false, false, false, false, false, false] rfl rfl (any_of HT_.out (by kernel_rfl)) (fun _ _ _ h => h) (Or.inl ⟨by rfl, ?_⟩) ?_ ?_
                                rotate_left
                                · intro w'
                                  go_simp
                                  with_reducible rfl
                                rotate_left
                                · simp only [Act.put, List.setIfInBounds_toArray, List.set_cons_zero, List.set_cons_succ, i64_w, i32_w]
                                  rfl
                                refine take_ (i := 1) (N := some 46) (v := ?_) (a' := ?_) #[true, true, true, false, true, true, false, false, true, true, true, false, false, false, false, false, false] rfl rfl (take_ofW HT_.out HW_.out (by kernel_rfl)) (fun _ _ _ h => h) (Or.inl ⟨by rfl, ?_⟩) hHeld ?_ ?_
                                rotate_left
                                · rintro w' ⟨s0, s1, s2, s3, s4, s5⟩
                                  go_simp
                                  with_reducible rfl
                                rotate_left
                                · simp only [Act.put, List.setIfInBounds_toArray, List.set_cons_zero, List.set_cons_succ, i64_w, i32_w]
                                  rfl
                                refine take_ (i := 3) (N := some 48) (v := ?_) (a' := ?_) #[true, true, true, true, true, true, false, false, true, true, true, false, false, false, false, false, false] rfl rfl (take_ofW HT_.out HW_.out (by kernel_rfl)) (fun _ _ _ h => h) (Or.inl ⟨by rfl, ?_⟩) hHeld ?_ ?_
                                rotate_left
                                · rintro w' ⟨s0, s1, s2, s3, s4, s5⟩
                                  go_simp
                                  with_reducible rfl
                                rotate_left
                                · simp only [Act.put, List.setIfInBounds_toArray, List.set_cons_zero, List.set_cons_succ, i64_w, i32_w]
                                  rfl
                                refine take_ (i := 6) (N := some 51) (v := ?_) (a' := ?_) #[true, true, true, true, true, true, true, false, true, true, true, false, false, false, false, false, false] rfl rfl (take_ofW HT_.out HW_.out (by kernel_rfl)) (fun _ _ _ h => h) (Or.inl ⟨by rfl, ?_⟩) hHeld ?_ ?_
                                rotate_left
                                · rintro w' ⟨s0, s1, s2, s3, s4, s5⟩
                                  go_simp
                                  with_reducible rfl
                                rotate_left
                                · simp only [Act.put, List.setIfInBounds_toArray, List.set_cons_zero, List.set_cons_succ, i64_w, i32_w]
                                  rfl
                                refine pure_ (i := 7) (N := some 52) (v := ?_) (a' := ?_) #[true, true, true, true, true, true, true, true, true, true, true, false, false, false, false, false, false] rfl rfl (any_of HT_.out (by kernel_rfl)) (fun _ _ _ h => h) (Or.inl ⟨by rfl, ?_⟩) ?_ ?_
                                rotate_left
                                · intro w'
                                  go_simp
                                  with_reducible rfl
                                rotate_left
                                · simp only [Act.put, List.setIfInBounds_toArray, List.set_cons_zero, List.set_cons_succ, i64_w, i32_w]
                                  rfl
                                refine take_ (i := 11) (N := some 56) (v := ?_) (a' := ?_) #[true, true, true, true, true, true, true, true, true, true, true, true, false, false, false, false, false] rfl rfl (take_ofW HT_.out HW_.out (by kernel_rfl)) (fun _ _ _ h => h) (Or.inl ⟨by rfl, ?_⟩) hHeld ?_ ?_
                                rotate_left
                                · rintro w' ⟨s0, s1, s2, s3, s4, s5⟩
                                  go_simp
                                  with_reducible rfl
                                rotate_left
                                · simp only [Act.put, List.setIfInBounds_toArray, List.set_cons_zero, List.set_cons_succ, i64_w, i32_w]
                                  rfl
                                refine pure_ (i := 12) (N := some 57) (v := ?_) (a' := ?_) #[true, true, true, true, true, true, true, true, true, true, true, true, true, false, false, false, false] rfl rfl (any_of HT_.out (by kernel_rfl)) (fun _ _ _ h => h) (Or.inl ⟨by rfl, ?_⟩) ?_ ?_
                                rotate_left
                                · intro w'
                                  go_simp
                                  with_reducible rfl
                                rotate_left
                                · simp only [Act.put, List.setIfInBounds_toArray, List.set_cons_zero, List.set_cons_succ, i64_w, i32_w]
                                  rfl
                                refine pure_ (i := 13) (N := some 58) (v := ?_) (a' := ?_) #[true, true, true, true, true, true, true, true, true, true, true, true, true, true, false, false, false] rfl rfl (any_of HT_.out (by kernel_rfl)) (fun _ _ _ h => h) (Or.inl ⟨by rfl, ?_⟩) ?_ ?_
                                rotate_left
                                · intro w'
                                  go_simp
                                  with_reducible rfl
                                rotate_left
                                · simp only [Act.put, List.setIfInBounds_toArray, List.set_cons_zero, List.set_cons_succ, i64_w, i32_w]
                                  rfl
                                refine one_ (i := 14) (N := some 59) #[true, true, true, true, true, true, true, true, true, true, true, true, true, true, true, false, false] rfl rfl (one_of HT_.out (by kernel_rfl)) (by decide) (fun K hK => ?_)
                                refine Kd.R_append_rows_step (Kd.int .i64) (w0 := w) w.heap.size (by rfl) (.tmp 46) (.tmp 58) 22 3 (.int .i64 0) 8 rfl Try.underlying22 info3 rfl (by decide) (by omega) u184002 x184002_2 ((l0_2.take ((wrap64 ((wrap64 ((rd l1 x32_2) + 1)) * a0_1)) : Int).toNat).drop ((ji34) : Int).toNat) _ _ _ (fun _ => True) (fun _ => False) rfl rfl ?aO ?aR (fun _ _ h => h) (fun _ h => h.elim) ?aF ?aB ?aS ?aL ?_
                                (case aR => first | (rw [← show ((l0_2.take ((wrap64 ((wrap64 ((rd l1 x32_2) + 1)) * a0_1)) : Int).toNat).drop ((ji34) : Int).toNat).length = ((wrap64 ((wrap64 ((rd l1 x32_2) + 1)) * a0_1)).toNat - (ji34).toNat) from (by rw [List.length_drop, List.length_take]; have h_ : ((wrap64 ((wrap64 ((rd l1 x32_2) + 1)) * a0_1)) : Int) ≤ (l0_2.length : Int) := of_decide_eq_true (by first | (with_reducible assumption) | assumption); omega)]; repeat (first | exact (Kd.C_below HR185.out HB.out) | (with_reducible refine Kd.C_alloc ?_ _) | (with_reducible refine Kd.C_drewN ?_ _) | (with_reducible refine Kd.C_drew ?_))) | (repeat (first | exact (Kd.C_below HR185.out HB.out) | (with_reducible refine Kd.C_alloc ?_ _) | (with_reducible refine Kd.C_drewN ?_ _) | (with_reducible refine Kd.C_drew ?_))))
                                (case aB => exact (by repeat (first | (with_reducible first | exact HB.out | apply below_alloc | apply pw_below_drewN | apply below_drew1 | refine below_set ?_ GE180.out | refine below_set ?_ GE181.out | refine below_set ?_ GE183.out) | exact HB.out)))
                                (case aF => exact (fun _ _ => trivial))
                                (case aO => exact (by (with_reducible repeat (first | apply Kd.R_alloc | apply Kd.R_drewN | apply Kd.R_drew)); exact HO_184002.out))
                                (case aS => exact (below_size (by repeat (first | (with_reducible first | exact HB.out | apply below_alloc | apply pw_below_drewN | apply below_drew1 | refine below_set ?_ GE180.out | refine below_set ?_ GE181.out | refine below_set ?_ GE183.out) | exact HB.out))))
                                (case aL => have := LMc38.out; have hlx_ := (show ((l0_2.take ((wrap64 ((wrap64 ((rd l1 x32_2) + 1)) * a0_1)) : Int).toNat).drop ((ji34) : Int).toNat).length = ((wrap64 ((wrap64 ((rd l1 x32_2) + 1)) * a0_1)).toNat - (ji34).toNat) from (by rw [List.length_drop, List.length_take]; have h_ : ((wrap64 ((wrap64 ((rd l1 x32_2) + 1)) * a0_1)) : Int) ≤ (l0_2.length : Int) := of_decide_eq_true (by first | (with_reducible assumption) | assumption); omega)); omega)
                                intro v187 w44 ho hb hg hat
                                rw [← Ny186.out] at ho
                                have n0_ := Aside0.mk (blk_grown (g := gb180) (o := .cells #[.int .i64 a0_0, .int .i64 a0_1, .slice A0_2 l0_2.length c0_2] 63 (0, 0)) (by (with_reducible repeat (first | refine blk_drewN ?_ _ | refine blk_drew ?_ | refine blk_alloc ?_ _)); exact BK180.out) hg (Kd.R_ne HO_184002.out BK180.out (by decide)))
                                have n1_ := Aside0.mk (blk_grown (g := gb181) (o := .cells #[.int .i64 x182000_2, .int .i64 x182001_2, .slice none 0 0] 63 (0, 0)) (by (with_reducible repeat (first | refine blk_drewN ?_ _ | refine blk_drew ?_ | refine blk_alloc ?_ _)); exact BK181.out) hg (Kd.R_ne HO_184002.out BK181.out (by decide)))
                                have n2_ := Aside0.mk (blk_grown (g := gb183) (o := .cells #[.int .i64 (l1.length : Int), .int .i64 a0_1, u184002] 63 (0, 0)) (by (with_reducible repeat (first | refine blk_drewN ?_ _ | refine blk_drew ?_ | refine blk_alloc ?_ _)); exact BK183.out) hg (Kd.R_ne HO_184002.out BK183.out (by decide)))
                                have n3_ := Aside0.mk (hb)
                                have n4_ := Aside0.mk (ho)
                                clear BK180
                                clear BK181
                                clear BK183
                                clear HB
                                clear HO_184002
                                have BK180 := n0_
                                have BK181 := n1_
                                have BK183 := n2_
                                have HB := n3_
                                have HO188 := n4_
                                clear n0_ n1_ n2_ n3_ n4_
                                clear ho hb hg hat
                                obtain ⟨Ao45, co45, eo45⟩ := Kd.R_slice HO188.out
                                (first | subst eo45 | (injection eo45 with f1_ f2_ f3_; have f4_ := f1_.symm; have f5_ := f3_.symm; clear f1_ f2_ f3_; subst f4_; subst f5_))
                                refine hK.out _ _ ⟨(blk_cell BK183.out 0).trans rfl, (blk_cell BK183.out 1).trans rfl, (blk_cell BK183.out 2).trans rfl, (blk_cell BK180.out 0).trans rfl, (blk_cell BK180.out 1).trans rfl, (blk_cell BK180.out 2).trans rfl⟩ (fun hHeld => ?_)
                                clear hK K
                                refine norm_ (a' := ?_) ?_ ?_
                                rotate_left
                                · show Act.put _ (some 59) _ = _
                                  simp only [Act.put, List.setIfInBounds_toArray, List.set_cons_zero, List.set_cons_succ, i64_w, i32_w]
                                  rfl
                                refine pure_ (i := 15) (N := some 60) (v := ?_) (a' := ?_) #[true, true, true, true, true, true, true, true, true, true, true, true, true, true, true, true, false] rfl rfl (any_of HT_.out (by kernel_rfl)) (fun _ _ _ h => h) (Or.inl ⟨by rfl, ?_⟩) ?_ ?_
                                rotate_left
                                · intro w'
                                  go_simp
                                  with_reducible rfl
                                rotate_left
                                · simp only [Act.put, List.setIfInBounds_toArray, List.set_cons_zero, List.set_cons_succ, i64_w, i32_w]
                                  rfl
                                refine last_ (i := 16) (N := none) #[true, true, true, true, true, true, true, true, true, true, true, true, true, true, true, true, true] rfl rfl (one_of HT_.out (by kernel_rfl)) (by decide) (fun K hK => ?_)
                                have hs46 : w44.cell? ⟨gb183, 2, none⟩ = some (u184002) := (blk_cell BK183.out 2).trans rfl
                                have hfs46 := blk_frozen BK183.out 2
                                have hns46_0 := NB180_183.out
                                have hns46_1 := NB181_183.out
                                have hms46_0 := NB183_180.out
                                have hms46_1 := NB183_181.out
                                refine skip_ (w1 := ?_) (by rfl) rfl ?_ ?_
                                rotate_left
                                · go_simp
                                  rfl
                                refine hK.out _ _ ?_
                                clear hK K
                                refine done_ (done_of HT_.out (by kernel_rfl)) ?_
                                try go_wp2
                                go_roundg k2
                                case measure => have := HJ4.out; have := HK2.out; omega
                                case rel => exact ⟨(wrap64 (x32_2 + 1)), (x182000_2), (x182001_2), (y186), (.slice Ao45 y186.length co45), (by first | rfl | (simp; done) | (simp [*]; done)), H', ⟨by have := HJ4.out; have := HK2.out; omega⟩, ⟨by (with_reducible repeat (first | apply Kd.R_alloc | apply Kd.R_drewN | apply Kd.R_drew)); exact Kd.R_mono (Kd.R_far (p := ⟨gb183, 2, none⟩) (Kd.R_types HO188.out BK183.out (by decide)) (fun _ hk => hk.2) (.slice Ao45 y186.length co45)) (fun _ hk => trivial)⟩, ⟨by (with_reducible repeat (first | refine blk_drewN ?_ _ | refine blk_drew ?_ | refine blk_alloc ?_ _)); refine blk_far ?_ NB180_183.out _; (with_reducible repeat (first | refine blk_drewN ?_ _ | refine blk_drew ?_ | refine blk_alloc ?_ _)); exact BK180.out⟩, ⟨by (with_reducible repeat (first | refine blk_drewN ?_ _ | refine blk_drew ?_ | refine blk_alloc ?_ _)); refine blk_far ?_ NB181_183.out _; (with_reducible repeat (first | refine blk_drewN ?_ _ | refine blk_drew ?_ | refine blk_alloc ?_ _)); exact BK181.out⟩, ⟨by (with_reducible repeat (first | refine blk_drewN ?_ _ | refine blk_drew ?_ | refine blk_alloc ?_ _)); refine blk_put (cs := #[.int .i64 (l1.length : Int), .int .i64 a0_1, u184002]) ?_ 2 _ rfl; (with_reducible repeat (first | refine blk_drewN ?_ _ | refine blk_drew ?_ | refine blk_alloc ?_ _)); exact BK183.out⟩, ⟨by repeat (first | (with_reducible first | exact HB.out | apply below_alloc | apply pw_below_drewN | apply below_drew1 | refine below_set ?_ GE180.out | refine below_set ?_ GE181.out | refine below_set ?_ GE183.out) | exact HB.out)⟩⟩
                              · rw [if_neg c38] at H
                                exact absurd H (by simp)
                            · rw [if_neg c37] at H
                              exact absurd H (by simp)
                          · rw [if_neg c36] at H
                            exact absurd H (by simp)
                        · rw [if_neg c35] at H
                          exact absurd H (by simp)
                  · rw [if_neg c23] at H
                    exact absurd H (by simp)
                · rw [if_neg c22] at H
                  exact absurd H (by simp)
              · rw [if_neg c21] at H
                have c21b0 : decide (x32_2 < (l1.length : Int)) = false := decide_eq_false c21
                clear c21
                simp only [Option.some.injEq, Prod.mk.injEq] at H
                obtain ⟨rfl, rfl, rfl, rfl⟩ := H
                have hnb47 := NB183_180.out
                have hnc47 := NB180_183.out
                have hnb48 := NB183_181.out
                have hnc48 := NB181_183.out
                have hcz49_0 : wr.cell? ⟨gb183, 0, none⟩ = some (.int .i64 (l1.length : Int)) := (blk_cell BK183.out 0).trans rfl
                have hcz49_1 : wr.cell? ⟨gb183, 1, none⟩ = some (.int .i64 a0_1) := (blk_cell BK183.out 1).trans rfl
                have hcz49_2 : wr.cell? ⟨gb183, 2, none⟩ = some (u184002) := (blk_cell BK183.out 2).trans rfl
                have hfz49_0 := blk_frozen BK183.out 0
                have hfz49_1 := blk_frozen BK183.out 1
                have hfz49_2 := blk_frozen BK183.out 2
                have hnb50 := NB181_180.out
                have hnc50 := NB180_181.out
                have hcz51_0 : wr.cell? ⟨gb181, 0, none⟩ = some (.int .i64 x182000_2) := (blk_cell BK181.out 0).trans rfl
                have hcz51_1 : wr.cell? ⟨gb181, 1, none⟩ = some (.int .i64 x182001_2) := (blk_cell BK181.out 1).trans rfl
                have hcz51_2 : wr.cell? ⟨gb181, 2, none⟩ = some (.slice none 0 0) := (blk_cell BK181.out 2).trans rfl
                have hfz51_0 := blk_frozen BK181.out 0
                have hfz51_1 := blk_frozen BK181.out 1
                have hfz51_2 := blk_frozen BK181.out 2
                obtain ⟨Ao52, co52, eo52⟩ := Kd.R_slice HO_184002.out
                subst eo52
                go_wp2
                refine bodyPost_ret (results_ct rfl _ _ gb181 63 #[.int .i64 (l1.length : Int), .int .i64 a0_1, .slice Ao52 x184002_2.length co52] (0, 0) _ rfl (by (with_reducible repeat (first | refine blk_drewN ?_ _ | refine blk_drew ?_ | refine blk_alloc ?_ _)); refine blk_put (cs := #[.int .i64 (l1.length : Int), .int .i64 a0_1, .slice none 0 0]) ?_ 2 _ rfl; (with_reducible repeat (first | refine blk_drewN ?_ _ | refine blk_drew ?_ | refine blk_alloc ?_ _)); refine blk_put (cs := #[.int .i64 (l1.length : Int), .int .i64 x182001_2, .slice none 0 0]) ?_ 1 _ rfl; (with_reducible repeat (first | refine blk_drewN ?_ _ | refine blk_drew ?_ | refine blk_alloc ?_ _)); refine blk_put (cs := #[.int .i64 x182000_2, .int .i64 x182001_2, .slice none 0 0]) ?_ 0 _ rfl; (with_reducible repeat (first | refine blk_drewN ?_ _ | refine blk_drew ?_ | refine blk_alloc ?_ _)); exact BK181.out) Try.underlying63 rfl (by kernel_rfl)) rfl ?_
                exact ⟨_, by first | rfl | (simp [errW_none, errW_some] <;> rfl) | (simp [*, errW_none, errW_some] <;> rfl), by (with_reducible repeat (first | apply Kd.R_alloc | apply Kd.R_drewN | apply Kd.R_drew)); exact Kd.R_mono (Kd.R_far (p := ⟨gb181, 2, none⟩) (Kd.R_far (p := ⟨gb181, 1, none⟩) (Kd.R_far (p := ⟨gb181, 0, none⟩) (Kd.R_types HO_184002.out BK181.out (by decide)) (fun _ hk => hk.2) (.int .i64 (l1.length : Int))) (fun _ hk => hk.2) (.int .i64 a0_1)) (fun _ hk => hk.2) (.slice Ao52 x184002_2.length co52)) (fun _ hk => trivial), by repeat (first | (with_reducible first | exact HB.out | apply below_alloc | apply pw_below_drewN | apply below_drew1 | refine below_set ?_ GE180.out | refine below_set ?_ GE181.out | refine below_set ?_ GE183.out) | exact HB.out)⟩
  · rw [if_neg c4] at H
    have c4b0 : (t182 == 0) = false := beq_eq_false_iff_ne.mpr c4
    have c4b1 : (t182 != 0) = true := bne_iff_ne.mpr c4
    simp only [Option.some.injEq, Prod.mk.injEq] at H
    obtain ⟨rfl, rfl, rfl, rfl⟩ := H
    go_enter Try.func38, Try.ntmps38
    go_wp2_with (first | ((with_reducible refine gate_dst (N := 2) rfl ?_); (try (refine gate_guard (by rfl) ?_; dsimp only)); refine box_event ?hg (N := 2) ?hd (cs := #[.int .i64 a0_0, .int .i64 a0_1, .slice A0_2 l0_2.length c0_2]) (t := 63) ?hr ?_; (case hd => rfl); (case hg => rfl); (case hr => first | (go_simp; done) | (go_simp; rfl)); intro gb180 hg w53 hbox hb; have n0_ := Aside0.mk (below_step (by repeat (first | (with_reducible first | exact HB.out | apply below_alloc | apply pw_below_drewN | apply below_drew1) | exact HB.out)) hb); have n1_ := Aside0.mk (hbox); have n2_ := Aside0.mk ((by rw [hg]; exact (below_size (by repeat (first | (with_reducible first | exact HB.out | apply below_alloc | apply pw_below_drewN | apply below_drew1) | exact HB.out))) : w.heap.size ≤ gb180)); have n3_ := Aside0.mk ((by rw [hg]; exact (below_size (by repeat (first | (with_reducible first | exact HB.out | apply below_alloc | apply pw_below_drewN | apply below_drew1) | exact HB.out))) : w.heap.size ≤ gb180)); clear HB; have HB := n0_; have BK180 := n1_; have GW180 := n2_; have GE180 := n3_; clear n0_ n1_ n2_ n3_; clear hb hbox hg) | ((with_reducible refine gate_dst (N := 4) rfl ?_); (try (refine gate_guard (by rfl) ?_; dsimp only)); refine box_event ?hg (N := 4) ?hd (cs := #[.int .i64 0, .int .i64 0, .slice none 0 0]) (t := 63) ?hr ?_; (case hd => rfl); (case hg => rfl); (case hr => first | (go_simp; done) | (go_simp; rfl)); intro gb181 hg w54 hbox hb; have n0_ := Aside0.mk (blk_below (g := gb180) (o := .cells #[.int .i64 a0_0, .int .i64 a0_1, .slice A0_2 l0_2.length c0_2] 63 (0, 0)) (by (with_reducible repeat (first | refine blk_drewN ?_ _ | refine blk_drew ?_ | refine blk_alloc ?_ _)); exact BK180.out) hb); have n1_ := Aside0.mk (below_step (by repeat (first | (with_reducible first | exact HB.out | apply below_alloc | apply pw_below_drewN | apply below_drew1 | refine below_set ?_ GE180.out) | exact HB.out)) hb); have n2_ := Aside0.mk (hbox); have n3_ := Aside0.mk ((by rw [hg]; exact (below_size (by repeat (first | (with_reducible first | exact HB.out | apply below_alloc | apply pw_below_drewN | apply below_drew1 | refine below_set ?_ GE180.out) | exact HB.out))) : w.heap.size ≤ gb181)); have n4_ := Aside0.mk ((by rw [hg]; exact (below_size (by repeat (first | (with_reducible first | exact HB.out | apply below_alloc | apply pw_below_drewN | apply below_drew1 | refine below_set ?_ GE180.out) | exact HB.out))) : w.heap.size ≤ gb181)); have n5_ := Aside0.mk ((by rw [hg]; exact Nat.ne_of_lt (blk_lt (g := gb180) (o := .cells #[.int .i64 a0_0, .int .i64 a0_1, .slice A0_2 l0_2.length c0_2] 63 (0, 0)) (by (with_reducible repeat (first | refine blk_drewN ?_ _ | refine blk_drew ?_ | refine blk_alloc ?_ _)); exact BK180.out)) : gb180 ≠ gb181)); have n6_ := Aside0.mk ((by rw [hg]; exact Nat.ne_of_gt (blk_lt (g := gb180) (o := .cells #[.int .i64 a0_0, .int .i64 a0_1, .slice A0_2 l0_2.length c0_2] 63 (0, 0)) (by (with_reducible repeat (first | refine blk_drewN ?_ _ | refine blk_drew ?_ | refine blk_alloc ?_ _)); exact BK180.out)) : gb181 ≠ gb180)); clear BK180; clear HB; have BK180 := n0_; have HB := n1_; have BK181 := n2_; have GW181 := n3_; have GE181 := n4_; have NB180_181 := n5_; have NB181_180 := n6_; clear n0_ n1_ n2_ n3_ n4_ n5_ n6_; clear hb hbox hg; have hnb55 := NB180_181.out; have hnc55 := NB181_180.out; have hcz56_0 : w54.cell? ⟨gb180, 0, none⟩ = some (.int .i64 a0_0) := (blk_cell BK180.out 0).trans rfl; have hcz56_1 : w54.cell? ⟨gb180, 1, none⟩ = some (.int .i64 a0_1) := (blk_cell BK180.out 1).trans rfl; have hcz56_2 : w54.cell? ⟨gb180, 2, none⟩ = some (.slice A0_2 l0_2.length c0_2) := (blk_cell BK180.out 2).trans rfl; have hfz56_0 := blk_frozen BK180.out 0; have hfz56_1 := blk_frozen BK180.out 1; have hfz56_2 := blk_frozen BK180.out 2) | ((with_reducible refine gate_callee (f := 55) rfl ?_); refine goesL_ (some 11) rfl rfl Try.func55 (by kernel_rfl) rfl #[.agg #[.int .i64 a0_0, .int .i64 a0_1, .slice A0_2 l0_2.length c0_2]] rfl (by (try simp only [List.map_toArray, List.map_cons, List.map_nil]); first | done | rfl | (simp only [List.length_drop, List.length_take]; rfl)) ?_; (with_reducible refine (matrix_Check.calls k a0_0 a0_1 _ _ l0_2 t182 _ ?side1 ?side2 A3.out).mono ?_); (case side1 => repeat (first | exact (Kd.C_below HR0_2.out HB.out) | (with_reducible refine Kd.C_alloc ?_ _) | (with_reducible refine Kd.C_drewN ?_ _) | (with_reducible refine Kd.C_drew ?_))); (case side2 => exact HC0_2.out); rintro e w57 ⟨rfl, hb⟩; refine ⟨_, rfl, ?_⟩; have n0_ := Aside0.mk (blk_below (g := gb180) (o := .cells #[.int .i64 a0_0, .int .i64 a0_1, .slice A0_2 l0_2.length c0_2] 63 (0, 0)) (by (with_reducible repeat (first | refine blk_drewN ?_ _ | refine blk_drew ?_ | refine blk_alloc ?_ _)); exact BK180.out) hb); have n1_ := Aside0.mk (blk_below (g := gb181) (o := .cells #[.int .i64 0, .int .i64 0, .slice none 0 0] 63 (0, 0)) (by (with_reducible repeat (first | refine blk_drewN ?_ _ | refine blk_drew ?_ | refine blk_alloc ?_ _)); exact BK181.out) hb); have n2_ := Aside0.mk (below_step (by repeat (first | (with_reducible first | exact HB.out | apply below_alloc | apply pw_below_drewN | apply below_drew1 | refine below_set ?_ GE180.out | refine below_set ?_ GE181.out) | exact HB.out)) hb); clear BK180; clear BK181; clear HB; have BK180 := n0_; have BK181 := n1_; have HB := n2_; clear n0_ n1_ n2_; (try clear hb); (try clear hb2); (try clear hk); (try clear hi); have hcz58_0 : w57.cell? ⟨gb181, 0, none⟩ = some (.int .i64 0) := (blk_cell BK181.out 0).trans rfl; have hcz58_1 : w57.cell? ⟨gb181, 1, none⟩ = some (.int .i64 0) := (blk_cell BK181.out 1).trans rfl; have hcz58_2 : w57.cell? ⟨gb181, 2, none⟩ = some (.slice none 0 0) := (blk_cell BK181.out 2).trans rfl; have hfz58_0 := blk_frozen BK181.out 0; have hfz58_1 := blk_frozen BK181.out 1; have hfz58_2 := blk_frozen BK181.out 2))
    refine bodyPost_ret (results_ct rfl _ _ gb181 63 #[.int .i64 0, .int .i64 0, .slice none 0 0] (0, 0) _ rfl (by (with_reducible repeat (first | refine blk_drewN ?_ _ | refine blk_drew ?_ | refine blk_alloc ?_ _)); refine blk_put (cs := #[.int .i64 0, .int .i64 0, .slice none 0 0]) ?_ 2 _ rfl; (with_reducible repeat (first | refine blk_drewN ?_ _ | refine blk_drew ?_ | refine blk_alloc ?_ _)); refine blk_put (cs := #[.int .i64 0, .int .i64 0, .slice none 0 0]) ?_ 1 _ rfl; (with_reducible repeat (first | refine blk_drewN ?_ _ | refine blk_drew ?_ | refine blk_alloc ?_ _)); refine blk_put (cs := #[.int .i64 0, .int .i64 0, .slice none 0 0]) ?_ 0 _ rfl; (with_reducible repeat (first | refine blk_drewN ?_ _ | refine blk_drew ?_ | refine blk_alloc ?_ _)); exact BK181.out) Try.underlying63 rfl (by kernel_rfl)) rfl ?_
    exact ⟨_, by first | rfl | (simp [errW_none, errW_some] <;> rfl) | (simp [*, errW_none, errW_some] <;> rfl), by first | exact Kd.R_nil _ _ _ _ _ | exact Kd.N_nil _ _ _ _ _ | exact Kd.V_nil _ _ _ _ _ | exact Kd.Q_nil _ _ _ _ _ | exact Kd.S_nil _ _ _ _ _, by repeat (first | (with_reducible first | exact HB.out | apply below_alloc | apply pw_below_drewN | apply below_drew1 | refine below_set ?_ GE180.out | refine below_set ?_ GE181.out) | exact HB.out)⟩

end Go.Proofs.Ytgmadofbelhmeaa.L
end
section
/- erasure.Decode: the plain part. -/
namespace Go.Proofs.Ytgmadofbelhmeaa.L
open Go.RowKit Go.Proofs.YtgmadofbelhmeaaW.PrintWords Go.Proofs.YtgmadofbelhmeaaW.PrintLast Go.Proofs.YtgmadofbelhmeaaW.PrintMore
set_option linter.unusedVariables false
set_option linter.unusedSimpArgs false

/-- A number of rounds that is enough for all that is at most some thousand long. -/
def KK : Nat := 5000
def decodeTo (cells : List Int) (n : Nat) (parts : List ByteArray) (len : Int) : Nat → Option (List UInt8)
  | 0 => some []
  | i + 1 => (decodeTo cells n parts len i).bind fun b => (erasure_shard.f KK (cut cells n i) parts len).bind fun s => if b.length + s.size ≤ 1000000 then some (b ++ s.data.toList) else none
def usedS (l : List S37) (n : Nat) : List S37 := (sortS l).take n
def erasure_Decode.f (a0_0 a0_1 a1 : Int) (l2 : List S37) : Option (ByteArray × Int) :=
  (erasure_look.f a0_0 a0_1 a1 l2).bind fun t => if t.2 = 0 then
    ((erasure_rowsOf.f KK a0_0 a0_1).bind fun m => (matrix_Pick.f KK m.1 m.2.1 m.2.2 ((usedS l2 a0_0.toNat).map S37.f0)).bind fun p =>
      (matrix_Inverse.f p.1 p.2.1 p.2.2.1).bind fun q => if q.2.2.1.length = a0_0.toNat * a0_0.toNat then
        ((decodeTo q.2.2.1 a0_0.toNat ((usedS l2 a0_0.toNat).map S37.f1) t.1 a0_0.toNat).bind fun b => if a1 ≤ b.length then some ((⟨b.toArray⟩ : ByteArray).extract 0 a1.toNat, 0) else none)
      else none)
  else some (⟨#[]⟩, t.2)

theorem look_in {all len : Int} : ∀ {l : List S37} {seen : Nat → Bool}, lookAt all len l seen = 0 → (∀ s, s ∈ l → 0 ≤ s.f0 ∧ s.f0 < all ∧ (s.f1.size : Int) = len ∧ seen s.f0.toNat = false) ∧ l.Pairwise (fun a b => a.f0 ≠ b.f0)
  | [], seen, h => ⟨fun s hs => absurd hs (by simp), List.Pairwise.nil⟩
  | x :: l, seen, h => by
    unfold lookAt at h
    split at h
    · cases h
    · rename_i h1
      split at h
      · cases h
      · rename_i h2
        split at h
        · cases h
        · rename_i h3
          split at h
          · cases h
          · rename_i h4
            obtain ⟨ha, hb⟩ := look_in h
            have hx : 0 ≤ x.f0 ∧ x.f0 < all ∧ (x.f1.size : Int) = len ∧ seen x.f0.toNat = false := ⟨by omega, by omega, by simpa using h3, by simpa using h4⟩
            refine ⟨fun s hs => ?_, List.pairwise_cons.2 ⟨fun s hs => ?_, hb⟩⟩
            · rcases List.mem_cons.1 hs with rfl | hs
              · exact hx
              · obtain ⟨b1, b2, b3, b4⟩ := ha s hs
                refine ⟨b1, b2, b3, ?_⟩
                by_cases e : s.f0.toNat = x.f0.toNat
                · rw [if_pos e] at b4
                  cases b4
                · rw [if_neg e] at b4
                  exact b4
            · obtain ⟨b1, b2, b3, b4⟩ := ha s hs
              intro e
              rw [if_pos (by rw [e])] at b4
              cases b4
/-- Different numbers below 16 are at most 16. -/
theorem idx_length {l : List S37} (h : Idx l) : l.length ≤ 16 := by
  have hn : (l.map fun s => s.f0.toNat).Nodup := by
    unfold List.Nodup
    rw [List.pairwise_map]
    refine List.Pairwise.imp_of_mem ?_ h.2
    intro a b ha hb hab e
    have h1 := h.1 a ha
    have h2 := h.1 b hb
    omega
  have hs : (l.map fun s => s.f0.toNat) ⊆ List.range 16 := by
    intro x hx
    obtain ⟨s, hs, rfl⟩ := List.mem_map.1 hx
    have := h.1 s hs
    exact List.mem_range.2 (by omega)
  have := hn.length_le_of_subset hs
  simpa using this
theorem look_idx {a0 a1 s len : Int} {l : List S37} (h : erasure_look.f a0 a1 s l = some (len, 0)) : Idx l ∧ 1 ≤ a0 ∧ a0 ≤ a1 ∧ a1 ≤ 16 ∧ 0 ≤ s ∧ (a0 : Int) ≤ l.length ∧ (∀ x, x ∈ l → x.f0 < a1 ∧ (x.f1.size : Int) = len) ∧ erasure_Length.f a0 a1 s = some (len, 0) := by
  unfold erasure_look.f at h
  replace h := Option.bind_eq_some_iff.mp h
  obtain ⟨⟨t1, t2⟩, hL, h⟩ := h
  simp only at h
  split at h
  · rename_i ht
    subst ht
    obtain ⟨g1, g2, g3, g4⟩ := length_all hL
    split at h
    · rename_i hz
      split at h
      · simp at h
      · rename_i hn
        injection h with h
        injection h with h h'
        subst h
        obtain ⟨ha, hb⟩ := look_in hz
        exact ⟨⟨fun x hx => by have := ha x hx; omega, hb⟩, g1, g2, g3, g4, by omega, fun x hx => ⟨(ha x hx).2.1, (ha x hx).2.2.1⟩, hL⟩
    · rename_i hz
      injection h with h
      injection h with h h'
      exact absurd h' hz
  · rename_i ht
    injection h with h
    injection h with h h'
    exact absurd h' ht
theorem decodeTo_succ {cells : List Int} {n : Nat} {parts : List ByteArray} {len : Int} {i : Nat} {b : List UInt8} (h : decodeTo cells n parts len (i + 1) = some b) :
    ∃ b0 s, decodeTo cells n parts len i = some b0 ∧ erasure_shard.f KK (cut cells n i) parts len = some s ∧ b0.length + s.size ≤ 1000000 ∧ b = b0 ++ s.data.toList := by
  unfold decodeTo at h
  replace h := Option.bind_eq_some_iff.mp h
  obtain ⟨b0, h0, h⟩ := h
  replace h := Option.bind_eq_some_iff.mp h
  obtain ⟨s, h1, h⟩ := h
  split at h
  · rename_i h2
    injection h with h
    exact ⟨b0, s, h0, h1, h2, h.symm⟩
  · cases h
theorem decodeTo_upto {cells : List Int} {n : Nat} {parts : List ByteArray} {len : Int} {i : Nat} : ∀ (m : Nat) {b : List UInt8}, decodeTo cells n parts len m = some b → i ≤ m → ∃ b', decodeTo cells n parts len i = some b'
  | 0, b, h, hi => by
    obtain rfl : i = 0 := by omega
    exact ⟨b, h⟩
  | m + 1, b, h, hi => by
    by_cases e : i = m + 1
    · subst e
      exact ⟨b, h⟩
    · obtain ⟨b0, s, h0, _⟩ := decodeTo_succ h
      exact decodeTo_upto m h0 (by omega)
theorem C_cut {W : World} {g n i : Nat} {l : List Int} (h : (Kd.int .i64).C W (some ⟨g, 0, none⟩) l.length l) (hl : l.length = n * n) (hi : i < n) (hn : n ≤ 16) : (Kd.int .i64).C W (some ⟨g, i * n, none⟩) (cut l n i).length (cut l n i) := by
  have hc := cut_length hl hi
  have hb : i * n + n ≤ n * n := by have : (i + 1) * n ≤ n * n := Nat.mul_le_mul_right _ hi; rw [Nat.succ_mul] at this; exact this
  refine ⟨rfl, by omega, fun _ => ⟨_, rfl, fun j p hj => ⟨[.int .i64 p], rfl, rfl, fun q u hu => ?_⟩⟩⟩
  have hjl := (List.getElem?_eq_some_iff.1 hj).1
  have hq : q = 0 := by
    have := (List.getElem?_eq_some_iff.1 hu).1
    simpa using this
  subst hq
  have hu' : Value.int .i64 p = u := by simpa using hu
  subst hu'
  have hcg := cut_getD (l := l) hi (show j < n by omega)
  rw [List.getD_eq_getElem?_getD, hj] at hcg
  obtain ⟨ad, e, hcell⟩ := Kd.at_int h ((i * n + j : Nat) : Int) (by omega) (by omega)
  cases e
  rw [Int.toNat_natCast, add_plain] at hcell
  have e1 : rd l ((i * n + j : Nat) : Int) = p := by
    unfold rd
    rw [Int.toNat_natCast, ← hcg]
    rfl
  rw [e1] at hcell
  have e2 : (⟨g, i * n, none⟩ : Addr).add (j * (Kd.int .i64).sz + 0) = ⟨g, i * n + j, none⟩ := by
    show (⟨g, i * n, none⟩ : Addr).add (j * 1 + 0) = _
    rw [Nat.mul_one, Nat.add_zero]
    unfold Addr.add
    split <;> simp_all
  rw [e2]
  exact hcell
theorem size_alloc' (w : World) (o : Obj) : (w.alloc o).heap.size = w.heap.size + 1 := by simp
theorem blk_new1 (w : World) (A B : Obj) : ((w.alloc A).alloc B).heap[w.heap.size + 1]? = some B := by
  have h := blk_new (w.alloc A) B
  rwa [size_alloc'] at h
theorem blk_new2 (w : World) (A B C : Obj) : (((w.alloc A).alloc B).alloc C).heap[w.heap.size + 2]? = some C := by
  have h := blk_new ((w.alloc A).alloc B) C
  rwa [size_alloc', size_alloc'] at h
theorem grown_box {α : Type} (d : Kd α) (e : Nat) {W w1 : World} (base : Nat) (ok : Nat → Prop) {v : Value} (xs : List α) {g t : Nat} {cells : Array Value} (hg : W.grownBy w1 v.ownBlock) (h : d.R e W base ok v xs) (hb : W.heap[g]? = some (.cells cells t (0, 0))) (ht : e ≠ t) : w1.heap[g]? = some (.cells cells t (0, 0)) := blk_grown hb hg (Kd.R_ne h hb ht)
theorem over_row {α β : Type} (d : Kd α) (d' : Kd β) (e e' : Nat) {W w1 : World} (b : Nat) (ok : Nat → Prop) {u v : Value} (xs : List α) (ys : List β) (hg : W.grownBy w1 v.ownBlock) (h : d.R e W b ok u xs) (hv : d'.R e' W b ok v ys) (ht : ∀ q, q ∈ e :: d.E → q ≠ e') : d.R e w1 b ok u xs := Kd.R_over h hv ht hg
theorem reads_one {α : Type} (enc : α → Value) {W : World} {b : Nat} {T : TypeId} {x : α} (h : W.heap[b]? = some (.cells #[enc x] T (0, 0))) : ReadsRow (fun x cs => cs = [enc x]) 1 W (some ⟨b, 0, none⟩) 1 [x] :=
  ⟨rfl, by decide, fun _ => ⟨_, rfl, fun j p hj => by
    have hj0 : j = 0 := by
      have := (List.getElem?_eq_some_iff.1 hj).1
      simpa using this
    subst hj0
    have hp : x = p := by simpa using hj
    subst hp
    refine ⟨[enc x], rfl, rfl, fun i u hu => ?_⟩
    have hi0 : i = 0 := by
      have := (List.getElem?_eq_some_iff.1 hu).1
      simpa using this
    subst hi0
    have hu' : enc x = u := by simpa using hu
    subst hu'
    exact (blk_cell h 0).trans rfl⟩⟩
theorem mul_w0 {i n : Nat} (hi : i < n) (hn : n ≤ 16) : wrap64 ((i : Int) * (n : Int)) = ((i * n : Nat) : Int) := by
  have h : i * n ≤ 16 * 16 := Nat.mul_le_mul (by omega) hn
  rw [← Int.natCast_mul, w64] <;> omega
theorem mul_w1 {i n : Nat} (hi : i < n) (hn : n ≤ 16) : wrap64 (((i : Int) + 1) * (n : Int)) = (((i + 1) * n : Nat) : Int) := by
  have h : (i + 1) * n ≤ 16 * 16 := Nat.mul_le_mul (by omega) hn
  have e : ((i : Int) + 1) * (n : Int) = (((i + 1) * n : Nat) : Int) := by rw [Int.natCast_mul]; rfl
  rw [e, w64] <;> omega
theorem builder_below {w w1 : World} {B b : Nat} {bs : List Value} (h : Lib.IsBuilder 76 5 B b bs w) (hb : Below w.heap.size w w1) : Lib.IsBuilder 76 5 B b bs w1 := by
  rcases h with ⟨h1, v, h2, h3, h4⟩ | ⟨h1, v, h2, h3, h4⟩
  · exact .inl ⟨h1, v, blk_below h2 hb, pw_own_below h3 hb, h4⟩
  · exact .inr ⟨h1, v, blk_below h2 hb, pw_own_below h3 hb, h4⟩
theorem builder_lt {w : World} {B b : Nat} {bs : List Value} (h : Lib.IsBuilder 76 5 B b bs w) : B ≤ w.heap.size := by
  rcases h with h | h
  · exact Nat.le_trans h.1 (Nat.le_of_lt h.lt)
  · exact Nat.le_trans h.1 (Nat.le_of_lt h.lt)
theorem bytes_join (b : List UInt8) (s : ByteArray) : Lib.byteCells b ++ Lib.strCells s = Lib.byteCells (b ++ s.data.toList) := by
  rw [Lib.byteCells_append]; rfl
theorem bytes_len (b : List UInt8) : (Lib.byteCells b).length = b.length := by simp [Lib.byteCells]
theorem C_cut2 {W : World} {g n i lo hi2 : Nat} {l : List Int} (h : (Kd.int .i64).C W (some ⟨g, 0, none⟩) l.length l) (hl : l.length = n * n) (hi : i < n) (hn : n ≤ 16) (hlo : lo = i * n) (hhi : hi2 = (i + 1) * n) : (Kd.int .i64).C W (some ⟨g, lo, none⟩) (hi2 - lo) (cut l n i) := by
  have hc := cut_length hl hi
  have e : hi2 - lo = (cut l n i).length := by rw [hc, hhi, hlo, Nat.succ_mul]; omega
  rw [e, hlo]
  exact C_cut h hl hi hn
theorem shard_call {g n i lo hi2 c7 : Nat} {l : List Int} (hl : l.length = n * n) (hi : i < n) (hlo : lo = i * n) (hhi : hi2 = (i + 1) * n) (hc : hi2 ≤ c7) (A1 : Option Addr) (c1 m : Nat) (l1 : List ByteArray) (hm : l1.length = m) (a2 : Int) (r : ByteArray) (w : World) (hr0 : (Kd.int .i64).C w (some ⟨g, lo, none⟩) (hi2 - lo) (cut l n i)) (hr1 : Kd.C Kd.string w A1 m l1) (hc1 : m ≤ c1) (h : erasure_shard.f KK (cut l n i) l1 a2 = some r) :
    Calls Try.prog 32 #[.slice (some ⟨g, lo, none⟩) (hi2 - lo) (c7 - lo), .slice A1 m c1, .int .i64 a2] w fun e w' => e = .returned (.string r) ∧ Below w.heap.size w w' := by
  subst hm
  have hcl := cut_length hl hi
  have e : hi2 - lo = (cut l n i).length := by rw [hcl, hhi, hlo, Nat.succ_mul]; omega
  rw [e] at hr0 ⊢
  exact erasure_shard.calls KK _ _ _ _ _ _ _ _ _ hr0 (by omega) hr1 hc1 h
end Go.Proofs.Ytgmadofbelhmeaa.L
end
