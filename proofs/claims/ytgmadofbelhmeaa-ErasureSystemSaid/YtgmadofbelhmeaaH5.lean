/- Texts of this claim, put together by a small program of the session's own: F17, F13, F27, MSomeA, MSome, E37, MAgree, PA, PB, PC0. -/
import Derived.Test.YtgmadofbelhmeaaH0
import Derived.Test.YtgmadofbelhmeaaH4
import Derived.Test.YtgmadofbelhmeaaH2
import Derived.Test.YtgmadofbelhmeaaH3
import Derived.Deep.Upon
import Derived.Deep.RegionLaw
import Derived.Test.YtgmadofbelhmeaaH1
section
-- Printed for this claim by a small program of the session's own, drv.py, round the kit's print.py. Lean checks it.
namespace Go.Proofs.Ytgmadofbelhmeaa.L
open Go.RowKit Go.Proofs.YtgmadofbelhmeaaW.PrintWords Go.Proofs.YtgmadofbelhmeaaW.PrintLast Go.Proofs.YtgmadofbelhmeaaW.PrintMore
attribute [local go_sem] max2_int min2_int max_two min_two max_three min_three max_four min_four   -- for this text's walks alone
set_option linter.unusedVariables false
set_option linter.unusedSimpArgs false

/-! ### storagebartermake_Deck_Next: function 17 -/
def storagebartermake_Deck_Next.f (s0_0 : List Int) (s0_1 : Int) (a1 : Int) : Option (Int × Int) := if a1 < 1 then (some (0, s0_1)) else (if s0_1 ≥ (s0_0.length : Int) then (some (0, s0_1)) else (if 0 ≤ s0_1 then (if s0_1 < (s0_0.length : Int) then ((storagebartermake_Mod.f (rd s0_0 s0_1) a1).bind fun t214 => (some (t214, wrap64 (s0_1 + 1)))) else (none)) else (none)))
set_option maxHeartbeats 8000000 in
set_option maxRecDepth 100000 in
theorem storagebartermake_Deck_Next.calls (g : Nat) (s0_0 : List Int) (s0_1 : Int) (a1 : Int) (r1 : Int) (r2 : Int) (w0 w : World) (hI : IsS59 w0 w g s0_0 s0_1) (hB : Below w0.heap.size w0 w) (h : storagebartermake_Deck_Next.f s0_0 s0_1 a1 = some (r1, r2)) :
    Calls Try.prog 17 #[.pointer (some ⟨g, 0, none⟩), .int .i64 a1] w fun e w' => e = .returned (.int .i64 r1) ∧ IsS59 w0 w' g s0_0 r2 ∧ Below w0.heap.size w0 w' ∧ KeepBut w w' g none := by
  have HI0 := Aside0.mk hI
  have HK := Aside0.mk (KeepBut.refl w g none)
  have HL := Aside0.mk hB.size
  clear hI
  have HW0 := Aside0.mk hB.size
  have HB := Aside0.mk hB
  clear hB
  have H : (if a1 < 1 then (some (0, s0_1)) else (if s0_1 ≥ (s0_0.length : Int) then (some (0, s0_1)) else (if 0 ≤ s0_1 then (if s0_1 < (s0_0.length : Int) then ((storagebartermake_Mod.f (rd s0_0 s0_1) a1).bind fun t214 => (some (t214, wrap64 (s0_1 + 1)))) else (none)) else (none)))) = some (r1, r2) := h
  clear h
  by_cases c3 : a1 < 1
  · rw [if_pos c3] at H
    have c3b0 : decide (a1 < 1) = true := decide_eq_true c3
    clear c3
    simp only [Option.some.injEq, Prod.mk.injEq] at H
    obtain ⟨rfl, rfl⟩ := H
    go_enter Try.func17, Try.ntmps17
    go_wp2
    repeat (go_quiet (fail); try go_wp2)
    go_ret
    exact ⟨by first | rfl | (simp [errW_none, errW_some] <;> rfl) | (simp [*, errW_none, errW_some] <;> rfl), by repeat (first | (with_reducible first | exact HI0.out | apply IsS59.alloc | apply IsS59.drewN | apply IsS59.drew | apply IsS59.set_1) | exact HI0.out), by repeat (first | (with_reducible first | exact HB.out | apply below_alloc | apply pw_below_drewN | apply below_drew1 | refine below_set ?_ (IsS59.ge HI0.out)) | exact HB.out), by repeat (first | (with_reducible first | exact HK.out | apply KeepBut.set_ | apply keep_drewN | apply keep_drew | apply keep_alloc) | exact HK.out)⟩
  · rw [if_neg c3] at H
    have c3b0 : decide (a1 < 1) = false := decide_eq_false c3
    clear c3
    by_cases c4 : s0_1 ≥ (s0_0.length : Int)
    · rw [if_pos c4] at H
      have c4b0 : decide ((s0_0.length : Int) ≤ s0_1) = true := decide_eq_true c4
      clear c4
      simp only [Option.some.injEq, Prod.mk.injEq] at H
      obtain ⟨rfl, rfl⟩ := H
      obtain ⟨ASz5_0, cSz5_0, HGz5, hgz5, HSz5_0⟩ := HI0.out
      have hcz5_0 := cellS59_0 HGz5
      have hcz5_1 := cellS59_1 HGz5
      have hfz5_1 := blk_frozen HGz5 1
      clear HGz5 hgz5
      go_enter Try.func17, Try.ntmps17
      go_wp2
      repeat (go_quiet (fail); try go_wp2)
      go_ret
      exact ⟨by first | rfl | (simp [errW_none, errW_some] <;> rfl) | (simp [*, errW_none, errW_some] <;> rfl), by repeat (first | (with_reducible first | exact HI0.out | apply IsS59.alloc | apply IsS59.drewN | apply IsS59.drew | apply IsS59.set_1) | exact HI0.out), by repeat (first | (with_reducible first | exact HB.out | apply below_alloc | apply pw_below_drewN | apply below_drew1 | refine below_set ?_ (IsS59.ge HI0.out)) | exact HB.out), by repeat (first | (with_reducible first | exact HK.out | apply KeepBut.set_ | apply keep_drewN | apply keep_drew | apply keep_alloc) | exact HK.out)⟩
    · rw [if_neg c4] at H
      have c4b0 : decide ((s0_0.length : Int) ≤ s0_1) = false := decide_eq_false c4
      clear c4
      by_cases c6 : 0 ≤ s0_1
      · rw [if_pos c6] at H
        have c6b0 : decide (0 ≤ s0_1) = true := decide_eq_true c6
        clear c6
        by_cases c7 : s0_1 < (s0_0.length : Int)
        · rw [if_pos c7] at H
          have c7b0 : decide (s0_1 < (s0_0.length : Int)) = true := decide_eq_true c7
          clear c7
          replace H := Option.bind_eq_some_iff.mp H
          obtain ⟨t214, A80, H⟩ := H
          replace H : (some (t214, wrap64 (s0_1 + 1))) = some (r1, r2) := H
          have A8 := Aside0.mk A80
          clear A80
          simp only [Option.some.injEq, Prod.mk.injEq] at H
          obtain ⟨rfl, rfl⟩ := H
          obtain ⟨ASz9_0, cSz9_0, HGz9, hgz9, HSz9_0⟩ := HI0.out
          have hcz9_0 := cellS59_0 HGz9
          have hcz9_1 := cellS59_1 HGz9
          have hfz9_1 := blk_frozen HGz9 1
          clear HGz9 hgz9
          have p213 : 0 ≤ (s0_1 : Int) := of_decide_eq_true (by first | (with_reducible assumption) | assumption)
          have q213 : s0_1 < (s0_0.length : Int) := of_decide_eq_true (by first | (with_reducible assumption) | assumption)
          obtain ⟨ad213, e213, hx213_0⟩ := Kd.at_int HSz9_0 s0_1 p213 q213
          cases e213
          replace hx213_0 := pw_cell_below HB.out hx213_0
          replace p213 := eq_true p213
          replace q213 := eq_true q213
          go_enter Try.func17, Try.ntmps17
          go_wp2_with (first | (go_at_call 33; (with_reducible refine (storagebartermake_Mod.calls (rd s0_0 s0_1) a1 t214 _ A8.out).mono ?_); rintro e w' ⟨rfl, ⟨nd, rfl⟩⟩; (try first | exact ⟨rfl, _, World.drewN_drewN _ _ _⟩ | exact ⟨rfl, _, Eq.trans (World.drewN_drewN _ _ _) (congrArg (World.drewN _) (Nat.add_assoc _ _ _))⟩)))
          repeat (go_quiet (first | (go_at_call 33; (with_reducible refine (storagebartermake_Mod.calls (rd s0_0 s0_1) a1 t214 _ A8.out).mono ?_); rintro e w' ⟨rfl, ⟨nd, rfl⟩⟩; (try first | exact ⟨rfl, _, World.drewN_drewN _ _ _⟩ | exact ⟨rfl, _, Eq.trans (World.drewN_drewN _ _ _) (congrArg (World.drewN _) (Nat.add_assoc _ _ _))⟩))); try go_wp2_with (first | (go_at_call 33; (with_reducible refine (storagebartermake_Mod.calls (rd s0_0 s0_1) a1 t214 _ A8.out).mono ?_); rintro e w' ⟨rfl, ⟨nd, rfl⟩⟩; (try first | exact ⟨rfl, _, World.drewN_drewN _ _ _⟩ | exact ⟨rfl, _, Eq.trans (World.drewN_drewN _ _ _) (congrArg (World.drewN _) (Nat.add_assoc _ _ _))⟩))))
          go_ret
          exact ⟨by first | rfl | (simp [errW_none, errW_some] <;> rfl) | (simp [*, errW_none, errW_some] <;> rfl), by repeat (first | (with_reducible first | exact HI0.out | apply IsS59.alloc | apply IsS59.drewN | apply IsS59.drew | apply IsS59.set_1) | exact HI0.out), by repeat (first | (with_reducible first | exact HB.out | apply below_alloc | apply pw_below_drewN | apply below_drew1 | refine below_set ?_ (IsS59.ge HI0.out)) | exact HB.out), by repeat (first | (with_reducible first | exact HK.out | apply KeepBut.set_ | apply keep_drewN | apply keep_drew | apply keep_alloc) | exact HK.out)⟩
        · rw [if_neg c7] at H
          exact absurd H (by simp)
      · rw [if_neg c6] at H
        exact absurd H (by simp)

end Go.Proofs.Ytgmadofbelhmeaa.L
end
section
-- Printed for this claim by a small program of the session's own, drv.py, round the kit's print.py. Lean checks it.
namespace Go.Proofs.Ytgmadofbelhmeaa.L
open Go.RowKit Go.Proofs.YtgmadofbelhmeaaW.PrintWords Go.Proofs.YtgmadofbelhmeaaW.PrintLast Go.Proofs.YtgmadofbelhmeaaW.PrintMore
attribute [local go_sem] max2_int min2_int max_two min_two max_three min_three max_four min_four   -- for this text's walks alone
set_option linter.unusedVariables false
set_option linter.unusedSimpArgs false

/-! ### storagebartermake_Code: function 13 -/
def storagebartermake_Code.f (s0_0 : List Int) (s0_1 : Int) : Option (Int × Int × Int) := (storagebartermake_Deck_Next.f s0_0 s0_1 5).bind fun bt216 => ((storagebartermake_Deck_Next.f s0_0 bt216.2 5).bind fun bt219 => (some (wrap64 (1 + bt216.1), wrap64 ((wrap64 (1 + bt216.1)) + bt219.1), bt219.2)))
set_option maxHeartbeats 8000000 in
set_option maxRecDepth 100000 in
theorem storagebartermake_Code.calls (g : Nat) (s0_0 : List Int) (s0_1 : Int) (r1 : Int) (r2 : Int) (r3 : Int) (w0 w : World) (hI : IsS59 w0 w g s0_0 s0_1) (hB : Below w0.heap.size w0 w) (h : storagebartermake_Code.f s0_0 s0_1 = some (r1, r2, r3)) :
    Calls Try.prog 13 #[.pointer (some ⟨g, 0, none⟩)] w fun e w' => e = .returned (.agg #[.int .i64 r1, .int .i64 r2]) ∧ IsS59 w0 w' g s0_0 r3 ∧ Below w0.heap.size w0 w' ∧ KeepBut w w' g none := by
  have hu28 := Try.underlying28
  have HI0 := Aside0.mk hI
  have HK := Aside0.mk (KeepBut.refl w g none)
  have HL := Aside0.mk hB.size
  clear hI
  have HW0 := Aside0.mk hB.size
  have HB := Aside0.mk hB
  clear hB
  have H : ((storagebartermake_Deck_Next.f s0_0 s0_1 5).bind fun bt216 => ((storagebartermake_Deck_Next.f s0_0 bt216.2 5).bind fun bt219 => (some (wrap64 (1 + bt216.1), wrap64 ((wrap64 (1 + bt216.1)) + bt219.1), bt219.2)))) = some (r1, r2, r3) := h
  clear h
  replace H := Option.bind_eq_some_iff.mp H
  obtain ⟨⟨t216, t217⟩, A20, H⟩ := H
  replace H : ((storagebartermake_Deck_Next.f s0_0 t217 5).bind fun bt219 => (some (wrap64 (1 + t216), wrap64 ((wrap64 (1 + t216)) + bt219.1), bt219.2))) = some (r1, r2, r3) := H
  have A2 := Aside0.mk A20
  clear A20
  replace H := Option.bind_eq_some_iff.mp H
  obtain ⟨⟨t219, t220⟩, A30, H⟩ := H
  replace H : (some (wrap64 (1 + t216), wrap64 ((wrap64 (1 + t216)) + t219), t220)) = some (r1, r2, r3) := H
  have A3 := Aside0.mk A30
  clear A30
  simp only [Option.some.injEq, Prod.mk.injEq] at H
  obtain ⟨rfl, rfl, rfl⟩ := H
  go_enter Try.func13, Try.ntmps13
  try go_wp2_with (first | ((with_reducible refine gate_dst (N := 2) rfl ?_); refine box_event ?hg (N := 2) ?hd (cs := #[.int .i64 0, .int .i64 0]) (t := 28) ?hr ?_; (case hd => rfl); (case hg => rfl); (case hr => first | (go_simp; done) | (go_simp; rfl)); intro gb215 hg w4 hbox hb; have n0_ := Aside0.mk (IsS59.below (by repeat (first | (with_reducible first | exact HI0.out | apply IsS59.alloc | apply IsS59.drewN | apply IsS59.drew | apply IsS59.set_1) | exact HI0.out)) hb); have n1_ := Aside0.mk (KeepBut.trans (by repeat (first | (with_reducible first | exact HK.out | apply KeepBut.set_ | apply keep_drewN | apply keep_drew | apply keep_alloc) | exact HK.out)) (KeepBut.of_below hb g none) (.inl rfl)); have n2_ := Aside0.mk (below_step (by repeat (first | (with_reducible first | exact HB.out | apply below_alloc | apply pw_below_drewN | apply below_drew1 | refine below_set ?_ (IsS59.ge HI0.out)) | exact HB.out)) hb); have n3_ := Aside0.mk (hbox); have n4_ := Aside0.mk ((by rw [hg]; exact (keep_size (w := w) (g := g) (row := none) (by repeat (first | (with_reducible first | exact HK.out | apply KeepBut.set_ | apply keep_drewN | apply keep_drew | apply keep_alloc) | exact HK.out))) : w.heap.size ≤ gb215)); have n5_ := Aside0.mk ((Nat.le_trans HW0.out (by rw [hg]; exact (keep_size (w := w) (g := g) (row := none) (by repeat (first | (with_reducible first | exact HK.out | apply KeepBut.set_ | apply keep_drewN | apply keep_drew | apply keep_alloc) | exact HK.out))) : w.heap.size ≤ gb215) : w0.heap.size ≤ gb215)); have n6_ := Aside0.mk ((by rw [hg]; exact Nat.ne_of_lt (IsS59.lt (show IsS59 w0 _ g s0_0 s0_1 from by repeat (first | (with_reducible first | exact HI0.out | apply IsS59.alloc | apply IsS59.drewN | apply IsS59.drew | apply IsS59.set_1) | exact HI0.out))) : g ≠ gb215)); have n7_ := Aside0.mk ((by rw [hg]; exact Nat.ne_of_gt (IsS59.lt (show IsS59 w0 _ g s0_0 s0_1 from by repeat (first | (with_reducible first | exact HI0.out | apply IsS59.alloc | apply IsS59.drewN | apply IsS59.drew | apply IsS59.set_1) | exact HI0.out))) : gb215 ≠ g)); clear HI0; clear HK; clear HB; have HI0 := n0_; have HK := n1_; have HB := n2_; have BK215 := n3_; have GW215 := n4_; have GE215 := n5_; have NB0_215 := n6_; have NB215_0 := n7_; clear n0_ n1_ n2_ n3_ n4_ n5_ n6_ n7_; clear hb hbox hg) | ((with_reducible refine gate_callee (f := 17) rfl ?_); refine goesL_ (some 5) rfl rfl Try.func17 (by kernel_rfl) rfl #[.pointer (some ⟨g, 0, none⟩), .int .i64 5] rfl (by (try simp only [List.map_toArray, List.map_cons, List.map_nil]); first | done | rfl | (simp only [List.length_drop, List.length_take]; rfl)) ?_; (with_reducible refine (storagebartermake_Deck_Next.calls g s0_0 s0_1 5 t216 t217 w0 _ ?side1 ?side2 A2.out).mono ?_); (case side1 => repeat (first | (with_reducible first | exact HI0.out | apply IsS59.alloc | apply IsS59.drewN | apply IsS59.drew | apply IsS59.set_1 | refine IsS59.far ?_ NB0_215.out _) | exact HI0.out)); (case side2 => repeat (first | (with_reducible first | exact HB.out | apply below_alloc | apply pw_below_drewN | apply below_drew1 | refine below_set ?_ (IsS59.ge HI0.out) | refine below_set ?_ GE215.out) | exact HB.out)); rintro e w5 ⟨rfl, hi, hb, hk⟩; refine ⟨_, rfl, ?_⟩; have n0_ := Aside0.mk (KeepBut.blk hk (g' := gb215) (o := .cells #[.int .i64 0, .int .i64 0] 28 (0, 0)) (by (with_reducible repeat (first | refine blk_drewN ?_ _ | refine blk_drew ?_ | refine blk_alloc ?_ _)); exact BK215.out) NB215_0.out (by simp)); have n1_ := Aside0.mk (KeepBut.trans (by repeat (first | (with_reducible first | exact HK.out | apply KeepBut.set_ | apply keep_drewN | apply keep_drew | apply keep_alloc | refine keep_far ?_ GW215.out _) | exact HK.out)) hk (.inl rfl)); have n2_ := Aside0.mk (hb); have n3_ := Aside0.mk (hi); clear BK215; clear HK; clear HB; clear HI0; have BK215 := n0_; have HK := n1_; have HB := n2_; have HI0 := n3_; clear n0_ n1_ n2_ n3_; (try clear hb); (try clear hb2); (try clear hk); (try clear hi)) | ((with_reducible refine gate_dst (N := 3) rfl ?_); refine box_event ?hg (N := 3) ?hd (cs := #[.int .i64 0, .int .i64 0]) (t := 28) ?hr ?_; (case hd => rfl); (case hg => rfl); (case hr => first | (go_simp; done) | (go_simp; rfl)); intro gb218 hg w6 hbox hb; have n0_ := Aside0.mk (IsS59.below (by repeat (first | (with_reducible first | exact HI0.out | apply IsS59.alloc | apply IsS59.drewN | apply IsS59.drew | apply IsS59.set_1 | refine IsS59.far ?_ NB0_215.out _) | exact HI0.out)) hb); have n1_ := Aside0.mk (blk_below (g := gb215) (o := .cells #[.int .i64 0, .int .i64 0] 28 (0, 0)) (by (with_reducible repeat (first | refine blk_drewN ?_ _ | refine blk_drew ?_ | refine blk_alloc ?_ _)); exact BK215.out) hb); have n2_ := Aside0.mk (KeepBut.trans (by repeat (first | (with_reducible first | exact HK.out | apply KeepBut.set_ | apply keep_drewN | apply keep_drew | apply keep_alloc | refine keep_far ?_ GW215.out _) | exact HK.out)) (KeepBut.of_below hb g none) (.inl rfl)); have n3_ := Aside0.mk (below_step (by repeat (first | (with_reducible first | exact HB.out | apply below_alloc | apply pw_below_drewN | apply below_drew1 | refine below_set ?_ (IsS59.ge HI0.out) | refine below_set ?_ GE215.out) | exact HB.out)) hb); have n4_ := Aside0.mk (hbox); have n5_ := Aside0.mk ((by rw [hg]; exact (keep_size (w := w) (g := g) (row := none) (by repeat (first | (with_reducible first | exact HK.out | apply KeepBut.set_ | apply keep_drewN | apply keep_drew | apply keep_alloc | refine keep_far ?_ GW215.out _) | exact HK.out))) : w.heap.size ≤ gb218)); have n6_ := Aside0.mk ((Nat.le_trans HW0.out (by rw [hg]; exact (keep_size (w := w) (g := g) (row := none) (by repeat (first | (with_reducible first | exact HK.out | apply KeepBut.set_ | apply keep_drewN | apply keep_drew | apply keep_alloc | refine keep_far ?_ GW215.out _) | exact HK.out))) : w.heap.size ≤ gb218) : w0.heap.size ≤ gb218)); have n7_ := Aside0.mk ((by rw [hg]; exact Nat.ne_of_lt (blk_lt (g := gb215) (o := .cells #[.int .i64 0, .int .i64 0] 28 (0, 0)) (by (with_reducible repeat (first | refine blk_drewN ?_ _ | refine blk_drew ?_ | refine blk_alloc ?_ _)); exact BK215.out)) : gb215 ≠ gb218)); have n8_ := Aside0.mk ((by rw [hg]; exact Nat.ne_of_gt (blk_lt (g := gb215) (o := .cells #[.int .i64 0, .int .i64 0] 28 (0, 0)) (by (with_reducible repeat (first | refine blk_drewN ?_ _ | refine blk_drew ?_ | refine blk_alloc ?_ _)); exact BK215.out)) : gb218 ≠ gb215)); have n9_ := Aside0.mk ((by rw [hg]; exact Nat.ne_of_lt (IsS59.lt (show IsS59 w0 _ g s0_0 t217 from by repeat (first | (with_reducible first | exact HI0.out | apply IsS59.alloc | apply IsS59.drewN | apply IsS59.drew | apply IsS59.set_1 | refine IsS59.far ?_ NB0_215.out _) | exact HI0.out))) : g ≠ gb218)); have n10_ := Aside0.mk ((by rw [hg]; exact Nat.ne_of_gt (IsS59.lt (show IsS59 w0 _ g s0_0 t217 from by repeat (first | (with_reducible first | exact HI0.out | apply IsS59.alloc | apply IsS59.drewN | apply IsS59.drew | apply IsS59.set_1 | refine IsS59.far ?_ NB0_215.out _) | exact HI0.out))) : gb218 ≠ g)); clear HI0; clear BK215; clear HK; clear HB; have HI0 := n0_; have BK215 := n1_; have HK := n2_; have HB := n3_; have BK218 := n4_; have GW218 := n5_; have GE218 := n6_; have NB215_218 := n7_; have NB218_215 := n8_; have NB0_218 := n9_; have NB218_0 := n10_; clear n0_ n1_ n2_ n3_ n4_ n5_ n6_ n7_ n8_ n9_ n10_; clear hb hbox hg; have hnb7 := NB218_215.out; have hnc7 := NB215_218.out; have hnb8 := NB218_0.out; have hnc8 := NB0_218.out; have hcz9_0 : w6.cell? ⟨gb218, 0, none⟩ = some (.int .i64 0) := (blk_cell BK218.out 0).trans rfl; have hcz9_1 : w6.cell? ⟨gb218, 1, none⟩ = some (.int .i64 0) := (blk_cell BK218.out 1).trans rfl; have hfz9_0 := blk_frozen BK218.out 0; have hfz9_1 := blk_frozen BK218.out 1))
  have n0_ : Aside0 (((w6.setCell ⟨gb218, 0, none⟩ (.int .i64 (wrap64 (1 + t216)))).setCell ⟨gb218, 1, none⟩ (.int .i64 0)).heap[gb215]? = some (.cells #[.int .i64 0, .int .i64 0] 28 (0, 0))) := ⟨by (with_reducible repeat (first | refine blk_drewN ?_ _ | refine blk_drew ?_ | refine blk_alloc ?_ _)); refine blk_far ?_ NB215_218.out _; (with_reducible repeat (first | refine blk_drewN ?_ _ | refine blk_drew ?_ | refine blk_alloc ?_ _)); refine blk_far ?_ NB215_218.out _; (with_reducible repeat (first | refine blk_drewN ?_ _ | refine blk_drew ?_ | refine blk_alloc ?_ _)); exact BK215.out⟩
  have n1_ : Aside0 (((w6.setCell ⟨gb218, 0, none⟩ (.int .i64 (wrap64 (1 + t216)))).setCell ⟨gb218, 1, none⟩ (.int .i64 0)).heap[gb218]? = some (.cells #[.int .i64 (wrap64 (1 + t216)), .int .i64 0] 28 (0, 0))) := ⟨by (with_reducible repeat (first | refine blk_drewN ?_ _ | refine blk_drew ?_ | refine blk_alloc ?_ _)); refine blk_put (cs := #[.int .i64 (wrap64 (1 + t216)), .int .i64 0]) ?_ 1 _ rfl; (with_reducible repeat (first | refine blk_drewN ?_ _ | refine blk_drew ?_ | refine blk_alloc ?_ _)); refine blk_put (cs := #[.int .i64 0, .int .i64 0]) ?_ 0 _ rfl; (with_reducible repeat (first | refine blk_drewN ?_ _ | refine blk_drew ?_ | refine blk_alloc ?_ _)); exact BK218.out⟩
  have n2_ : Aside0 (IsS59 w0 ((w6.setCell ⟨gb218, 0, none⟩ (.int .i64 (wrap64 (1 + t216)))).setCell ⟨gb218, 1, none⟩ (.int .i64 0)) g s0_0 t217) := ⟨by repeat (first | (with_reducible first | exact HI0.out | apply IsS59.alloc | apply IsS59.drewN | apply IsS59.drew | apply IsS59.set_1 | refine IsS59.far ?_ NB0_215.out _ | refine IsS59.far ?_ NB0_218.out _) | exact HI0.out)⟩
  have n3_ : Aside0 (KeepBut w ((w6.setCell ⟨gb218, 0, none⟩ (.int .i64 (wrap64 (1 + t216)))).setCell ⟨gb218, 1, none⟩ (.int .i64 0)) g none) := ⟨by repeat (first | (with_reducible first | exact HK.out | apply KeepBut.set_ | apply keep_drewN | apply keep_drew | apply keep_alloc | refine keep_far ?_ GW215.out _ | refine keep_far ?_ GW218.out _) | exact HK.out)⟩
  have n4_ : Aside0 (Below w0.heap.size w0 ((w6.setCell ⟨gb218, 0, none⟩ (.int .i64 (wrap64 (1 + t216)))).setCell ⟨gb218, 1, none⟩ (.int .i64 0))) := ⟨by repeat (first | (with_reducible first | exact HB.out | apply below_alloc | apply pw_below_drewN | apply below_drew1 | refine below_set ?_ (IsS59.ge HI0.out) | refine below_set ?_ GE215.out | refine below_set ?_ GE218.out) | exact HB.out)⟩
  (try clear BK215)
  (try clear BK218)
  (try clear HI0)
  (try clear HK)
  (try clear HB)
  generalize ((w6.setCell ⟨gb218, 0, none⟩ (.int .i64 (wrap64 (1 + t216)))).setCell ⟨gb218, 1, none⟩ (.int .i64 0)) = w10 at n0_ n1_ n2_ n3_ n4_ ⊢
  have BK215 := n0_
  have BK218 := n1_
  have HI0 := n2_
  have HK := n3_
  have HB := n4_
  clear n0_ n1_ n2_ n3_ n4_
  have n0_ := Aside0.mk (blk_drew BK215.out)
  have n1_ := Aside0.mk (blk_drew BK218.out)
  have n2_ := Aside0.mk (IsS59.drew HI0.out)
  have n3_ := Aside0.mk (keep_drew HK.out)
  have n4_ := Aside0.mk (below_drew1 HB.out)
  clear BK215
  clear BK218
  clear HI0
  clear HK
  clear HB
  have BK215 := n0_
  have BK218 := n1_
  have HI0 := n2_
  have HK := n3_
  have HB := n4_
  clear n0_ n1_ n2_ n3_ n4_
  refine start_ (n := 7) (S := fun w' => w'.cell? ⟨gb218, 0, none⟩ = some (.int .i64 (wrap64 (1 + t216))) ∧ w'.cell? ⟨gb218, 1, none⟩ = some (.int .i64 0)) (ds := [6]) #[false, false, false, false, false, false, false] (by kernel_rfl) rfl rfl ⟨(blk_cell BK218.out 0).trans rfl, (blk_cell BK218.out 1).trans rfl⟩ (fun hHeld => ?_)
  generalize w10.drew = w11 at BK215 BK218 HI0 HK HB hHeld ⊢
  refine pure_ (i := 0) (N := some 8) (v := ?_) (a' := ?_) #[true, false, false, false, false, false, false] rfl rfl (by kernel_rfl) (fun _ _ _ h => h) (Or.inl ⟨by rfl, ?_⟩) ?_ ?_
  rotate_left
  · intro w'
    go_simp
    with_reducible rfl
  rotate_left
  · simp only [Act.put, List.setIfInBounds_toArray, List.set_cons_zero, List.set_cons_succ, i64_w, i32_w]
    rfl
  refine pure_ (i := 2) (N := some 10) (v := ?_) (a' := ?_) #[true, false, true, false, false, false, false] rfl rfl (by kernel_rfl) (fun _ _ _ h => h) (Or.inl ⟨by rfl, ?_⟩) ?_ ?_
  rotate_left
  · intro w'
    go_simp
    with_reducible rfl
  rotate_left
  · simp only [Act.put, List.setIfInBounds_toArray, List.set_cons_zero, List.set_cons_succ, i64_w, i32_w]
    rfl
  refine take_ (i := 1) (N := some 9) (v := ?_) (a' := ?_) #[true, true, true, false, false, false, false] rfl rfl (by kernel_rfl) (fun _ _ _ h => h) (Or.inl ⟨by rfl, ?_⟩) hHeld ?_ ?_
  rotate_left
  · rintro w' ⟨s0, s1⟩
    go_simp
    with_reducible rfl
  rotate_left
  · simp only [Act.put, List.setIfInBounds_toArray, List.set_cons_zero, List.set_cons_succ, i64_w, i32_w]
    rfl
  refine one_ (i := 3) (N := some 11) #[true, true, true, true, false, false, false] rfl rfl (by kernel_rfl) (by decide) (fun K hK => ?_)
  refine goes_ Try.func17 (by kernel_rfl) rfl #[.pointer (some ⟨g, 0, none⟩), .int .i64 5] (by rfl) rfl rfl (by (try simp only [List.map_toArray, List.map_cons, List.map_nil]); first | done | rfl | (simp only [List.length_drop, List.length_take]; rfl)) ?_
  with_reducible refine (storagebartermake_Deck_Next.calls g s0_0 t217 5 t219 t220 w0 _ ?side1 ?side2 A3.out).mono ?_
  (case side1 => repeat (first | (with_reducible first | exact HI0.out | apply IsS59.alloc | apply IsS59.drewN | apply IsS59.drew | apply IsS59.set_1 | refine IsS59.far ?_ NB0_215.out _ | refine IsS59.far ?_ NB0_218.out _) | exact HI0.out))
  (case side2 => repeat (first | (with_reducible first | exact HB.out | apply below_alloc | apply pw_below_drewN | apply below_drew1 | refine below_set ?_ (IsS59.ge HI0.out) | refine below_set ?_ GE215.out | refine below_set ?_ GE218.out) | exact HB.out))
  rintro e w12 ⟨rfl, hi, hb, hk⟩
  refine ⟨_, rfl, ?_⟩
  have n0_ := Aside0.mk (KeepBut.blk hk (g' := gb215) (o := .cells #[.int .i64 0, .int .i64 0] 28 (0, 0)) (by (with_reducible repeat (first | refine blk_drewN ?_ _ | refine blk_drew ?_ | refine blk_alloc ?_ _)); exact BK215.out) NB215_0.out (by simp))
  have n1_ := Aside0.mk (KeepBut.blk hk (g' := gb218) (o := .cells #[.int .i64 (wrap64 (1 + t216)), .int .i64 0] 28 (0, 0)) (by (with_reducible repeat (first | refine blk_drewN ?_ _ | refine blk_drew ?_ | refine blk_alloc ?_ _)); exact BK218.out) NB218_0.out (by simp))
  have n2_ := Aside0.mk (KeepBut.trans (by repeat (first | (with_reducible first | exact HK.out | apply KeepBut.set_ | apply keep_drewN | apply keep_drew | apply keep_alloc | refine keep_far ?_ GW215.out _ | refine keep_far ?_ GW218.out _) | exact HK.out)) hk (.inl rfl))
  have n3_ := Aside0.mk (hb)
  have n4_ := Aside0.mk (hi)
  clear BK215
  clear BK218
  clear HK
  clear HB
  clear HI0
  have BK215 := n0_
  have BK218 := n1_
  have HK := n2_
  have HB := n3_
  have HI0 := n4_
  clear n0_ n1_ n2_ n3_ n4_
  (try clear hb)
  (try clear hb2)
  (try clear hk)
  (try clear hi)
  refine hK.out _ _ ⟨(blk_cell BK218.out 0).trans rfl, (blk_cell BK218.out 1).trans rfl⟩ (fun hHeld => ?_)
  clear hK K
  refine norm_ (a' := ?_) ?_ ?_
  rotate_left
  · show Act.put _ (some 11) _ = _
    simp only [Act.put, List.setIfInBounds_toArray, List.set_cons_zero, List.set_cons_succ, i64_w, i32_w]
    rfl
  refine pure_ (i := 4) (N := some 12) (v := ?_) (a' := ?_) #[true, true, true, true, true, false, false] rfl rfl (by kernel_rfl) (fun _ _ _ h => h) (Or.inl ⟨by rfl, ?_⟩) ?_ ?_
  rotate_left
  · intro w'
    go_simp
    with_reducible rfl
  rotate_left
  · simp only [Act.put, List.setIfInBounds_toArray, List.set_cons_zero, List.set_cons_succ, i64_w, i32_w]
    rfl
  refine pure_ (i := 5) (N := some 13) (v := ?_) (a' := ?_) #[true, true, true, true, true, true, false] rfl rfl (by kernel_rfl) (fun _ _ _ h => h) (Or.inl ⟨by rfl, ?_⟩) ?_ ?_
  rotate_left
  · intro w'
    go_simp
    with_reducible rfl
  rotate_left
  · simp only [Act.put, List.setIfInBounds_toArray, List.set_cons_zero, List.set_cons_succ, i64_w, i32_w]
    rfl
  refine last_ (i := 6) (N := none) #[true, true, true, true, true, true, true] rfl rfl (by kernel_rfl) (by decide) (fun K hK => ?_)
  have hs13 : w12.cell? ⟨gb218, 1, none⟩ = some (.int .i64 0) := (blk_cell BK218.out 1).trans rfl
  have hfs13 := blk_frozen BK218.out 1
  have hns13_0 := NB215_218.out
  have hms13_0 := NB218_215.out
  refine skip_ (w1 := ?_) (by rfl) rfl ?_ ?_
  rotate_left
  · go_simp
    rfl
  refine hK.out _ _ ?_
  clear hK K
  refine done_ (by kernel_rfl) ?_
  have hcz14_0 : w12.cell? ⟨gb218, 0, none⟩ = some (.int .i64 (wrap64 (1 + t216))) := (blk_cell BK218.out 0).trans rfl
  have hcz14_1 : w12.cell? ⟨gb218, 1, none⟩ = some (.int .i64 0) := (blk_cell BK218.out 1).trans rfl
  have hfz14_0 := blk_frozen BK218.out 0
  have hfz14_1 := blk_frozen BK218.out 1
  have hnb15 := NB215_0.out
  have hnc15 := NB0_215.out
  have hcz16_0 : w12.cell? ⟨gb215, 0, none⟩ = some (.int .i64 0) := (blk_cell BK215.out 0).trans rfl
  have hcz16_1 : w12.cell? ⟨gb215, 1, none⟩ = some (.int .i64 0) := (blk_cell BK215.out 1).trans rfl
  have hfz16_0 := blk_frozen BK215.out 0
  have hfz16_1 := blk_frozen BK215.out 1
  try go_wp2
  refine bodyPost_ret (results_cell_row rfl _ _ gb215 28 #[.int .i64 (wrap64 (1 + t216)), .int .i64 (wrap64 ((wrap64 (1 + t216)) + t219))] (0, 0) _ rfl (by (with_reducible repeat (first | refine blk_drewN ?_ _ | refine blk_drew ?_ | refine blk_alloc ?_ _)); refine blk_put (cs := #[.int .i64 (wrap64 (1 + t216)), .int .i64 0]) ?_ 1 _ rfl; (with_reducible repeat (first | refine blk_drewN ?_ _ | refine blk_drew ?_ | refine blk_alloc ?_ _)); refine blk_put (cs := #[.int .i64 0, .int .i64 0]) ?_ 0 _ rfl; (with_reducible repeat (first | refine blk_drewN ?_ _ | refine blk_drew ?_ | refine blk_alloc ?_ _)); refine blk_far ?_ NB215_218.out _; (with_reducible repeat (first | refine blk_drewN ?_ _ | refine blk_drew ?_ | refine blk_alloc ?_ _)); exact BK215.out) Try.underlying28 rfl (by kernel_rfl)) rfl ?_
  exact ⟨by first | rfl | (simp [errW_none, errW_some] <;> rfl) | (simp [*, errW_none, errW_some] <;> rfl), by repeat (first | (with_reducible first | exact HI0.out | apply IsS59.alloc | apply IsS59.drewN | apply IsS59.drew | apply IsS59.set_1 | refine IsS59.far ?_ NB0_215.out _ | refine IsS59.far ?_ NB0_218.out _) | exact HI0.out), by repeat (first | (with_reducible first | exact HB.out | apply below_alloc | apply pw_below_drewN | apply below_drew1 | refine below_set ?_ (IsS59.ge HI0.out) | refine below_set ?_ GE215.out | refine below_set ?_ GE218.out) | exact HB.out), by repeat (first | (with_reducible first | exact HK.out | apply KeepBut.set_ | apply keep_drewN | apply keep_drew | apply keep_alloc | refine keep_far ?_ GW215.out _ | refine keep_far ?_ GW218.out _) | exact HK.out)⟩

end Go.Proofs.Ytgmadofbelhmeaa.L
end
section
-- Printed for this claim by a small program of the session's own, drv.py, round the kit's print.py. Lean checks it.
namespace Go.Proofs.Ytgmadofbelhmeaa.L
open Go.RowKit Go.Proofs.YtgmadofbelhmeaaW.PrintWords Go.Proofs.YtgmadofbelhmeaaW.PrintLast Go.Proofs.YtgmadofbelhmeaaW.PrintMore
attribute [local go_sem] max2_int min2_int max_two min_two max_three min_three max_four min_four   -- for this text's walks alone
set_option linter.unusedVariables false
set_option linter.unusedSimpArgs false

/-! ### erasure_Repair: function 27 -/
def erasure_Repair.j0 : Nat → Int → ByteArray → Bool → Int → Int → Option (Int × ByteArray × Int)
  | 0, _, _, _, _, _ => none
  | k + 1, x3, x10, x31, x487000, x487001 => if x31 = true then (some (0, (⟨#[]⟩ : ByteArray), 1)) else ((erasure_Encode.f k x487000 x487001 x10).bind fun bt490 => (if bt490.2 = 0 then (if 0 ≤ x3 then (if x3 < (bt490.1.length : Int) then (some ((rd_T37 bt490.1 x3).f0, (rd_T37 bt490.1 x3).f1, 0)) else (none)) else (none)) else (some (0, (⟨#[]⟩ : ByteArray), bt490.2))))
def erasure_Repair.f (k : Nat) (a0_0 : Int) (a0_1 : Int) (a1 : Int) (l2 : List (S37)) (a3 : Int) : Option (Int × ByteArray × Int) := (erasure_Decode.f a0_0 a0_1 a1 l2).bind fun bt488 => (if bt488.2 = 0 then (if a3 < 0 then (erasure_Repair.j0 k a3 bt488.1 true a0_0 a0_1) else (erasure_Repair.j0 k a3 bt488.1 (decide (a3 ≥ a0_1)) a0_0 a0_1)) else (some (0, (⟨#[]⟩ : ByteArray), bt488.2)))
theorem erasure_Repair.mono_l : ∀ k, (∀ y0 y1 y2 y3 y4, LeO (erasure_Repair.j0 k y0 y1 y2 y3 y4) (erasure_Repair.j0 (k + 1) y0 y1 y2 y3 y4))
  | 0 => fun _ _ _ _ _ r h => by simp [erasure_Repair.j0] at h
  | k + 1 => by
    have ih0 := erasure_Repair.mono_l k
    · intro y0 y1 y2 y3 y4
      unfold erasure_Repair.j0
      repeat' first
      | (with_reducible exact ih0 _ _ _ _ _)
      | (with_reducible exact erasure_Encode.mono _ _ _ _)
      | (with_reducible exact LeO.refl _)
      | (with_reducible exact LeO.none _)
      | (with_reducible refine LeO.ite ?_ ?_)
      | (with_reducible refine LeO.bind ?_ (fun _ => ?_))
      | exact ih0 _ _ _ _ _
      | exact erasure_Encode.mono _ _ _ _
      | exact LeO.none _
      | refine LeO.ite ?_ ?_
      | refine LeO.bind ?_ (fun _ => ?_)
theorem erasure_Repair.mono : ∀ a0 a1 a2 a3 a4 k, LeO (erasure_Repair.f k a0 a1 a2 a3 a4) (erasure_Repair.f (k + 1) a0 a1 a2 a3 a4) := by
  intro a0 a1 a2 a3 a4 k
  have ih0 := erasure_Repair.mono_l k
  unfold erasure_Repair.f
  repeat' first
      | (with_reducible exact ih0 _ _ _ _ _)
      | (with_reducible exact erasure_Encode.mono _ _ _ _)
      | (with_reducible exact LeO.refl _)
      | (with_reducible exact LeO.none _)
      | (with_reducible refine LeO.ite ?_ ?_)
      | (with_reducible refine LeO.bind ?_ (fun _ => ?_))
      | exact ih0 _ _ _ _ _
      | exact erasure_Encode.mono _ _ _ _
      | exact LeO.none _
      | refine LeO.ite ?_ ?_
      | refine LeO.bind ?_ (fun _ => ?_)
set_option maxHeartbeats 8000000 in
set_option maxRecDepth 100000 in
theorem erasure_Repair.calls (k : Nat) (a0_0 : Int) (a0_1 : Int) (a1 : Int) (A2 : Option Addr) (c2 : Nat) (l2 : List (S37)) (a3 : Int) (r1 : Int) (r2 : ByteArray) (r3 : Int) (w : World) (hr2 : Kd.C k37 w A2 l2.length l2) (hc2 : l2.length ≤ c2) (h : erasure_Repair.f k a0_0 a0_1 a1 l2 a3 = some (r1, r2, r3)) :
    Calls Try.prog 27 #[.agg #[.int .i64 a0_0, .int .i64 a0_1], .int .i64 a1, .slice A2 l2.length c2, .int .i64 a3] w fun e w' => e = .returned (.tuple #[.agg #[.int .i64 r1, .string r2], .int .i64 r3]) ∧ Below w.heap.size w w' := by
  have hu28 := Try.underlying28
  have hu37 := Try.underlying37
  have HR2 := Aside0.mk hr2
  have HC2 := Aside0.mk hc2
  clear hr2 hc2
  have HB := Aside0.mk (Below.refl w.heap.size w)
  have H : ((erasure_Decode.f a0_0 a0_1 a1 l2).bind fun bt488 => (if bt488.2 = 0 then (if a3 < 0 then (erasure_Repair.j0 k a3 bt488.1 true a0_0 a0_1) else (erasure_Repair.j0 k a3 bt488.1 (decide (a3 ≥ a0_1)) a0_0 a0_1)) else (some (0, (⟨#[]⟩ : ByteArray), bt488.2)))) = some (r1, r2, r3) := h
  clear h
  replace H := Option.bind_eq_some_iff.mp H
  obtain ⟨⟨t488, t489⟩, A50, H⟩ := H
  replace H : (if t489 = 0 then (if a3 < 0 then (erasure_Repair.j0 k a3 t488 true a0_0 a0_1) else (erasure_Repair.j0 k a3 t488 (decide (a3 ≥ a0_1)) a0_0 a0_1)) else (some (0, (⟨#[]⟩ : ByteArray), t489))) = some (r1, r2, r3) := H
  have A5 := Aside0.mk A50
  clear A50
  by_cases c6 : t489 = 0
  · rw [if_pos c6] at H
    have c6b0 : (t489 == 0) = true := beq_iff_eq.mpr c6
    have c6b1 : (t489 != 0) = false := bne_eq_false_iff_eq.mpr c6
    clear c6
    have HC7 := Aside0.mk H
    clear H
    go_enter Try.func27, Try.ntmps27
    go_upto_region 4 with (first | ((with_reducible refine gate_dst (N := 4) rfl ?_); refine box_event ?hg (N := 4) ?hd (cs := #[.int .i64 a0_0, .int .i64 a0_1]) (t := 28) ?hr ?_; (case hd => rfl); (case hg => rfl); (case hr => first | (go_simp; done) | (go_simp; rfl)); intro gb486 hg w8 hbox hb; have n0_ := Aside0.mk (below_step (by repeat (first | (with_reducible first | exact HB.out | apply below_alloc | apply pw_below_drewN | apply below_drew1) | exact HB.out)) hb); have n1_ := Aside0.mk (hbox); have n2_ := Aside0.mk ((by rw [hg]; exact (below_size (by repeat (first | (with_reducible first | exact HB.out | apply below_alloc | apply pw_below_drewN | apply below_drew1) | exact HB.out))) : w.heap.size ≤ gb486)); have n3_ := Aside0.mk ((by rw [hg]; exact (below_size (by repeat (first | (with_reducible first | exact HB.out | apply below_alloc | apply pw_below_drewN | apply below_drew1) | exact HB.out))) : w.heap.size ≤ gb486)); clear HB; have HB := n0_; have BK486 := n1_; have GW486 := n2_; have GE486 := n3_; clear n0_ n1_ n2_ n3_; clear hb hbox hg) | ((with_reducible refine gate_dst (N := 8) rfl ?_); refine box_event ?hg (N := 8) ?hd (cs := #[.int .i64 0, .string (⟨#[]⟩ : ByteArray)]) (t := 37) ?hr ?_; (case hd => rfl); (case hg => rfl); (case hr => first | (go_simp; done) | (go_simp; rfl)); intro gb487 hg w9 hbox hb; have n0_ := Aside0.mk (blk_below (g := gb486) (o := .cells #[.int .i64 a0_0, .int .i64 a0_1] 28 (0, 0)) (by (with_reducible repeat (first | refine blk_drewN ?_ _ | refine blk_drew ?_ | refine blk_alloc ?_ _)); exact BK486.out) hb); have n1_ := Aside0.mk (below_step (by repeat (first | (with_reducible first | exact HB.out | apply below_alloc | apply pw_below_drewN | apply below_drew1 | refine below_set ?_ GE486.out) | exact HB.out)) hb); have n2_ := Aside0.mk (hbox); have n3_ := Aside0.mk ((by rw [hg]; exact (below_size (by repeat (first | (with_reducible first | exact HB.out | apply below_alloc | apply pw_below_drewN | apply below_drew1 | refine below_set ?_ GE486.out) | exact HB.out))) : w.heap.size ≤ gb487)); have n4_ := Aside0.mk ((by rw [hg]; exact (below_size (by repeat (first | (with_reducible first | exact HB.out | apply below_alloc | apply pw_below_drewN | apply below_drew1 | refine below_set ?_ GE486.out) | exact HB.out))) : w.heap.size ≤ gb487)); have n5_ := Aside0.mk ((by rw [hg]; exact Nat.ne_of_lt (blk_lt (g := gb486) (o := .cells #[.int .i64 a0_0, .int .i64 a0_1] 28 (0, 0)) (by (with_reducible repeat (first | refine blk_drewN ?_ _ | refine blk_drew ?_ | refine blk_alloc ?_ _)); exact BK486.out)) : gb486 ≠ gb487)); have n6_ := Aside0.mk ((by rw [hg]; exact Nat.ne_of_gt (blk_lt (g := gb486) (o := .cells #[.int .i64 a0_0, .int .i64 a0_1] 28 (0, 0)) (by (with_reducible repeat (first | refine blk_drewN ?_ _ | refine blk_drew ?_ | refine blk_alloc ?_ _)); exact BK486.out)) : gb487 ≠ gb486)); clear BK486; clear HB; have BK486 := n0_; have HB := n1_; have BK487 := n2_; have GW487 := n3_; have GE487 := n4_; have NB486_487 := n5_; have NB487_486 := n6_; clear n0_ n1_ n2_ n3_ n4_ n5_ n6_; clear hb hbox hg; have hnb10 := NB486_487.out; have hnc10 := NB487_486.out; have hcz11_0 : w9.cell? ⟨gb486, 0, none⟩ = some (.int .i64 a0_0) := (blk_cell BK486.out 0).trans rfl; have hcz11_1 : w9.cell? ⟨gb486, 1, none⟩ = some (.int .i64 a0_1) := (blk_cell BK486.out 1).trans rfl; have hfz11_0 := blk_frozen BK486.out 0; have hfz11_1 := blk_frozen BK486.out 1) | ((with_reducible refine gate_callee (f := 18) rfl ?_); refine goesL_ (some 17) rfl rfl Try.func18 (by kernel_rfl) rfl #[.agg #[.int .i64 a0_0, .int .i64 a0_1], .int .i64 a1, .slice A2 l2.length c2] rfl (by (try simp only [List.map_toArray, List.map_cons, List.map_nil]); first | done | rfl | (simp only [List.length_drop, List.length_take]; rfl)) ?_; (with_reducible refine (erasure_Decode.calls a0_0 a0_1 a1 _ _ l2 t488 t489 _ ?side1 ?side2 A5.out).mono ?_); (case side1 => repeat (first | exact (Kd.C_below HR2.out HB.out) | (with_reducible refine Kd.C_alloc ?_ _) | (with_reducible refine Kd.C_drewN ?_ _) | (with_reducible refine Kd.C_drew ?_))); (case side2 => exact HC2.out); rintro e w12 ⟨rfl, hb⟩; refine ⟨_, rfl, ?_⟩; have n0_ := Aside0.mk (blk_below (g := gb486) (o := .cells #[.int .i64 a0_0, .int .i64 a0_1] 28 (0, 0)) (by (with_reducible repeat (first | refine blk_drewN ?_ _ | refine blk_drew ?_ | refine blk_alloc ?_ _)); exact BK486.out) hb); have n1_ := Aside0.mk (blk_below (g := gb487) (o := .cells #[.int .i64 0, .string (⟨#[]⟩ : ByteArray)] 37 (0, 0)) (by (with_reducible repeat (first | refine blk_drewN ?_ _ | refine blk_drew ?_ | refine blk_alloc ?_ _)); exact BK487.out) hb); have n2_ := Aside0.mk (below_step (by repeat (first | (with_reducible first | exact HB.out | apply below_alloc | apply pw_below_drewN | apply below_drew1 | refine below_set ?_ GE486.out | refine below_set ?_ GE487.out) | exact HB.out)) hb); clear BK486; clear BK487; clear HB; have BK486 := n0_; have BK487 := n1_; have HB := n2_; clear n0_ n1_ n2_; (try clear hb); (try clear hb2); (try clear hk); (try clear hi)))
    (try simp only [Act.put, List.setIfInBounds_toArray, List.set_cons_zero, List.set_cons_succ])
    go_cut [31] (fun v31 wc => ∃ (kq : Nat) (x31_6 : Bool), v31 = .bool x31_6 ∧ Aside0 (erasure_Repair.j0 kq a3 t488 x31_6 a0_0 a0_1 = some (r1, r2, r3)) ∧ Aside0 (kq ≤ k) ∧ Aside0 (wc.heap[gb486]? = some (.cells #[.int .i64 a0_0, .int .i64 a0_1] 28 (0, 0))) ∧ Aside0 (wc.heap[gb487]? = some (.cells #[.int .i64 0, .string (⟨#[]⟩ : ByteArray)] 37 (0, 0))) ∧ Aside0 (Below w.heap.size w wc))
    case first =>
      have H := HC7.out
      clear HC7
      by_cases c13 : a3 < 0
      · rw [if_pos c13] at H
        have c13b0 : decide (a3 < 0) = true := decide_eq_true c13
        clear c13
        (first | rw [c13b0] | (simp only [i64_w, i32_w]; rw [c13b0]) | skip)
        have H' := Aside0.mk H
        clear H
        go_wp2
        go_meet
        case rel => exact ⟨_, (true), (by first | rfl | (simp; done) | (simp [*]; done)), H', ⟨by first | omega | exact Nat.le_refl _⟩, ⟨by (with_reducible repeat (first | refine blk_drewN ?_ _ | refine blk_drew ?_ | refine blk_alloc ?_ _)); exact BK486.out⟩, ⟨by (with_reducible repeat (first | refine blk_drewN ?_ _ | refine blk_drew ?_ | refine blk_alloc ?_ _)); exact BK487.out⟩, ⟨by repeat (first | (with_reducible first | exact HB.out | apply below_alloc | apply pw_below_drewN | apply below_drew1 | refine below_set ?_ GE486.out | refine below_set ?_ GE487.out) | exact HB.out)⟩⟩
      · rw [if_neg c13] at H
        have c13b0 : decide (a3 < 0) = false := decide_eq_false c13
        clear c13
        (first | rw [c13b0] | (simp only [i64_w, i32_w]; rw [c13b0]) | skip)
        have H' := Aside0.mk H
        clear H
        have hnb14 := NB486_487.out
        have hnc14 := NB487_486.out
        have hcz15_0 : w12.cell? ⟨gb486, 0, none⟩ = some (.int .i64 a0_0) := (blk_cell BK486.out 0).trans rfl
        have hcz15_1 : w12.cell? ⟨gb486, 1, none⟩ = some (.int .i64 a0_1) := (blk_cell BK486.out 1).trans rfl
        have hfz15_0 := blk_frozen BK486.out 0
        have hfz15_1 := blk_frozen BK486.out 1
        go_wp2
        go_meet
        case rel => exact ⟨_, (decide (a3 ≥ a0_1)), (by first | rfl | (simp; done) | (simp [*]; done)), H', ⟨by first | omega | exact Nat.le_refl _⟩, ⟨by (with_reducible repeat (first | refine blk_drewN ?_ _ | refine blk_drew ?_ | refine blk_alloc ?_ _)); exact BK486.out⟩, ⟨by (with_reducible repeat (first | refine blk_drewN ?_ _ | refine blk_drew ?_ | refine blk_alloc ?_ _)); exact BK487.out⟩, ⟨by repeat (first | (with_reducible first | exact HB.out | apply below_alloc | apply pw_below_drewN | apply below_drew1 | refine below_set ?_ GE486.out | refine below_set ?_ GE487.out) | exact HB.out)⟩⟩
    case rest =>
      clear HC7
      try clear c1
      try clear c2
      try clear p2
      try clear c6
      try clear c6b0
      try clear c6b1
      try clear c10
      try clear c13
      try clear c13b0
      try clear c14
      try clear hcz11_0
      try clear hcz11_1
      try clear hcz15_0
      try clear hcz15_1
      try clear hfz11_0
      try clear hfz11_1
      try clear hfz15_0
      try clear hfz15_1
      obtain ⟨kq, x31_6, rfl, HA, HJ6, BK486, BK487, HB⟩ := hcut
      cases kq with
      | zero => exact absurd HA.out (by simp [erasure_Repair.j0])
      | succ kj6 =>
        have H := HA.out
        clear HA
        simp only [erasure_Repair.j0] at H
        by_cases c16 : x31_6 = true
        · subst c16
          have H1 : (some (0, (⟨#[]⟩ : ByteArray), 1)) = some (r1, r2, r3) := by rw [if_pos rfl] at H; exact H
          clear H
          have H := H1
          clear H1
          simp only [Option.some.injEq, Prod.mk.injEq] at H
          obtain ⟨rfl, rfl, rfl⟩ := H
          have hnb17 := NB487_486.out
          have hnc17 := NB486_487.out
          have hcz18_0 : wc.cell? ⟨gb487, 0, none⟩ = some (.int .i64 0) := (blk_cell BK487.out 0).trans rfl
          have hcz18_1 : wc.cell? ⟨gb487, 1, none⟩ = some (.string (⟨#[]⟩ : ByteArray)) := (blk_cell BK487.out 1).trans rfl
          have hfz18_0 := blk_frozen BK487.out 0
          have hfz18_1 := blk_frozen BK487.out 1
          go_wp2
          refine bodyPost_ret (results_ct rfl _ _ gb487 37 #[.int .i64 0, .string (⟨#[]⟩ : ByteArray)] (0, 0) _ rfl (by (with_reducible repeat (first | refine blk_drewN ?_ _ | refine blk_drew ?_ | refine blk_alloc ?_ _)); refine blk_put (cs := #[.int .i64 0, .string (⟨#[]⟩ : ByteArray)]) ?_ 1 _ rfl; (with_reducible repeat (first | refine blk_drewN ?_ _ | refine blk_drew ?_ | refine blk_alloc ?_ _)); refine blk_put (cs := #[.int .i64 0, .string (⟨#[]⟩ : ByteArray)]) ?_ 0 _ rfl; (with_reducible repeat (first | refine blk_drewN ?_ _ | refine blk_drew ?_ | refine blk_alloc ?_ _)); exact BK487.out) Try.underlying37 rfl (by kernel_rfl)) rfl ?_
          exact ⟨by first | rfl | (simp [errW_none, errW_some] <;> rfl) | (simp [*, errW_none, errW_some] <;> rfl), by repeat (first | (with_reducible first | exact HB.out | apply below_alloc | apply pw_below_drewN | apply below_drew1 | refine below_set ?_ GE486.out | refine below_set ?_ GE487.out) | exact HB.out)⟩
        · replace c16 := Bool.eq_false_iff.mpr c16
          subst c16
          have H1 : ((erasure_Encode.f kj6 a0_0 a0_1 t488).bind fun bt490 => (if bt490.2 = 0 then (if 0 ≤ a3 then (if a3 < (bt490.1.length : Int) then (some ((rd_T37 bt490.1 a3).f0, (rd_T37 bt490.1 a3).f1, 0)) else (none)) else (none)) else (some (0, (⟨#[]⟩ : ByteArray), bt490.2)))) = some (r1, r2, r3) := by rw [if_neg (show ¬ (false = true) by decide)] at H; exact H
          clear H
          have H := H1
          clear H1
          replace H := Option.bind_eq_some_iff.mp H
          obtain ⟨⟨t490, t493⟩, A190, H⟩ := H
          replace H : (if t493 = 0 then (if 0 ≤ a3 then (if a3 < (t490.length : Int) then (some ((rd_T37 t490 a3).f0, (rd_T37 t490 a3).f1, 0)) else (none)) else (none)) else (some (0, (⟨#[]⟩ : ByteArray), t493))) = some (r1, r2, r3) := H
          have A19 := Aside0.mk A190
          clear A190
          by_cases c20 : t493 = 0
          · rw [if_pos c20] at H
            have c20b0 : (t493 == 0) = true := beq_iff_eq.mpr c20
            have c20b1 : (t493 != 0) = false := bne_eq_false_iff_eq.mpr c20
            clear c20
            by_cases c21 : 0 ≤ a3
            · rw [if_pos c21] at H
              have c21b0 : decide (0 ≤ a3) = true := decide_eq_true c21
              clear c21
              by_cases c22 : a3 < (t490.length : Int)
              · rw [if_pos c22] at H
                have c22b0 : decide (a3 < (t490.length : Int)) = true := decide_eq_true c22
                clear c22
                simp only [Option.some.injEq, Prod.mk.injEq] at H
                obtain ⟨rfl, rfl, rfl⟩ := H
                have hnb23 := NB486_487.out
                have hnc23 := NB487_486.out
                have hcz24_0 : wc.cell? ⟨gb486, 0, none⟩ = some (.int .i64 a0_0) := (blk_cell BK486.out 0).trans rfl
                have hcz24_1 : wc.cell? ⟨gb486, 1, none⟩ = some (.int .i64 a0_1) := (blk_cell BK486.out 1).trans rfl
                have hfz24_0 := blk_frozen BK486.out 0
                have hfz24_1 := blk_frozen BK486.out 1
                go_wp2_with (first | ((with_reducible refine gate_callee (f := 14) rfl ?_); refine goesL_ (some 36) rfl rfl Try.func14 (by kernel_rfl) rfl #[.agg #[.int .i64 a0_0, .int .i64 a0_1], .string t488] rfl (by (try simp only [List.map_toArray, List.map_cons, List.map_nil]); first | done | rfl | (simp only [List.length_drop, List.length_take]; rfl)) ?_; (with_reducible refine (erasure_Encode.calls kj6 a0_0 a0_1 t488 t490 t493 _ A19.out).mono ?_); rintro e w25 ⟨v491, rfl, ho0, hb⟩; refine ⟨_, rfl, ?_⟩; have n0_ := Aside0.mk (Kd.R_lower (Kd.R_newB ho0 (g := gb487) (o := .cells #[.int .i64 0, .string (⟨#[]⟩ : ByteArray)] 37 (0, 0)) (by (with_reducible repeat (first | refine blk_drewN ?_ _ | refine blk_drew ?_ | refine blk_alloc ?_ _)); exact BK487.out)) (below_size (by repeat (first | (with_reducible first | exact HB.out | apply below_alloc | apply pw_below_drewN | apply below_drew1 | refine below_set ?_ GE486.out | refine below_set ?_ GE487.out) | exact HB.out)))); have n1_ := Aside0.mk (blk_below (g := gb486) (o := .cells #[.int .i64 a0_0, .int .i64 a0_1] 28 (0, 0)) (by (with_reducible repeat (first | refine blk_drewN ?_ _ | refine blk_drew ?_ | refine blk_alloc ?_ _)); exact BK486.out) hb); have n2_ := Aside0.mk (blk_below (g := gb487) (o := .cells #[.int .i64 0, .string (⟨#[]⟩ : ByteArray)] 37 (0, 0)) (by (with_reducible repeat (first | refine blk_drewN ?_ _ | refine blk_drew ?_ | refine blk_alloc ?_ _)); exact BK487.out) hb); have n3_ := Aside0.mk (below_step (by repeat (first | (with_reducible first | exact HB.out | apply below_alloc | apply pw_below_drewN | apply below_drew1 | refine below_set ?_ GE486.out | refine below_set ?_ GE487.out) | exact HB.out)) hb); clear BK486; clear BK487; clear HB; have HO492 := n0_; have BK486 := n1_; have BK487 := n2_; have HB := n3_; clear n0_ n1_ n2_ n3_; (try clear hb); (try clear hb2); (try clear hk); (try clear hi); (try clear ho0); obtain ⟨Ao26, co26, eo26⟩ := Kd.R_slice HO492.out; subst eo26; have p494 : 0 ≤ (a3 : Int) := of_decide_eq_true (by first | (with_reducible assumption) | assumption); have q494 : a3 < (t490.length : Int) := of_decide_eq_true (by first | (with_reducible assumption) | assumption); obtain ⟨ad494, e494, hx494_0, hx494_1⟩ := at_T37 (Kd.R_reads' HO492.out).2.2 a3 p494 q494; cases e494; replace p494 := eq_true p494; replace q494 := eq_true q494; have hcz27_0 : w25.cell? ⟨gb487, 0, none⟩ = some (.int .i64 0) := (blk_cell BK487.out 0).trans rfl; have hcz27_1 : w25.cell? ⟨gb487, 1, none⟩ = some (.string (⟨#[]⟩ : ByteArray)) := (blk_cell BK487.out 1).trans rfl; have hfz27_0 := blk_frozen BK487.out 0; have hfz27_1 := blk_frozen BK487.out 1))
                refine bodyPost_ret (results_ct rfl _ _ gb487 37 #[.int .i64 ((rd_T37 t490 a3).f0), .string ((rd_T37 t490 a3).f1)] (0, 0) _ rfl (by (with_reducible repeat (first | refine blk_drewN ?_ _ | refine blk_drew ?_ | refine blk_alloc ?_ _)); refine blk_put (cs := #[.int .i64 ((rd_T37 t490 a3).f0), .string (⟨#[]⟩ : ByteArray)]) ?_ 1 _ rfl; (with_reducible repeat (first | refine blk_drewN ?_ _ | refine blk_drew ?_ | refine blk_alloc ?_ _)); refine blk_put (cs := #[.int .i64 0, .string (⟨#[]⟩ : ByteArray)]) ?_ 0 _ rfl; (with_reducible repeat (first | refine blk_drewN ?_ _ | refine blk_drew ?_ | refine blk_alloc ?_ _)); exact BK487.out) Try.underlying37 rfl (by kernel_rfl)) rfl ?_
                exact ⟨by first | rfl | (simp [errW_none, errW_some] <;> rfl) | (simp [*, errW_none, errW_some] <;> rfl), by repeat (first | (with_reducible first | exact HB.out | apply below_alloc | apply pw_below_drewN | apply below_drew1 | refine below_set ?_ GE486.out | refine below_set ?_ GE487.out) | exact HB.out)⟩
              · rw [if_neg c22] at H
                exact absurd H (by simp)
            · rw [if_neg c21] at H
              exact absurd H (by simp)
          · rw [if_neg c20] at H
            have c20b0 : (t493 == 0) = false := beq_eq_false_iff_ne.mpr c20
            have c20b1 : (t493 != 0) = true := bne_iff_ne.mpr c20
            simp only [Option.some.injEq, Prod.mk.injEq] at H
            obtain ⟨rfl, rfl, rfl⟩ := H
            have hnb28 := NB486_487.out
            have hnc28 := NB487_486.out
            have hcz29_0 : wc.cell? ⟨gb486, 0, none⟩ = some (.int .i64 a0_0) := (blk_cell BK486.out 0).trans rfl
            have hcz29_1 : wc.cell? ⟨gb486, 1, none⟩ = some (.int .i64 a0_1) := (blk_cell BK486.out 1).trans rfl
            have hfz29_0 := blk_frozen BK486.out 0
            have hfz29_1 := blk_frozen BK486.out 1
            go_wp2_with (first | ((with_reducible refine gate_callee (f := 14) rfl ?_); refine goesL_ (some 36) rfl rfl Try.func14 (by kernel_rfl) rfl #[.agg #[.int .i64 a0_0, .int .i64 a0_1], .string t488] rfl (by (try simp only [List.map_toArray, List.map_cons, List.map_nil]); first | done | rfl | (simp only [List.length_drop, List.length_take]; rfl)) ?_; (with_reducible refine (erasure_Encode.calls kj6 a0_0 a0_1 t488 t490 t493 _ A19.out).mono ?_); rintro e w30 ⟨v491, rfl, ho0, hb⟩; refine ⟨_, rfl, ?_⟩; have n0_ := Aside0.mk (Kd.R_lower (Kd.R_newB ho0 (g := gb487) (o := .cells #[.int .i64 0, .string (⟨#[]⟩ : ByteArray)] 37 (0, 0)) (by (with_reducible repeat (first | refine blk_drewN ?_ _ | refine blk_drew ?_ | refine blk_alloc ?_ _)); exact BK487.out)) (below_size (by repeat (first | (with_reducible first | exact HB.out | apply below_alloc | apply pw_below_drewN | apply below_drew1 | refine below_set ?_ GE486.out | refine below_set ?_ GE487.out) | exact HB.out)))); have n1_ := Aside0.mk (blk_below (g := gb486) (o := .cells #[.int .i64 a0_0, .int .i64 a0_1] 28 (0, 0)) (by (with_reducible repeat (first | refine blk_drewN ?_ _ | refine blk_drew ?_ | refine blk_alloc ?_ _)); exact BK486.out) hb); have n2_ := Aside0.mk (blk_below (g := gb487) (o := .cells #[.int .i64 0, .string (⟨#[]⟩ : ByteArray)] 37 (0, 0)) (by (with_reducible repeat (first | refine blk_drewN ?_ _ | refine blk_drew ?_ | refine blk_alloc ?_ _)); exact BK487.out) hb); have n3_ := Aside0.mk (below_step (by repeat (first | (with_reducible first | exact HB.out | apply below_alloc | apply pw_below_drewN | apply below_drew1 | refine below_set ?_ GE486.out | refine below_set ?_ GE487.out) | exact HB.out)) hb); clear BK486; clear BK487; clear HB; have HO492 := n0_; have BK486 := n1_; have BK487 := n2_; have HB := n3_; clear n0_ n1_ n2_ n3_; (try clear hb); (try clear hb2); (try clear hk); (try clear hi); (try clear ho0); have hcz31_0 : w30.cell? ⟨gb487, 0, none⟩ = some (.int .i64 0) := (blk_cell BK487.out 0).trans rfl; have hcz31_1 : w30.cell? ⟨gb487, 1, none⟩ = some (.string (⟨#[]⟩ : ByteArray)) := (blk_cell BK487.out 1).trans rfl; have hfz31_0 := blk_frozen BK487.out 0; have hfz31_1 := blk_frozen BK487.out 1))
            refine bodyPost_ret (results_ct rfl _ _ gb487 37 #[.int .i64 0, .string (⟨#[]⟩ : ByteArray)] (0, 0) _ rfl (by (with_reducible repeat (first | refine blk_drewN ?_ _ | refine blk_drew ?_ | refine blk_alloc ?_ _)); refine blk_put (cs := #[.int .i64 0, .string (⟨#[]⟩ : ByteArray)]) ?_ 1 _ rfl; (with_reducible repeat (first | refine blk_drewN ?_ _ | refine blk_drew ?_ | refine blk_alloc ?_ _)); refine blk_put (cs := #[.int .i64 0, .string (⟨#[]⟩ : ByteArray)]) ?_ 0 _ rfl; (with_reducible repeat (first | refine blk_drewN ?_ _ | refine blk_drew ?_ | refine blk_alloc ?_ _)); exact BK487.out) Try.underlying37 rfl (by kernel_rfl)) rfl ?_
            exact ⟨by first | rfl | (simp [errW_none, errW_some] <;> rfl) | (simp [*, errW_none, errW_some] <;> rfl), by repeat (first | (with_reducible first | exact HB.out | apply below_alloc | apply pw_below_drewN | apply below_drew1 | refine below_set ?_ GE486.out | refine below_set ?_ GE487.out) | exact HB.out)⟩
  · rw [if_neg c6] at H
    have c6b0 : (t489 == 0) = false := beq_eq_false_iff_ne.mpr c6
    have c6b1 : (t489 != 0) = true := bne_iff_ne.mpr c6
    simp only [Option.some.injEq, Prod.mk.injEq] at H
    obtain ⟨rfl, rfl, rfl⟩ := H
    go_enter Try.func27, Try.ntmps27
    go_wp2_with (first | ((with_reducible refine gate_dst (N := 4) rfl ?_); refine box_event ?hg (N := 4) ?hd (cs := #[.int .i64 a0_0, .int .i64 a0_1]) (t := 28) ?hr ?_; (case hd => rfl); (case hg => rfl); (case hr => first | (go_simp; done) | (go_simp; rfl)); intro gb486 hg w32 hbox hb; have n0_ := Aside0.mk (below_step (by repeat (first | (with_reducible first | exact HB.out | apply below_alloc | apply pw_below_drewN | apply below_drew1) | exact HB.out)) hb); have n1_ := Aside0.mk (hbox); have n2_ := Aside0.mk ((by rw [hg]; exact (below_size (by repeat (first | (with_reducible first | exact HB.out | apply below_alloc | apply pw_below_drewN | apply below_drew1) | exact HB.out))) : w.heap.size ≤ gb486)); have n3_ := Aside0.mk ((by rw [hg]; exact (below_size (by repeat (first | (with_reducible first | exact HB.out | apply below_alloc | apply pw_below_drewN | apply below_drew1) | exact HB.out))) : w.heap.size ≤ gb486)); clear HB; have HB := n0_; have BK486 := n1_; have GW486 := n2_; have GE486 := n3_; clear n0_ n1_ n2_ n3_; clear hb hbox hg) | ((with_reducible refine gate_dst (N := 8) rfl ?_); refine box_event ?hg (N := 8) ?hd (cs := #[.int .i64 0, .string (⟨#[]⟩ : ByteArray)]) (t := 37) ?hr ?_; (case hd => rfl); (case hg => rfl); (case hr => first | (go_simp; done) | (go_simp; rfl)); intro gb487 hg w33 hbox hb; have n0_ := Aside0.mk (blk_below (g := gb486) (o := .cells #[.int .i64 a0_0, .int .i64 a0_1] 28 (0, 0)) (by (with_reducible repeat (first | refine blk_drewN ?_ _ | refine blk_drew ?_ | refine blk_alloc ?_ _)); exact BK486.out) hb); have n1_ := Aside0.mk (below_step (by repeat (first | (with_reducible first | exact HB.out | apply below_alloc | apply pw_below_drewN | apply below_drew1 | refine below_set ?_ GE486.out) | exact HB.out)) hb); have n2_ := Aside0.mk (hbox); have n3_ := Aside0.mk ((by rw [hg]; exact (below_size (by repeat (first | (with_reducible first | exact HB.out | apply below_alloc | apply pw_below_drewN | apply below_drew1 | refine below_set ?_ GE486.out) | exact HB.out))) : w.heap.size ≤ gb487)); have n4_ := Aside0.mk ((by rw [hg]; exact (below_size (by repeat (first | (with_reducible first | exact HB.out | apply below_alloc | apply pw_below_drewN | apply below_drew1 | refine below_set ?_ GE486.out) | exact HB.out))) : w.heap.size ≤ gb487)); have n5_ := Aside0.mk ((by rw [hg]; exact Nat.ne_of_lt (blk_lt (g := gb486) (o := .cells #[.int .i64 a0_0, .int .i64 a0_1] 28 (0, 0)) (by (with_reducible repeat (first | refine blk_drewN ?_ _ | refine blk_drew ?_ | refine blk_alloc ?_ _)); exact BK486.out)) : gb486 ≠ gb487)); have n6_ := Aside0.mk ((by rw [hg]; exact Nat.ne_of_gt (blk_lt (g := gb486) (o := .cells #[.int .i64 a0_0, .int .i64 a0_1] 28 (0, 0)) (by (with_reducible repeat (first | refine blk_drewN ?_ _ | refine blk_drew ?_ | refine blk_alloc ?_ _)); exact BK486.out)) : gb487 ≠ gb486)); clear BK486; clear HB; have BK486 := n0_; have HB := n1_; have BK487 := n2_; have GW487 := n3_; have GE487 := n4_; have NB486_487 := n5_; have NB487_486 := n6_; clear n0_ n1_ n2_ n3_ n4_ n5_ n6_; clear hb hbox hg; have hnb34 := NB486_487.out; have hnc34 := NB487_486.out; have hcz35_0 : w33.cell? ⟨gb486, 0, none⟩ = some (.int .i64 a0_0) := (blk_cell BK486.out 0).trans rfl; have hcz35_1 : w33.cell? ⟨gb486, 1, none⟩ = some (.int .i64 a0_1) := (blk_cell BK486.out 1).trans rfl; have hfz35_0 := blk_frozen BK486.out 0; have hfz35_1 := blk_frozen BK486.out 1) | ((with_reducible refine gate_callee (f := 18) rfl ?_); refine goesL_ (some 17) rfl rfl Try.func18 (by kernel_rfl) rfl #[.agg #[.int .i64 a0_0, .int .i64 a0_1], .int .i64 a1, .slice A2 l2.length c2] rfl (by (try simp only [List.map_toArray, List.map_cons, List.map_nil]); first | done | rfl | (simp only [List.length_drop, List.length_take]; rfl)) ?_; (with_reducible refine (erasure_Decode.calls a0_0 a0_1 a1 _ _ l2 t488 t489 _ ?side1 ?side2 A5.out).mono ?_); (case side1 => repeat (first | exact (Kd.C_below HR2.out HB.out) | (with_reducible refine Kd.C_alloc ?_ _) | (with_reducible refine Kd.C_drewN ?_ _) | (with_reducible refine Kd.C_drew ?_))); (case side2 => exact HC2.out); rintro e w36 ⟨rfl, hb⟩; refine ⟨_, rfl, ?_⟩; have n0_ := Aside0.mk (blk_below (g := gb486) (o := .cells #[.int .i64 a0_0, .int .i64 a0_1] 28 (0, 0)) (by (with_reducible repeat (first | refine blk_drewN ?_ _ | refine blk_drew ?_ | refine blk_alloc ?_ _)); exact BK486.out) hb); have n1_ := Aside0.mk (blk_below (g := gb487) (o := .cells #[.int .i64 0, .string (⟨#[]⟩ : ByteArray)] 37 (0, 0)) (by (with_reducible repeat (first | refine blk_drewN ?_ _ | refine blk_drew ?_ | refine blk_alloc ?_ _)); exact BK487.out) hb); have n2_ := Aside0.mk (below_step (by repeat (first | (with_reducible first | exact HB.out | apply below_alloc | apply pw_below_drewN | apply below_drew1 | refine below_set ?_ GE486.out | refine below_set ?_ GE487.out) | exact HB.out)) hb); clear BK486; clear BK487; clear HB; have BK486 := n0_; have BK487 := n1_; have HB := n2_; clear n0_ n1_ n2_; (try clear hb); (try clear hb2); (try clear hk); (try clear hi); have hcz37_0 : w36.cell? ⟨gb487, 0, none⟩ = some (.int .i64 0) := (blk_cell BK487.out 0).trans rfl; have hcz37_1 : w36.cell? ⟨gb487, 1, none⟩ = some (.string (⟨#[]⟩ : ByteArray)) := (blk_cell BK487.out 1).trans rfl; have hfz37_0 := blk_frozen BK487.out 0; have hfz37_1 := blk_frozen BK487.out 1))
    refine bodyPost_ret (results_ct rfl _ _ gb487 37 #[.int .i64 0, .string (⟨#[]⟩ : ByteArray)] (0, 0) _ rfl (by (with_reducible repeat (first | refine blk_drewN ?_ _ | refine blk_drew ?_ | refine blk_alloc ?_ _)); refine blk_put (cs := #[.int .i64 0, .string (⟨#[]⟩ : ByteArray)]) ?_ 1 _ rfl; (with_reducible repeat (first | refine blk_drewN ?_ _ | refine blk_drew ?_ | refine blk_alloc ?_ _)); refine blk_put (cs := #[.int .i64 0, .string (⟨#[]⟩ : ByteArray)]) ?_ 0 _ rfl; (with_reducible repeat (first | refine blk_drewN ?_ _ | refine blk_drew ?_ | refine blk_alloc ?_ _)); exact BK487.out) Try.underlying37 rfl (by kernel_rfl)) rfl ?_
    exact ⟨by first | rfl | (simp [errW_none, errW_some] <;> rfl) | (simp [*, errW_none, errW_some] <;> rfl), by repeat (first | (with_reducible first | exact HB.out | apply below_alloc | apply pw_below_drewN | apply below_drew1 | refine below_set ?_ GE486.out | refine below_set ?_ GE487.out) | exact HB.out)⟩

end Go.Proofs.Ytgmadofbelhmeaa.L
end
section
/- law07's some: what it returns, and what its append of a cut row gives. -/
namespace Go.Proofs.Ytgmadofbelhmeaa.L
open Go.RowKit Go.Proofs.YtgmadofbelhmeaaW.PrintWords Go.Proofs.YtgmadofbelhmeaaW.PrintLast Go.Proofs.YtgmadofbelhmeaaW.PrintMore
set_option linter.unusedVariables false
set_option linter.unusedSimpArgs false

theorem w64' {x : Int} (h0 : -9223372036854775808 ≤ x) (h1 : x ≤ 9223372036854775807) : wrap64 x = x := IntWalk.wrap64_in _ ⟨h0, h1⟩
theorem w64s {k : Nat} (h : k ≤ 1000000) : wrap64 ((k : Int) + 1) = ((k + 1 : Nat) : Int) := by rw [w64'] <;> omega
theorem i64s {k lo : Nat} (h : k ≤ 1000000) (e : lo = k + 1) : IntKind.i64.wrap ((k : Int) + 1) = (lo : Int) := by rw [e, ← w64s h]; exact i64_w _
theorem i64t {k m c : Nat} (h : k ≤ 1000000) (hm : k + 1 < m) (hc : k + 1 < c) : IntKind.i64.wrap ((k : Int) + 1) = (k : Int) + 1 ∧ (0 : Int) ≤ (k : Int) + 1 ∧ (k : Int) + 1 ≤ (m : Int) ∧ ((c = k + 1) = False) ∧ ((k : Int) + 1).toNat = k + 1 := by
  have h1 := i64s h rfl
  refine ⟨h1.trans rfl, by omega, by omega, eq_false (by omega), by omega⟩
theorem i64u {k m : Nat} (h : k ≤ 1000000) (hm : k + 1 = m) : IntKind.i64.wrap ((k : Int) + 1) = (k : Int) + 1 ∧ (0 : Int) ≤ (k : Int) + 1 ∧ (k : Int) + 1 ≤ (m : Int) ∧ ((k : Int) + 1).toNat = k + 1 := by
  have h1 := i64s h rfl
  exact ⟨h1.trans rfl, by omega, by omega, by omega⟩
theorem len_step {a b n k w : Nat} (h : a + b = n) (hw : w = a - 1) (hk : k < a) : w + (b + 1) = n := by omega
theorem below_of_grown {W W' : World} (hg : W.drew.grownBy W' none) : Below W.heap.size W W' := ⟨hg.os, hg.tape, hg.output, hg.size, fun i hi => hg.block i hi (by simp)⟩
/-- The row without its element i. -/
def without (l : List S37) (i : Nat) : List S37 := l.take i ++ l.drop (i + 1)
def someAt (s0_0 : List Int) (n : Int) : Nat → List S37 → List S37 → Int → Option (List S37 × Int)
  | 0, _, _, _ => none
  | k + 1, rest, out, s => if (out.length : Int) < n ∧ 0 < rest.length then
      ((storagebartermake_Deck_Next.f s0_0 s (rest.length : Int)).bind fun t => if 0 ≤ t.1 ∧ t.1 < (rest.length : Int) then someAt s0_0 n k (without rest t.1.toNat) (out ++ [rd_T37 rest t.1]) t.2 else none)
    else some (out, s)
def storagebarterlaw07_some.f (s0_0 : List Int) (s0_1 : Int) (l : List S37) (n : Int) : Option (List S37 × Int) :=
  if l.length ≤ 1000000 then someAt s0_0 n (l.length + 1) l [] s0_1 else none

theorem without_length {l : List S37} {i : Nat} (h : i < l.length) : (without l i).length = l.length - 1 := by
  unfold without
  rw [List.length_append, List.length_take, List.length_drop]
  omega
def cells37 : List S37 → List Value
  | [] => []
  | x :: l => .int .i64 x.f0 :: .string x.f1 :: cells37 l
theorem cells37_length : ∀ l, (cells37 l).length = l.length * 2
  | [] => rfl
  | x :: l => by simp only [cells37, List.length_cons, cells37_length l]; omega
theorem cells37_one : ∀ l, ∀ u ∈ cells37 l, u.oneCell' = true
  | [], u, h => absurd h (by simp [cells37])
  | x :: l, u, h => by
    simp only [cells37, List.mem_cons] at h
    rcases h with rfl | rfl | h
    · rfl
    · rfl
    · exact cells37_one l u h
theorem cells37_append : ∀ a b, cells37 (a ++ b) = cells37 a ++ cells37 b
  | [], b => rfl
  | x :: a, b => by simp only [cells37, List.cons_append, cells37_append a b]
theorem cells37_get : ∀ (l : List S37) (q : Nat), (cells37 l)[q * 2]? = (l[q]?.map fun x => Value.int .i64 x.f0) ∧ (cells37 l)[q * 2 + 1]? = (l[q]?.map fun x => Value.string x.f1)
  | [], q => by simp [cells37]
  | x :: l, 0 => by simp [cells37]
  | x :: l, q + 1 => by
    have h := cells37_get l q
    have e : (q + 1) * 2 = q * 2 + 1 + 1 := by omega
    rw [e]
    simp only [cells37, List.getElem?_cons_succ]
    exact h
theorem C37_of_cells {W : World} {ad : Addr} {l : List S37} (hl : l.length ≤ 1000000) (h : ∀ j u, (cells37 l)[j]? = some u → W.cell? (ad.add j) = some u) : Kd.C k37 W (some ad) l.length l :=
  ⟨rfl, by omega, fun _ => ⟨ad, rfl, fun j p hj => ⟨[.int .i64 p.f0, .string p.f1], rfl, k37.K_of_M (k37_mkM W 0 (fun _ => True) p), fun i u hu => by
    have hg := cells37_get l j
    rw [hj] at hg
    match i, hu with
    | 0, hu => exact h _ _ (by rw [show j * k37.sz + 0 = j * 2 from rfl, hg.1]; exact hu)
    | 1, hu => exact h _ _ (by rw [show j * k37.sz + 1 = j * 2 + 1 from rfl, hg.2]; exact hu)
    | i + 2, hu => exact absurd hu (by simp)⟩⟩⟩
theorem cells_of_C37 {W : World} {ad : Addr} {n : Nat} {l : List S37} (h : Kd.C k37 W (some ad) n l) : ∀ j u, (cells37 l)[j]? = some u → W.cell? (ad.add j) = some u := by
  intro j u hj
  have hlt := (List.getElem?_eq_some_iff.1 hj).1
  rw [cells37_length] at hlt
  obtain ⟨ad', e, hc⟩ := h.2.2 (by have := h.1; omega)
  cases e
  have hq : j / 2 < l.length := by omega
  have hg := cells37_get l (j / 2)
  rw [List.getElem?_eq_getElem hq] at hg
  obtain ⟨cs, h1, h2, h3⟩ := hc (j / 2) _ (List.getElem?_eq_getElem hq)
  obtain rfl := k37_open h2
  rcases Nat.mod_two_eq_zero_or_one j with hm | hm
  · have e1 : j / 2 * 2 = j := by omega
    rw [e1] at hg
    have := hj.symm.trans hg.1
    injection this with this
    subst this
    have h4 := h3 0 _ rfl
    rwa [show j / 2 * k37.sz + 0 = j from by show j / 2 * 2 + 0 = j; omega] at h4
  · have e1 : j / 2 * 2 + 1 = j := by omega
    rw [e1] at hg
    have := hj.symm.trans hg.2
    injection this with this
    subst this
    have h4 := h3 1 _ rfl
    rwa [show j / 2 * k37.sz + 1 = j from by show j / 2 * 2 + 1 = j; omega] at h4
theorem add_off (g o j : Nat) : (⟨g, o, none⟩ : Addr).add j = ⟨g, o + j, none⟩ := by
  unfold Addr.add
  split <;> simp_all
/-- What an append of all behind element k onto all ahead of it gives. -/
theorem cut_append {W : World} {gr k c : Nat} {rest : List S37} {u : Value} (hk : k < rest.length) (hcap : rest.length ≤ c) (hl : rest.length ≤ 1000000)
    (hC : Kd.C k37 W (some ⟨gr, 0, none⟩) rest.length rest) (hu1 : k + 1 < rest.length → u = .slice (some ⟨gr, (k + 1) * 2, none⟩) (rest.length - (k + 1)) (c - (k + 1))) (hu2 : k + 1 = rest.length → ∃ A' c', u = .slice A' 0 c') :
    ∃ A1 c1 w1, (Builtin.append_ #[30, 30] 30 #[.slice (some ⟨gr, 0, none⟩) k k, u]).run Try.prog W = .ok (.slice A1 (without rest k).length c1) w1 ∧ (without rest k).length ≤ c1 ∧ (0 < (without rest k).length → ∃ gr1, A1 = some ⟨gr1, 0, none⟩ ∧ (gr1 = gr ∨ W.heap.size ≤ gr1)) ∧ Kd.C k37 w1 A1 (without rest k).length (without rest k) ∧ W.grownBy w1 none := by
  obtain ⟨i0, hi, hzz⟩ := Option.map_eq_some_iff.1 info37
  simp only [Prod.mk.injEq] at hzz
  obtain ⟨hz0, hz1, hz2⟩ := hzz
  have hcs := cells_of_C37 hC
  simp only [add_plain] at hcs
  have hsplit : rest = rest.take k ++ rest.drop k := (List.take_append_drop _ _).symm
  have hsplit2 : rest = rest.take (k + 1) ++ rest.drop (k + 1) := (List.take_append_drop _ _).symm
  have hol : (cells37 (rest.take k)).length = k * 2 := by rw [cells37_length, List.length_take]; omega
  have holds : ∀ j u, (cells37 (rest.take k))[j]? = some u → W.cell? ⟨gr, j, none⟩ = some u := by
    intro j u hj
    refine hcs j u ?_
    have hlt := (List.getElem?_eq_some_iff.1 hj).1
    rw [hsplit, cells37_append, List.getElem?_append_left hlt]
    exact hj
  by_cases hlast : k + 1 = rest.length
  · obtain ⟨A', c', rfl⟩ := hu2 hlast
    have hw : without rest k = rest.take k := by
      unfold without
      rw [hlast, List.drop_length, List.append_nil]
    have hwl : (without rest k).length = k := by rw [without_length hk]; omega
    have hrun := run_append_nothing (P := Try.prog) W 30 30 30 37 i0 Try.underlying30 hi (some ⟨gr, 0, none⟩) k k (Nat.le_refl _) (.slice A' 0 c') (by
      cases A' with
      | none => exact Src.ofNil W Try.underlying30 c'
      | some ad => exact Src.ofSlice W Try.underlying30 ad 0 c' [] (by simp) (by intro j u hj; simp at hj) (by intro u hu; cases hu))
    refine ⟨some ⟨gr, 0, none⟩, k, W, by rw [hwl]; exact hrun, by omega, fun _ => ⟨gr, rfl, .inl rfl⟩, ?_, World.grownBy.refl W _⟩
    refine C37_of_cells (by omega) ?_
    intro j u hj
    rw [hw] at hj
    rw [add_plain]
    exact holds j u hj
  · have hlt : k + 1 < rest.length := by omega
    obtain rfl := hu1 hlt
    have hnl : (cells37 (rest.drop (k + 1))).length = (rest.length - (k + 1)) * 2 := by rw [cells37_length, List.length_drop]
    have hsrc : Src Try.prog i0.size 30 (.slice (some ⟨gr, (k + 1) * 2, none⟩) (rest.length - (k + 1)) (c - (k + 1))) (rest.length - (k + 1)) (cells37 (rest.drop (k + 1))) W := by
      rw [hz1]
      refine Src.ofSlice W Try.underlying30 _ _ _ _ hnl ?_ (cells37_one _)
      intro j u hj
      rw [add_off]
      refine hcs _ u ?_
      rw [hsplit2, cells37_append, List.getElem?_append_right (by rw [cells37_length, List.length_take]; omega), cells37_length, List.length_take]
      rw [show (k + 1) * 2 + j - min (k + 1) rest.length * 2 = j by rw [Nat.min_eq_left (Nat.le_of_lt hlt)]; omega]
      exact hj
    have hold : (Builtin.firstCells i0.size k (.slice (some ⟨gr, 0, none⟩) k k)).run Try.prog W.drew = .ok (cells37 (rest.take k)).toArray W.drew := by
      rw [hz1]
      refine run_firstCells_some W.drew 2 k _ _ _ _ hol ?_
      intro j u hj
      rw [add_plain]
      exact holds j u hj
    have hrun := run_append_grow_src (P := Try.prog) W 30 30 30 37 i0 _ Try.underlying30 hi hz0 (some ⟨gr, 0, none⟩) k k _ hold _ _ _ hsrc (by omega) (by omega) (growslice_fits (by omega) (by rw [hz2]; omega))
    have hge := grownCap_ge W (k + (rest.length - (k + 1))) k 37
    have hwl : (without rest k).length = k + (rest.length - (k + 1)) := by rw [without_length hk]; omega
    refine ⟨_, _, _, by rw [hwl]; exact hrun, by rw [hwl]; exact hge, fun _ => ⟨_, rfl, .inr (Nat.le_refl _)⟩, ?_, ?_⟩
    · refine C37_of_cells (by omega) ?_
      intro j u hj
      rw [add_plain]
      refine (World.cell?_alloc_new W.drew _ _ j).trans ?_
      unfold without at hj
      rw [cells37_append] at hj
      have hjl := (List.getElem?_eq_some_iff.1 hj).1
      rw [Array.getElem?_append_left (by rw [List.size_toArray]; exact hjl), List.getElem?_toArray]
      exact hj
    · exact grown_of_below ((Below.refl _ _).trans (below_alloc (below_drew1 (Below.refl _ _)) _)) none
/-- The row that is drawn from: it lies neither in the deck's block nor in the block of what was drawn. -/
def RestOk (g : Nat) (v8 : Value) (W : World) (A : Option Addr) (rest : List S37) : Prop :=
  rest.length ≤ 1000000 ∧ (0 < rest.length → ∃ gr, A = some ⟨gr, 0, none⟩ ∧ gr ≠ g ∧ some gr ≠ v8.ownBlock ∧ gr < W.heap.size) ∧ Kd.C k37 W A rest.length rest
theorem C_empty (W : World) (A : Option Addr) {l : List S37} (h : ¬ 0 < l.length) : Kd.C k37 W A l.length l := ⟨rfl, by omega, fun h' => absurd h' h⟩
theorem C_block {W W' : World} {gr : Nat} {l : List S37} (hl : l.length ≤ 1000000) (h : Kd.C k37 W (some ⟨gr, 0, none⟩) l.length l) (he : W'.heap[gr]? = W.heap[gr]?) : Kd.C k37 W' (some ⟨gr, 0, none⟩) l.length l := by
  refine C37_of_cells hl fun j u hj => ?_
  have h1 := cells_of_C37 h j u hj
  rw [add_plain] at h1 ⊢
  exact (World.cell?_of_block (a := ⟨gr, j, none⟩) he).trans h1
theorem RestOk.keep {g : Nat} {v8 : Value} {W W' : World} {A : Option Addr} {rest : List S37} (h : RestOk g v8 W A rest) (hk : KeepBut W W' g none) : RestOk g v8 W' A rest := by
  obtain ⟨h0, h1, h2⟩ := h
  by_cases hr : 0 < rest.length
  · obtain ⟨gr, rfl, a1, a2, a3⟩ := h1 hr
    exact ⟨h0, fun _ => ⟨gr, rfl, a1, a2, Nat.lt_of_lt_of_le a3 hk.1⟩, C_block h0 h2 (hk.2 gr a3 a1 (by simp))⟩
  · exact ⟨h0, fun h => absurd h hr, C_empty _ _ hr⟩
theorem RestOk.grown {g : Nat} {v8 v1 : Value} {W W' : World} {A : Option Addr} {rest : List S37} (h : RestOk g v8 W A rest) (hg : W.grownBy W' v8.ownBlock) (hat : v1.ownBlock = v8.ownBlock ∨ ∃ b, v1.ownBlock = some b ∧ W.heap.size ≤ b) : RestOk g v1 W' A rest := by
  obtain ⟨h0, h1, h2⟩ := h
  by_cases hr : 0 < rest.length
  · obtain ⟨gr, rfl, a1, a2, a3⟩ := h1 hr
    refine ⟨h0, fun _ => ⟨gr, rfl, a1, ?_, Nat.lt_of_lt_of_le a3 hg.size⟩, C_block h0 h2 (hg.block gr a3 a2)⟩
    rcases hat with e | ⟨b, e, hb⟩
    · rw [e]
      exact a2
    · rw [e]
      intro he
      injection he with he
      omega
  · exact ⟨h0, fun h => absurd h hr, C_empty _ _ hr⟩
theorem R_start {W : World} {base g : Nat} {ok : Nat → Prop} {v : Value} {xs : List S37} (hl : xs.length ≤ 1000000) (h : Kd.R k37 37 W base ok v xs) (hg : g < base) : ∃ A c, v = .slice A xs.length c ∧ xs.length ≤ c ∧ RestOk g (.slice none 0 0) W A xs := by
  obtain ⟨A, c, rfl, hlc, hC⟩ := Kd.R_reads h
  refine ⟨A, c, rfl, hlc, hl, fun hp => ?_, hC⟩
  obtain ⟨gr, cap, e, h1, h2, _⟩ := Kd.R_form h hp
  injection e with e
  exact ⟨gr, e, by omega, by simp [Value.ownBlock], h2⟩
/-- The append of the cut row, seen from the loop. -/
theorem rest_append {W : World} {g k c : Nat} {v8 : Value} {A : Option Addr} {rest : List S37} (hk : k < rest.length) (hcap : rest.length ≤ c) (h : RestOk g v8 W A rest) (hg : g < W.heap.size) (hv : ∀ b, v8.ownBlock = some b → b < W.heap.size) :
    ∃ gr, A = some ⟨gr, 0, none⟩ ∧ ∀ u, (k + 1 < rest.length → u = .slice (some ⟨gr, (k + 1) * 2, none⟩) (rest.length - (k + 1)) (c - (k + 1))) → (k + 1 = rest.length → ∃ A' c', u = .slice A' 0 c') →
      ∃ A1 c1 w1, (Builtin.append_ #[30, 30] 30 #[.slice (some ⟨gr, 0, none⟩) k k, u]).run Try.prog W = .ok (.slice A1 (without rest k).length c1) w1 ∧ (without rest k).length ≤ c1 ∧ RestOk g v8 w1 A1 (without rest k) ∧ W.grownBy w1 none := by
  obtain ⟨h0, h1, h2⟩ := h
  obtain ⟨gr, rfl, a1, a2, a3⟩ := h1 (by omega)
  refine ⟨gr, rfl, fun u hu1 hu2 => ?_⟩
  obtain ⟨A1, c1, w1, b1, b2, b3, b4, b5⟩ := cut_append hk hcap h0 h2 hu1 hu2
  refine ⟨A1, c1, w1, b1, b2, ⟨by rw [without_length hk]; omega, fun hp => ?_, b4⟩, b5⟩
  obtain ⟨gr1, e, hgr⟩ := b3 hp
  subst e
  have hlt : gr1 < w1.heap.size := Kd.C_lt b4 hp (by decide)
  refine ⟨gr1, rfl, ?_, ?_, hlt⟩
  · rcases hgr with rfl | hgr
    · exact a1
    · omega
  · rcases hgr with rfl | hgr
    · exact a2
    · intro e
      have := hv gr1 e.symm
      omega
theorem keep_then {w W W' : World} {g : Nat} (h : KeepBut w W g none) (hb : Below w.heap.size W W') : KeepBut w W' g none :=
  ⟨Nat.le_trans h.1 hb.size, fun i hi h1 h2 => (hb.block i hi).trans (h.2 i hi h1 h2)⟩
section
variable {P : Program} {ops : Array Oper} {Q : Exit → Act → World → Prop} {rest : List Oper} {a : Act} {o : Oper} {W : World}
/-- An append whose run is known. -/
theorem append_run (hgd : o.guard = none) (s x : Operand) (t : TypeId) (ho : o.op = .call { callee := .builtin .append, args := #[s, x], argTypes := #[t, t] }) {v u v1 : Value} {w1 : World} (hs : a.eval s = v) (hx : a.eval x = u)
    (hr : (Builtin.append_ #[t, t] o.type #[v, u]).run P W = .ok v1 w1) (h : wpList P ops Q rest (a.put o.dst v1) w1) : wpList P ops Q (o :: rest) a W := by
  refine wpList_plain hgd fun K hK => ?_
  unfold Oper.wp execOp
  simp only [ho, resolve, invoke, builtin, Sem.run_bind, Sem.run_pure, Result.andThen_ok, List.map_toArray, List.map_cons, List.map_nil, hs, hx, hr]
  exact hK _ _ h
theorem append_run_step {Kc : Act → World → Prop} (hw : Region.wanted o (yielded ops a.tmps) = true) (s x : Operand) (t : TypeId) (ho : o.op = .call { callee := .builtin .append, args := #[s, x], argTypes := #[t, t] }) {v u v1 : Value} {w1 : World} (hs : a.eval s = v) (hx : a.eval x = u)
    (hr : (Builtin.append_ #[t, t] o.type #[v, u]).run P W = .ok v1 w1) (h : Kc (a.put o.dst v1) w1) : if Region.wanted o (yielded ops a.tmps) = true then Oper.wp P o a W Kc Q else Kc (a.put o.dst undef) W := by
  rw [if_pos hw]
  unfold Oper.wp execOp
  simp only [ho, resolve, invoke, builtin, Sem.run_bind, Sem.run_pure, Result.andThen_ok, List.map_toArray, List.map_cons, List.map_nil, hs, hx, hr]
  exact h
end
end Go.Proofs.Ytgmadofbelhmeaa.L
end
section
/- law07's some. -/
namespace Go.Proofs.Ytgmadofbelhmeaa.L
open Go.RowKit Go.Proofs.YtgmadofbelhmeaaW.PrintWords Go.Proofs.YtgmadofbelhmeaaW.PrintLast Go.Proofs.YtgmadofbelhmeaaW.PrintMore
set_option linter.unusedVariables false
set_option linter.unusedSimpArgs false
set_option maxHeartbeats 2000000 in
set_option maxRecDepth 100000 in
theorem storagebarterlaw07_some.calls (g : Nat) (s0_0 : List Int) (s0_1 : Int) (A1 : Option Addr) (c1 : Nat) (l1 : List S37) (a2 : Int) (r1 : List S37) (r2 : Int) (w0 w : World) (hI : IsS59 w0 w g s0_0 s0_1) (hB : Below w0.heap.size w0 w) (hr1 : ∀ W_, KeepBut w W_ g none → Kd.C k37 W_ A1 l1.length l1) (hc1 : l1.length ≤ c1) (h : storagebarterlaw07_some.f s0_0 s0_1 l1 a2 = some (r1, r2)) :
    Calls Try.prog 16 #[.pointer (some ⟨g, 0, none⟩), .slice A1 l1.length c1, .int .i64 a2] w fun e w' => ∃ v0_ : Value, e = .returned v0_ ∧ Kd.R k37 37 w' w.heap.size (fun _ => True) v0_ r1 ∧ IsS59 w0 w' g s0_0 r2 ∧ Below w0.heap.size w0 w' ∧ KeepBut w w' g none := by
  have hl : l1.length ≤ 1000000 := by
    unfold storagebarterlaw07_some.f at h
    split at h
    · assumption
    · cases h
  unfold storagebarterlaw07_some.f at h
  rw [if_pos hl] at h
  have HI := Aside0.mk hI
  have HB := Aside0.mk hB
  have HR1 := Aside0.mk (hr1 w (KeepBut.refl w g none))
  have HC1 := Aside0.mk hc1
  have H := Aside0.mk h
  have HG := Aside0.mk hI.lt
  have HW := Aside0.mk hB.size
  clear hI hB hr1 hc1 h
  go_enter Try.func16, Try.ntmps16
  go_wp2_with (at_builtin; refine Kd.R_append_rows k37 (Rr := k37.K w) (w0 := w) w.heap.size (by rfl) (.const (.slice none 0 0)) (.tmp 10) 30 37 (.agg #[.int .i64 0, .string ⟨#[]⟩]) 24 rfl Try.underlying30 info37 rfl (by decide) (by omega) (.slice none 0 0) [] l1 A1 l1.length c1 (fun _ => True) (fun _ => False) rfl rfl (Kd.R_nil _ _ _ _ _) HR1.out (fun _ _ h => k37_KM h) (fun _ h => h.elim) (fun _ _ => trivial) (Below.refl _ _) (Nat.le_refl _) ?aL ?_)
  case aL => simp only [List.length_nil]; omega
  intro v1 w1 ho hb hg hat
  replace ho : Kd.R k37 37 w1 w.heap.size (fun _ => True) v1 l1 := ho
  obtain ⟨A7, c7, rfl, h7c, h7⟩ := R_start hl ho HG.out
  have HS := Aside0.mk h7
  have HB1 := Aside0.mk hb
  clear ho hb hg hat h7
  go_wp2_with fail
  go_loopg [7, 8] (l1.length + 1) (fun kq v7 v8 wr => ∃ (rest out : List S37) (s : Int) (A : Option Addr) (c : Nat), v7 = .slice A rest.length c ∧ rest.length ≤ c ∧ Aside0 (rest.length + out.length = l1.length) ∧ Aside0 (someAt s0_0 a2 kq rest out s = some (r1, r2)) ∧ Aside0 (Kd.R k37 37 wr w.heap.size (fun _ => True) v8 out) ∧ Aside0 (RestOk g v8 wr A rest) ∧ Aside0 (IsS59 w0 wr g s0_0 s) ∧ Aside0 (Below w0.heap.size w0 wr) ∧ Aside0 (KeepBut w wr g none) ∧ Aside0 (kq ≤ l1.length + 1))
  case atStart => exact ⟨l1, [], s0_1, A7, c7, rfl, h7c, ⟨rfl⟩, H, ⟨Kd.R_nil _ _ _ _ _⟩, HS, ⟨HI.out.below HB1.out⟩, ⟨HB.out.trans (HB1.out.mono HW.out)⟩, ⟨keep_then (KeepBut.refl w g none) HB1.out⟩, ⟨Nat.le_refl _⟩⟩
  case round =>
    obtain ⟨rest, out, s, A, c, rfl, hrc, HL, HA, HO, HS2, HI2, HB2, HK2, HKQ⟩ := hrel
    cases gk with
    | zero => exact absurd HA.out (by simp [someAt])
    | succ k1 =>
      have hA := HA.out
      unfold someAt at hA
      have ho8 := Kd.R_slice HO.out
      obtain ⟨A8, c8, rfl⟩ := ho8
      by_cases hc : (out.length : Int) < a2 ∧ 0 < rest.length
      · rw [if_pos hc] at hA
        replace hA := Option.bind_eq_some_iff.mp hA
        obtain ⟨⟨t1, t2⟩, hD, hA⟩ := hA
        simp only at hA
        split at hA
        case isFalse => cases hA
        rename_i ht
        obtain ⟨kk, rfl⟩ : ∃ kk : Nat, t1 = (kk : Int) := ⟨t1.toNat, by omega⟩
        rw [Int.toNat_natCast] at hA
        have hkk : kk < rest.length := by omega
        have hrl := HS2.out.1
        have hol : out.length ≤ 1000000 := by have := HL.out; omega
        have d1 : decide ((out.length : Int) < a2) = true := decide_eq_true hc.1
        have d2 : decide (0 < (rest.length : Int)) = true := decide_eq_true (by omega)
        have hD' := Aside0.mk hD
        have hA' := Aside0.mk hA
        clear hD hA hc ht HA
        go_wp2_with fail
        refine (storagebartermake_Deck_Next.calls g s0_0 s (rest.length : Int) (kk : Int) t2 w0 _ HI2.out HB2.out hD'.out).mono ?_
        rintro e w5 ⟨rfl, hi5, hb5, hk5⟩
        have HO5 := Aside0.mk (Kd.R_mono (Kd.R_oldK (IsS59.apart HI2.out HO.out (by decide)) hk5) (ok' := fun _ => True) (fun _ _ => trivial))
        have HS5 := Aside0.mk (HS2.out.keep hk5)
        have HI5 := Aside0.mk hi5
        have HB5 := Aside0.mk hb5
        have HK5 := Aside0.mk (HK2.out.trans hk5 (.inl rfl))
        clear hi5 hb5 hk5 HO HS2 HI2 HB2 HK2
        obtain ⟨ad, e, hcell0, hcell1⟩ := at_T37 HS5.out.2.2 (kk : Int) (by omega) (by omega)
        obtain ⟨gr, e2, _, _, _⟩ := HS5.out.2.1 (by omega)
        subst e2
        cases e
        rw [Int.toNat_natCast, add_plain] at hcell0 hcell1
        go_wp2_with (at_builtin; refine Kd.R_append k37 (w0 := w5) w.heap.size rfl (.tmp 25) (.tmp 30) 30 37 (.agg #[(.int .i64 0), (.string ⟨#[]⟩)]) 24 rfl Try.underlying30 info37 rfl (by decide) (by omega) (.slice A8 out.length c8) out (rd_T37 rest (kk : Int)) [.int .i64 (rd_T37 rest (kk : Int)).f0, .string (rd_T37 rest (kk : Int)).f1] (fun _ => True) (fun _ => False) rfl rfl (k37_mkM _ _ _ _) (fun _ h => h.elim) (fun _ _ => trivial) HO5.out (Below.refl _ _) HK5.out.1 (by omega) ?_)
        intro v6 w6 ho6 hb6 hg6 hat6
        go_wp2_with fail
        have HS6 := HS5.out.grown hg6 hat6
        have hg5 : g < w5.heap.size := HI5.out.lt
        obtain ⟨gr', e3, happ⟩ := rest_append (W := w6.drew) hkk hrc ⟨HS6.1, HS6.2.1, Kd.C_drew HS6.2.2⟩ (Nat.lt_of_lt_of_le hg5 hb6.size) (Kd.R_lt ho6)
        cases e3
        have HO6 := Aside0.mk ho6
        have HI6 := Aside0.mk (HI5.out.grown hg6 (IsS59.own_ne HI5.out HO5.out (by decide)))
        have HB6 := Aside0.mk (HB5.out.trans (hb6.mono HW.out))
        have HK6 := Aside0.mk (keep_then HK5.out hb6)
        clear ho6 hg6 hat6 hb6 HS5 HI5 HB5 HK5 HO5 hcell0 hcell1 d1 d2 HS6
        have hwl := without_length hkk
        have HWL := Aside0.mk hwl
        have hkc : kk < c := Nat.lt_of_lt_of_le hkk hrc
        have hkk0 : (kk : Int) ≤ (c : Int) := Int.ofNat_le.2 (Nat.le_of_lt hkc)
        clear hwl
        by_cases hlast : kk + 1 < rest.length
        · obtain ⟨A1', c1', w7, hrun, hle7, HS7, hg7⟩ := happ _ (fun _ => rfl) (fun e => absurd e (Nat.ne_of_lt hlast))
          have hkl : kk + 1 < c := Nat.lt_of_lt_of_le hlast hrc
          clear happ
          obtain ⟨hw1, hw2, hw3, hw4, hw5⟩ := i64t (Nat.le_trans (Nat.le_of_lt hkk) hrl) hlast hkl
          have hp1 : (0 : Int) ≤ (kk : Int) := Int.natCast_nonneg _
          have hp2 : (kk : Int) ≤ (rest.length : Int) := Int.ofNat_le.2 (Nat.le_of_lt hkk)
          clear hkl hrl hol hkc h7c hrc
          go_region_held3 (fun w' => True) (exact trivial) (refine append_run_step rfl (.tmp 35) (.tmp 39) 30 rfl rfl rfl hrun ?_)
          have hb7 := below_of_grown hg7
          go_wp2_with fail
          go_roundg k1
          case measure => exact Nat.lt_succ_self k1
          case rel => exact ⟨without rest kk, out ++ [rd_T37 rest (kk : Int)], t2, A1', c1', rfl, hle7, ⟨by rw [List.length_append, List.length_singleton]; exact len_step HL.out HWL.out hkk⟩, hA', ⟨Kd.R_below HO6.out hb7⟩, ⟨HS7⟩, ⟨HI6.out.below hb7⟩, ⟨HB6.out.trans (hb7.mono (Nat.le_trans HW.out HK6.out.1))⟩, ⟨keep_then HK6.out (hb7.mono HK6.out.1)⟩, ⟨Nat.le_of_succ_le HKQ.out⟩⟩
        · have hlast : kk + 1 = rest.length := Nat.le_antisymm hkk (Nat.le_of_not_lt hlast)
          obtain ⟨hw1, hw2, hw3, hw5⟩ := i64u (Nat.le_trans (Nat.le_of_lt hkk) hrl) hlast
          have hp1 : (0 : Int) ≤ (kk : Int) := Int.natCast_nonneg _
          have hp2 : (kk : Int) ≤ (rest.length : Int) := Int.ofNat_le.2 (Nat.le_of_lt hkk)
          by_cases hcc : c = rest.length
          · obtain ⟨A1', c1', w7, hrun, hle7, HS7, hg7⟩ := happ (.slice (some ⟨gr, 0, none⟩) 0 (c - rest.length)) (fun e => absurd e (by rw [hlast]; exact Nat.lt_irrefl _)) (fun e => ⟨_, _, rfl⟩)
            clear happ
            have hw4 : (c = rest.length) = True := eq_true hcc
            clear hcc hrl hol hkc h7c hrc
            go_region_held3 (fun w' => True) (exact trivial) (refine append_run_step rfl (.tmp 35) (.tmp 39) 30 rfl rfl rfl hrun ?_)
            have hb7 := below_of_grown hg7
            go_wp2_with fail
            go_roundg k1
            case measure => exact Nat.lt_succ_self k1
            case rel => exact ⟨without rest kk, out ++ [rd_T37 rest (kk : Int)], t2, A1', c1', rfl, hle7, ⟨by rw [List.length_append, List.length_singleton]; exact len_step HL.out HWL.out hkk⟩, hA', ⟨Kd.R_below HO6.out hb7⟩, ⟨HS7⟩, ⟨HI6.out.below hb7⟩, ⟨HB6.out.trans (hb7.mono (Nat.le_trans HW.out HK6.out.1))⟩, ⟨keep_then HK6.out (hb7.mono HK6.out.1)⟩, ⟨Nat.le_of_succ_le HKQ.out⟩⟩
          · obtain ⟨A1', c1', w7, hrun, hle7, HS7, hg7⟩ := happ (.slice (some ⟨gr, rest.length * 2, none⟩) 0 (c - rest.length)) (fun e => absurd e (by rw [hlast]; exact Nat.lt_irrefl _)) (fun e => ⟨_, _, rfl⟩)
            clear happ
            have hw4 : (c = rest.length) = False := eq_false hcc
            clear hcc hrl hol hkc h7c hrc
            go_region_held3 (fun w' => True) (exact trivial) (refine append_run_step rfl (.tmp 35) (.tmp 39) 30 rfl rfl rfl hrun ?_)
            have hb7 := below_of_grown hg7
            go_wp2_with fail
            go_roundg k1
            case measure => exact Nat.lt_succ_self k1
            case rel => exact ⟨without rest kk, out ++ [rd_T37 rest (kk : Int)], t2, A1', c1', rfl, hle7, ⟨by rw [List.length_append, List.length_singleton]; exact len_step HL.out HWL.out hkk⟩, hA', ⟨Kd.R_below HO6.out hb7⟩, ⟨HS7⟩, ⟨HI6.out.below hb7⟩, ⟨HB6.out.trans (hb7.mono (Nat.le_trans HW.out HK6.out.1))⟩, ⟨keep_then HK6.out (hb7.mono HK6.out.1)⟩, ⟨Nat.le_of_succ_le HKQ.out⟩⟩
      · rw [if_neg hc] at hA
        injection hA with hA
        injection hA with hA1 hA2
        subst hA1 hA2
        by_cases d1 : (out.length : Int) < a2
        · have hr0 : rest.length = 0 := by omega
          have d1' : decide ((out.length : Int) < a2) = true := decide_eq_true d1
          have d2 : decide (0 < (rest.length : Int)) = false := decide_eq_false (by omega)
          go_wp2_with fail
          go_ret
          exact ⟨_, rfl, HO.out, HI2.out, HB2.out, HK2.out⟩
        · have d1' : decide ((out.length : Int) < a2) = false := decide_eq_false d1
          go_wp2_with fail
          go_ret
          exact ⟨_, rfl, HO.out, HI2.out, HB2.out, HK2.out⟩
#print axioms storagebarterlaw07_some.calls
end Go.Proofs.Ytgmadofbelhmeaa.L
end
section
-- Printed for this claim by a small program of the session's own, drv.py, round the kit's print.py. Lean checks it.
namespace Go.Proofs.Ytgmadofbelhmeaa.L
open Go.RowKit Go.Proofs.YtgmadofbelhmeaaW.PrintWords Go.Proofs.YtgmadofbelhmeaaW.PrintLast Go.Proofs.YtgmadofbelhmeaaW.PrintMore
attribute [local go_sem] max2_int min2_int max_two min_two max_three min_three max_four min_four   -- for this text's walks alone
set_option linter.unusedVariables false
set_option linter.unusedSimpArgs false

theorem eqA37 (d : Nat) (w : World) (x0 y0 : Int) (x1 y1 : ByteArray) :
    (Op.equalIn (d + 2) 37 (.agg #[.int .i64 x0, .string x1]) (.agg #[.int .i64 y0, .string y1])).run Try.prog w = .ok (x0 == y0 && (x1.toList == y1.toList)) w := by
  refine eqA_of Try.underlying37 (by kernel_rfl) ?_
  refine eqf_cons (by rfl) (by go_simp; rfl) (by go_simp; rfl) (by go_simp) ?_
  exact eqf_last (by rfl) (by go_simp; rfl) (by go_simp; rfl) (by go_simp)
end Go.Proofs.Ytgmadofbelhmeaa.L
end
section
/- erasure.Agree: what it returns. -/
namespace Go.Proofs.Ytgmadofbelhmeaa.L
open Go.RowKit Go.Proofs.YtgmadofbelhmeaaW.PrintWords Go.Proofs.YtgmadofbelhmeaaW.PrintLast Go.Proofs.YtgmadofbelhmeaaW.PrintMore
set_option linter.unusedVariables false
set_option linter.unusedSimpArgs false
attribute [local go_sem high] eqA37
def agreeOne (all : List S37) (s : S37) : Bool := (rd_T37 all s.f0).f0 == s.f0 && ((rd_T37 all s.f0).f1.toList == s.f1.toList)
def erasure_Agree.f (k : Nat) (a0_0 a0_1 a1 : Int) (l2 : List S37) : Option (Bool × Int) :=
  (erasure_Decode.f a0_0 a0_1 a1 l2).bind fun d => if d.2 = 0 then ((erasure_Encode.f k a0_0 a0_1 d.1).bind fun e => if e.2 = 0 then (if (∀ j, j < l2.length → 0 ≤ (rd_T37 l2 (j : Int)).f0 ∧ (rd_T37 l2 (j : Int)).f0 < e.1.length) then some (l2.all (agreeOne e.1), 0) else none) else none) else some (false, d.2)
theorem rd_T37_mem {l : List S37} {j : Nat} (h : j < l.length) : rd_T37 l (j : Int) ∈ l := by
  unfold rd_T37
  rw [Int.toNat_natCast, List.getD_eq_getElem?_getD, List.getElem?_eq_getElem h]
  exact List.getElem_mem h
set_option maxHeartbeats 2000000 in
set_option maxRecDepth 100000 in
theorem erasure_Agree.calls (k : Nat) (a0_0 : Int) (a0_1 : Int) (a1 : Int) (A2 : Option Addr) (c2 : Nat) (l2 : List (S37)) (r1 : Bool) (r2 : Int) (w : World) (hr2 : Kd.C k37 w A2 l2.length l2) (hc2 : l2.length ≤ c2) (h : erasure_Agree.f k a0_0 a0_1 a1 l2 = some (r1, r2)) :
    Calls Try.prog 19 #[.agg #[.int .i64 a0_0, .int .i64 a0_1], .int .i64 a1, .slice A2 l2.length c2] w fun e w' => e = .returned (.tuple #[.bool r1, .int .i64 r2]) ∧ Below w.heap.size w w' := by
  have hu28 := Try.underlying28
  have hu37 := Try.underlying37
  have HR2 := Aside0.mk hr2
  have HC2 := Aside0.mk hc2
  clear hr2 hc2
  unfold erasure_Agree.f at h
  replace h := Option.bind_eq_some_iff.mp h
  obtain ⟨⟨d, er⟩, hD, h⟩ := h
  have HD := Aside0.mk hD
  have H := Aside0.mk h
  clear hD h
  go_enter Try.func19, Try.ntmps19
  go_wp2_with fail
  refine (erasure_Decode.calls _ _ _ _ _ _ _ _ _ (Kd.C_below HR2.out (below_alloc (Below.refl _ _) _)) HC2.out HD.out).mono ?_
  rintro e w1 ⟨rfl, hb1⟩
  obtain ⟨KB, HB1⟩ : Aside0 (w1.heap[w.heap.size]? = some (.cells #[.int .i64 a0_0, .int .i64 a0_1] 28 (0, 0))) ∧ Aside0 (Below w.heap.size w w1) := by
    refine ⟨⟨blk_below (blk_new w _) hb1⟩, ⟨(below_alloc (Below.refl _ _) _).trans (hb1.mono ?_)⟩⟩
    simp
  clear hb1
  by_cases he : er = 0
  · subst he
    have H2 := H.out
    simp only [if_true] at H2
    replace H2 := Option.bind_eq_some_iff.mp H2
    obtain ⟨⟨all, ee⟩, hE, H2⟩ := H2
    simp only at hE H2
    split at H2
    case isFalse => cases H2
    rename_i hee
    subst hee
    split at H2
    case isFalse => cases H2
    rename_i hix
    injection H2 with H2
    injection H2 with H21 H22
    subst H21 H22
    have HE := Aside0.mk hE
    have HIX := Aside0.mk hix
    clear H hE hix
    have c0 := (blk_cell KB.out 0).trans (show _ = some (Value.int .i64 a0_0) from rfl)
    have c1 := (blk_cell KB.out 1).trans (show _ = some (Value.int .i64 a0_1) from rfl)
    go_wp2_with fail
    refine (erasure_Encode.calls k _ _ _ _ _ _ HE.out).mono ?_
    rintro e w2 ⟨v0, rfl, hR, hb2⟩
    obtain ⟨A10, c10, rfl⟩ := Kd.R_slice hR
    have hsz1 := HB1.out.size
    have HO := Aside0.mk (Kd.R_reads' hR).2.2
    have HB2 := Aside0.mk (HB1.out.trans (hb2.mono hsz1))
    clear hR hb2 c0 c1 KB
    go_wp2_with fail
    go_loopw [34] (fun v34 wr => ∃ j : Nat, v34 = .int .i64 (j : Int) ∧ j ≤ l2.length ∧ Aside0 (∀ t : Nat, t < j → agreeOne all (rd_T37 l2 (t : Int)) = true) ∧ Aside0 (Below w2.heap.size w2 wr)) (fun v34 _ => l2.length - (intOf v34).toNat)
    case atStart => exact ⟨0, rfl, Nat.zero_le _, ⟨fun t ht => absurd ht (Nat.not_lt_zero _)⟩, ⟨Below.refl _ _⟩⟩
    case round =>
      obtain ⟨j, rfl, hj, HJ, HBB⟩ := hrel
      by_cases hjn : j < l2.length
      · have hjb : decide ((j : Int) < (l2.length : Int)) = true := decide_eq_true (by omega)
        obtain ⟨ad, e, hc0, hc1⟩ := at_T37 HR2.out (j : Int) (by omega) (by omega)
        subst e
        obtain ⟨hx0, hx1⟩ := HIX.out j hjn
        have HJ2 := Aside0.mk (show (∀ t : Nat, t < j + 1 → agreeOne all (rd_T37 l2 (t : Int)) = true) ↔ agreeOne all (rd_T37 l2 (j : Int)) = true from ⟨fun h => h j (Nat.lt_succ_self j), fun h t ht => by
          rcases Nat.lt_succ_iff_lt_or_eq.mp ht with h1 | h1
          · exact HJ.out t h1
          · rw [h1]; exact h⟩)
        have HAL := Aside0.mk (show l2.all (agreeOne all) = true → agreeOne all (rd_T37 l2 (j : Int)) = true from fun h => List.all_eq_true.1 h _ (rd_T37_mem hjn))
        generalize rd_T37 l2 (j : Int) = x at hc0 hc1 hx0 hx1 HJ2 HAL
        obtain ⟨x0, x1⟩ := x
        obtain ⟨m, rfl⟩ : ∃ m : Nat, x0 = (m : Int) := ⟨x0.toNat, (Int.toNat_of_nonneg hx0).symm⟩
        obtain ⟨ad2, e, hd0, hd1⟩ := at_T37 HO.out (m : Int) hx0 hx1
        subst e
        have HAG := Aside0.mk (show agreeOne all ⟨(m : Int), x1⟩ = ((rd_T37 all (m : Int)).f0 == (m : Int) && ((rd_T37 all (m : Int)).f1.toList == x1.toList)) from rfl)
        generalize rd_T37 all (m : Int) = y at hd0 hd1 HAG
        obtain ⟨y0, y1⟩ := y
        simp only at hc0 hc1 hd0 hd1 hx1
        rw [Int.toNat_natCast] at hc0 hc1 hd0 hd1
        replace hc0 := pw_cell_below HBB.out (pw_cell_below HB2.out hc0)
        replace hc1 := pw_cell_below HBB.out (pw_cell_below HB2.out hc1)
        replace hd0 := pw_cell_below HBB.out hd0
        replace hd1 := pw_cell_below HBB.out hd1
        have hlt0 : ∀ (p : Addr) v, wr.cell? p = some v → p.block < wr.heap.size := fun p v => World.block_lt_of_cell? wr p
        go_wp2_with fail
        have he0 := hlt0 _ _ hd0
        clear hlt0 hc0 hc1
        have he1 := hd1
        clear hd1
        have g0 : (wr.alloc (.cells #[.int .i64 (m : Int), .string x1] 37)).cell? ⟨wr.heap.size, 0, none⟩ = some (.int .i64 (m : Int)) := (blk_cell (blk_new wr _) 0).trans rfl
        have g1 : (wr.alloc (.cells #[.int .i64 (m : Int), .string x1] 37)).cell? ⟨wr.heap.size, 1, none⟩ = some (.string x1) := (blk_cell (blk_new wr _) 1).trans rfl
        have g2 := (World.cell?_alloc_lt wr (.cells #[.int .i64 (m : Int), .string x1] 37) _ he0).trans hd0
        have g3 := (World.cell?_alloc_lt wr (.cells #[.int .i64 (m : Int), .string x1] 37) ⟨(ad2.add (m * 2)).block, (ad2.add (m * 2)).off + 1, none⟩ he0).trans he1
        have HB3 := Aside0.mk (below_alloc HBB.out (.cells #[.int .i64 (m : Int), .string x1] 37))
        clear hd0 he1 he0
        go_region_held3 (fun w' => w'.cell? ⟨wr.heap.size, 0, none⟩ = some (.int .i64 (m : Int)) ∧ w'.cell? ⟨wr.heap.size, 1, none⟩ = some (.string x1) ∧ w'.cell? (ad2.add (m * 2)) = some (.int .i64 y0) ∧ w'.cell? ⟨(ad2.add (m * 2)).block, (ad2.add (m * 2)).off + 1, none⟩ = some (.string y1)) (first | go_keep) (fail)
        clear g0 g1 g2 g3
        by_cases hag : agreeOne all ⟨(m : Int), x1⟩ = true
        · have hv : (!y0 == (m : Int) || !y1.toList == x1.toList) = false := by
            have h1 := HAG.out.symm.trans hag
            rw [Bool.and_eq_true] at h1
            rw [h1.1, h1.2]
            rfl
          have HJ3 := Aside0.mk (HJ2.out.2 hag)
          have HBD := Aside0.mk (below_drew1 HB3.out)
          have hj9 : (j : Int) ≤ 9223372036854775806 := by have := HR2.out.2.1; omega
          rw [hv]
          clear hv hag HAG HAL HJ2 HJ HB3
          go_wp2_with fail
          exact ⟨⟨j + 1, rfl, hjn, HJ3, HBD⟩, by simp [intOf]; omega⟩
        · have hv : (!y0 == (m : Int) || !y1.toList == x1.toList) = true := by
            have h1 : (y0 == (m : Int) && (y1.toList == x1.toList)) = false := HAG.out.symm.trans (Bool.eq_false_iff.2 hag)
            rw [Bool.and_eq_false_iff] at h1
            rcases h1 with h1 | h1 <;> rw [h1] <;> simp
          have hall : l2.all (agreeOne all) = false := Bool.eq_false_iff.2 fun h => hag (HAL.out h)
          have HBD := Aside0.mk (HB2.out.trans ((below_drew1 HB3.out).mono HB2.out.size))
          rw [hv]
          clear hv hag HAG HAL HJ2 HJ HB3
          go_wp2_with fail
          go_ret2
          exact ⟨by rw [hall]; rfl, HBD.out⟩
      · have hjb : decide ((j : Int) < (l2.length : Int)) = false := decide_eq_false (by omega)
        obtain rfl : l2.length = j := by omega
        have hall : l2.all (agreeOne all) = true := List.all_eq_true.2 fun x hx => by
          obtain ⟨t, ht, rfl⟩ := List.getElem_of_mem hx
          have := HJ.out t ht
          unfold rd_T37 at this
          rwa [Int.toNat_natCast, List.getD_eq_getElem?_getD, List.getElem?_eq_getElem ht] at this
        have HBZ := Aside0.mk (HB2.out.trans (HBB.out.mono HB2.out.size))
        go_wp2_with fail
        go_ret2
        exact ⟨by rw [hall]; rfl, HBZ.out⟩
  · have H2 := H.out
    simp only [he, if_false] at H2
    injection H2 with H2
    injection H2 with H21 H22
    subst H21 H22
    go_wp2_with fail
    go_ret2
    exact ⟨rfl, HB1.out⟩
#print axioms erasure_Agree.calls
end Go.Proofs.Ytgmadofbelhmeaa.L
end
section
/- The plain law of the erasure code, part A: the field, bytes, combine, shard. -/
namespace Go.Proofs.Ytgmadofbelhmeaa.L
open Go.RowKit Go.Proofs.YtgmadofbelhmeaaW.PrintWords Go.Proofs.YtgmadofbelhmeaaW.PrintLast Go.Proofs.YtgmadofbelhmeaaW.PrintMore
set_option linter.unusedVariables false
set_option linter.unusedSimpArgs false

/-! ### more rounds -/
theorem upk {α : Type} {g : Nat → Option α} (h : ∀ k, LeO (g k) (g (k + 1))) {k k' : Nat} (hk : k ≤ k') {r : α} (hr : g k = some r) : g k' = some r := by
  have := more_rounds h k (k' - k) r hr
  rwa [Nat.add_sub_cancel' hk] at this

/-! ### the field -/
theorem f_dist : ∀ a b c : Fin 16, gm a.1 (gx b.1 c.1) = gx (gm a.1 b.1) (gm a.1 c.1) ∧ gm (gx b.1 c.1) a.1 = gx (gm b.1 a.1) (gm c.1 a.1) := by decide +kernel
theorem f_assoc : ∀ a b c : Fin 16, gm a.1 (gm b.1 c.1) = gm (gm a.1 b.1) c.1 ∧ gx a.1 (gx b.1 c.1) = gx (gx a.1 b.1) c.1 := by decide +kernel
theorem f_comm : ∀ a b : Fin 16, gx a.1 b.1 = gx b.1 a.1 ∧ gx a.1 0 = a.1 ∧ gx 0 a.1 = a.1 ∧ gm a.1 0 = 0 ∧ gm 0 a.1 = 0 ∧ gm 1 a.1 = a.1 ∧ gm a.1 1 = a.1 := by decide +kernel
theorem gm_gx {a b c : Int} (ha : El a) (hb : El b) (hc : El c) : gm a (gx b c) = gx (gm a b) (gm a c) := by
  obtain ⟨i, rfl⟩ := ha.fin; obtain ⟨j, rfl⟩ := hb.fin; obtain ⟨k, rfl⟩ := hc.fin
  exact (f_dist i j k).1
theorem gx_gm {a b c : Int} (ha : El a) (hb : El b) (hc : El c) : gm (gx b c) a = gx (gm b a) (gm c a) := by
  obtain ⟨i, rfl⟩ := ha.fin; obtain ⟨j, rfl⟩ := hb.fin; obtain ⟨k, rfl⟩ := hc.fin
  exact (f_dist i j k).2
theorem gm_gm {a b c : Int} (ha : El a) (hb : El b) (hc : El c) : gm a (gm b c) = gm (gm a b) c := by
  obtain ⟨i, rfl⟩ := ha.fin; obtain ⟨j, rfl⟩ := hb.fin; obtain ⟨k, rfl⟩ := hc.fin
  exact (f_assoc i j k).1
theorem gx_gx {a b c : Int} (ha : El a) (hb : El b) (hc : El c) : gx a (gx b c) = gx (gx a b) c := by
  obtain ⟨i, rfl⟩ := ha.fin; obtain ⟨j, rfl⟩ := hb.fin; obtain ⟨k, rfl⟩ := hc.fin
  exact (f_assoc i j k).2
theorem gx_comm {a b : Int} (ha : El a) (hb : El b) : gx a b = gx b a := by
  obtain ⟨i, rfl⟩ := ha.fin; obtain ⟨j, rfl⟩ := hb.fin
  exact (f_comm i j).1
theorem gx_0 {a : Int} (ha : El a) : gx a 0 = a ∧ gx 0 a = a ∧ gm a 0 = 0 ∧ gm 0 a = 0 ∧ gm 1 a = a ∧ gm a 1 = a := by
  obtain ⟨i, rfl⟩ := ha.fin
  exact (f_comm i i).2
theorem El0 : El 0 := ⟨by decide, by decide⟩
theorem El1 : El 1 := ⟨by decide, by decide⟩
/-- The sum of n elements. -/
def gsum (n : Nat) (F : Nat → Int) : Int := match n with
  | 0 => 0
  | n + 1 => gx (gsum n F) (F n)
theorem gsum_el {F : Nat → Int} : ∀ n, (∀ j, j < n → El (F j)) → El (gsum n F)
  | 0, _ => El0
  | n + 1, h => gx_el (gsum_el n fun j hj => h j (by omega)) (h n (by omega))
theorem gsum_congr {F G : Nat → Int} : ∀ n, (∀ j, j < n → F j = G j) → gsum n F = gsum n G
  | 0, _ => rfl
  | n + 1, h => by
    show gx _ _ = gx _ _
    rw [gsum_congr n fun j hj => h j (by omega), h n (by omega)]
theorem gsum_zero : ∀ n, gsum n (fun _ => 0) = 0
  | 0 => rfl
  | n + 1 => by
    show gx _ _ = _
    rw [gsum_zero n]
    exact (gx_0 El0).1
theorem gsum_mul {F : Nat → Int} {c : Int} (hc : El c) : ∀ n, (∀ j, j < n → El (F j)) → gm c (gsum n F) = gsum n fun j => gm c (F j)
  | 0, _ => (gx_0 hc).2.2.1
  | n + 1, h => by
    show gm c (gx _ _) = gx _ _
    rw [gm_gx hc (gsum_el n fun j hj => h j (by omega)) (h n (by omega)), gsum_mul hc n fun j hj => h j (by omega)]
theorem gsum_mul' {F : Nat → Int} {c : Int} (hc : El c) : ∀ n, (∀ j, j < n → El (F j)) → gm (gsum n F) c = gsum n fun j => gm (F j) c
  | 0, _ => (gx_0 hc).2.2.2.1
  | n + 1, h => by
    show gm (gx _ _) c = gx _ _
    rw [gx_gm hc (gsum_el n fun j hj => h j (by omega)) (h n (by omega)), gsum_mul' hc n fun j hj => h j (by omega)]
theorem gsum_add {F G : Nat → Int} : ∀ n, (∀ j, j < n → El (F j)) → (∀ j, j < n → El (G j)) → (gsum n fun j => gx (F j) (G j)) = gx (gsum n F) (gsum n G)
  | 0, _, _ => ((gx_0 El0).1).symm
  | n + 1, hF, hG => by
    have e1 := gsum_el n fun j hj => hF j (Nat.lt_succ_of_lt hj)
    have e2 := gsum_el n fun j hj => hG j (Nat.lt_succ_of_lt hj)
    have e3 := hF n (Nat.lt_succ_self n)
    have e4 := hG n (Nat.lt_succ_self n)
    show gx _ (gx _ _) = gx (gx _ _) (gx _ _)
    rw [gsum_add n (fun j hj => hF j (Nat.lt_succ_of_lt hj)) (fun j hj => hG j (Nat.lt_succ_of_lt hj))]
    rw [← gx_gx e1 e2 (gx_el e3 e4), gx_gx e2 e3 e4, gx_comm e2 e3, ← gx_gx e3 e2 e4, gx_gx e1 e3 (gx_el e2 e4)]
theorem gsum_swap {F : Nat → Nat → Int} (m : Nat) : ∀ n, (∀ i j, i < n → j < m → El (F i j)) → (gsum n fun i => gsum m fun j => F i j) = gsum m fun j => gsum n fun i => F i j
  | 0, _ => (gsum_zero m).symm
  | n + 1, h => by
    show gx _ _ = gsum m fun j => gx _ _
    rw [gsum_swap m n fun i j hi hj => h i j (by omega) hj, gsum_add m (fun j hj => gsum_el n fun i hi => h i j (by omega) hj) (fun j hj => h n j (by omega) hj)]
/-- Only one element is not nought. -/
theorem gsum_unit {F : Nat → Int} {i : Nat} : ∀ n, (∀ j, j < n → El (F j)) → (gsum n fun j => gm (if i = j then 1 else 0) (F j)) = if i < n then F i else 0
  | 0, _ => by simp [gsum]
  | n + 1, h => by
    show gx _ (gm (if i = n then 1 else 0) (F n)) = _
    rw [gsum_unit n fun j hj => h j (by omega)]
    have hn := h n (by omega)
    by_cases e : i = n
    · subst e
      rw [if_neg (by omega), if_pos rfl, if_pos (by omega), (gx_0 hn).2.2.2.2.1, (gx_0 hn).2.1]
    · rw [if_neg e, (gx_0 hn).2.2.2.1]
      by_cases hi : i < n
      · rw [if_pos hi, if_pos (by omega), (gx_0 (h i (by omega))).1]
      · rw [if_neg hi, if_neg (by omega), (gx_0 El0).1]
/-- What was made by P and is taken back by Q. -/
theorem back {n : Nat} {Q P : Nat → Nat → Int} {x : Nat → Int} (hQ : ∀ i j, i < n → j < n → El (Q i j)) (hP : ∀ i j, i < n → j < n → El (P i j)) (hx : ∀ j, j < n → El (x j))
    (hI : ∀ i j, i < n → j < n → (gsum n fun l => gm (Q i l) (P l j)) = if i = j then 1 else 0) {i : Nat} (hi : i < n) : (gsum n fun l => gm (Q i l) (gsum n fun j => gm (P l j) (x j))) = x i := by
  have e1 : (gsum n fun l => gm (Q i l) (gsum n fun j => gm (P l j) (x j))) = gsum n fun l => gsum n fun j => gm (gm (Q i l) (P l j)) (x j) := by
    refine gsum_congr n fun l hl => ?_
    rw [gsum_mul (hQ i l hi hl) n fun j hj => gm_el (hP l j hl hj) (hx j hj)]
    exact gsum_congr n fun j hj => gm_gm (hQ i l hi hl) (hP l j hl hj) (hx j hj)
  rw [e1, gsum_swap n n fun l j hl hj => gm_el (gm_el (hQ i l hi hl) (hP l j hl hj)) (hx j hj)]
  have e2 : (gsum n fun j => gsum n fun l => gm (gm (Q i l) (P l j)) (x j)) = gsum n fun j => gm (if i = j then 1 else 0) (x j) := by
    refine gsum_congr n fun j hj => ?_
    rw [← gsum_mul' (hx j hj) n fun l hl => gm_el (hQ i l hi hl) (hP l j hl hj), hI i j hi hj]
  rw [e2, gsum_unit n hx, if_pos hi]

/-! ### bytes -/
def By (b : Int) : Prop := 0 ≤ b ∧ b ≤ 255
theorem By.fin {a : Int} (h : By a) : ∃ i : Fin 256, a = (i.1 : Int) := ⟨⟨a.toNat, by unfold By at h; omega⟩, by unfold By at h; simp; omega⟩
def lo (b : Int) : Int := Go.bits .and .i64 b 15
def hi (b : Int) : Int := Go.bits .and .i64 (b / 16) 15
def x8 (a b : Int) : Int := Go.bits .xor .u8 a b
def pack (l h : Int) : Int := (Go.bits .or .i64 l (wrap64 (h * 16))) % 256
def mulb (c b : Int) : Int := pack (gm c (lo b)) (gm c (hi b))
theorem b_nib : ∀ a : Fin 256, El (lo a.1) ∧ El (hi a.1) ∧ (a.1 : Int) = lo a.1 + 16 * hi a.1 := by
  unfold El
  decide +kernel
theorem b_pack : ∀ a b : Fin 16, By (pack a.1 b.1) ∧ lo (pack a.1 b.1) = a.1 ∧ hi (pack a.1 b.1) = b.1 := by
  unfold By
  decide +kernel
theorem b_nat : ∀ a : Fin 256, lo a.1 = ((a.1 % 16 : Nat) : Int) ∧ hi a.1 = ((a.1 / 16 : Nat) : Int) := by decide +kernel
theorem gx_nat : ∀ a b : Fin 16, gx a.1 b.1 = ((a.1 ^^^ b.1 : Nat) : Int) := by decide +kernel
theorem x8_nat {m n : Nat} (hm : m < 256) (hn : n < 256) : x8 m n = ((m ^^^ n : Nat) : Int) := by
  have hx : m ^^^ n < 256 := Nat.xor_lt_two_pow (n := 8) hm hn
  show IntKind.u8.wrap (((BitVec.ofInt 8 (m : Int) ^^^ BitVec.ofInt 8 (n : Int) : BitVec 8).toNat : Nat) : Int) = _
  rw [BitVec.toNat_xor, BitVec.ofInt_natCast, BitVec.ofInt_natCast, BitVec.toNat_ofNat, BitVec.toNat_ofNat, Nat.mod_eq_of_lt (show m < 2 ^ 8 from hm), Nat.mod_eq_of_lt (show n < 2 ^ 8 from hn)]
  generalize m ^^^ n = q at hx
  rw [IntKind.wrap_u8]
  omega
theorem b_x8 {a b : Int} (ha : By a) (hb : By b) : By (x8 a b) ∧ lo (x8 a b) = gx (lo a) (lo b) ∧ hi (x8 a b) = gx (hi a) (hi b) := by
  obtain ⟨i, rfl⟩ := ha.fin
  obtain ⟨j, rfl⟩ := hb.fin
  have hx : i.1 ^^^ j.1 < 256 := Nat.xor_lt_two_pow (n := 8) i.2 j.2
  rw [x8_nat i.2 j.2]
  have h1 := b_nat ⟨i.1 ^^^ j.1, hx⟩
  have h2 := b_nat i
  have h3 := b_nat j
  simp only at h1
  rw [h1.1, h1.2, h2.1, h2.2, h3.1, h3.2]
  have e1 := gx_nat ⟨i.1 % 16, by omega⟩ ⟨j.1 % 16, by omega⟩
  have e2 := gx_nat ⟨i.1 / 16, by omega⟩ ⟨j.1 / 16, by omega⟩
  simp only at e1 e2
  rw [e1, e2]
  refine ⟨⟨by omega, by omega⟩, ?_, ?_⟩
  · rw [Nat.xor_mod_two_pow (n := 4)]
  · rw [Nat.xor_div_two_pow (n := 4)]
end Go.Proofs.Ytgmadofbelhmeaa.L
end
section
/- The plain law of the erasure code, part B: combine and shard. -/
namespace Go.Proofs.Ytgmadofbelhmeaa.L
open Go.RowKit Go.Proofs.YtgmadofbelhmeaaW.PrintWords Go.Proofs.YtgmadofbelhmeaaW.PrintLast Go.Proofs.YtgmadofbelhmeaaW.PrintMore
set_option linter.unusedVariables false
set_option linter.unusedSimpArgs false

theorem bt_by (s : ByteArray) (i : Int) : By (bt s i) := bt_range s i
theorem lo_el {b : Int} (h : By b) : El (lo b) := by
  obtain ⟨i, rfl⟩ := h.fin
  exact (b_nib i).1
theorem hi_el {b : Int} (h : By b) : El (hi b) := by
  obtain ⟨i, rfl⟩ := h.fin
  exact (b_nib i).2.1
theorem nib_ext {a b : Int} (ha : By a) (hb : By b) (h1 : lo a = lo b) (h2 : hi a = hi b) : a = b := by
  obtain ⟨i, rfl⟩ := ha.fin
  obtain ⟨j, rfl⟩ := hb.fin
  have e1 := (b_nib i).2.2
  have e2 := (b_nib j).2.2
  rw [e1, e2, h1, h2]
theorem mulb_by {c b : Int} (hc : El c) (hb : By b) : By (mulb c b) ∧ lo (mulb c b) = gm c (lo b) ∧ hi (mulb c b) = gm c (hi b) := by
  unfold mulb
  obtain ⟨i, hi'⟩ := (gm_el hc (lo_el hb)).fin
  obtain ⟨j, hj'⟩ := (gm_el hc (hi_el hb)).fin
  rw [hi', hj']
  exact b_pack i j
theorem halves_eq {b : Int} (hb : By b) : erasure_halves_int.f (wrap64 b) = some (lo b, hi b) := by
  have h1 : wrap64 b = b := w64 (by have := hb.1; omega) (by have := hb.2; omega)
  rw [h1]
  rfl
theorem emul_some {k : Nat} (hk : 40 ≤ k) {a b : Int} (ha : El a) (hb : El b) : erasure_mul.f k a b = some (gm a b) := by
  have h : erasure_mul.f 40 a b = some (gm a b) := gm_some ha hb
  exact upk (fun k => erasure_mul.mono a b k) hk h
/-- What combine leaves, having gone over the first t bytes. -/
def comb (acc : List Int) (c : Int) (s : ByteArray) (t : Nat) : List Int := mid acc (fun i => x8 (acc.getD i 0) (mulb c (bt s (i : Int)))) t
theorem combine_loop {acc : List Int} {c : Int} {s : ByteArray} (hc : El c) (hl : s.size = acc.length) (hs : s.size ≤ 1000000) : ∀ (m t k : Nat), t + m = s.size → m + 41 ≤ k →
    erasure_combine.l0 k (comb acc c s t) c s (s.size : Int) (t : Int) = some (comb acc c s s.size)
  | 0, t, k, ht, hk => by
    obtain ⟨k, rfl⟩ : ∃ k', k = k' + 1 := ⟨k - 1, by omega⟩
    unfold erasure_combine.l0
    rw [if_neg (by omega)]
    obtain rfl : t = s.size := by omega
    rfl
  | m + 1, t, k, ht, hk => by
    obtain ⟨k, rfl⟩ : ∃ k', k = k' + 1 := ⟨k - 1, by omega⟩
    have hlen : (comb acc c s t).length = acc.length := mid_length _ _ _
    unfold erasure_combine.l0
    have hb := bt_by s (t : Int)
    rw [if_pos (by omega), if_pos (by omega), if_pos (by omega), halves_eq hb]
    simp only [Option.bind_some]
    rw [if_pos (by omega), emul_some (by omega) hc (lo_el hb)]
    simp only [Option.bind_some]
    rw [emul_some (by omega) hc (hi_el hb)]
    simp only [Option.bind_some]
    rw [show wrap64 ((t : Int) + 1) = ((t + 1 : Nat) : Int) from (w64 (by omega) (by omega)).trans rfl]
    have hrd : rd (comb acc c s t) (t : Int) = acc.getD t 0 := by
      unfold rd
      rw [Int.toNat_natCast]
      unfold comb
      rw [mid_getD _ _ _ _ (by omega), if_neg (Nat.lt_irrefl _)]
    rw [hrd, Int.toNat_natCast]
    have hset : (comb acc c s t).set t (Go.bits .xor .u8 (acc.getD t 0) ((Go.bits .or .i64 (gm c (lo (bt s (t : Int)))) (wrap64 (gm c (hi (bt s (t : Int))) * 16))) % 256)) = comb acc c s (t + 1) := mid_set acc (fun i => x8 (acc.getD i 0) (mulb c (bt s (i : Int)))) t
    rw [hset]
    exact combine_loop hc hl hs m (t + 1) k (by omega) (by omega)
theorem combine_some {acc : List Int} {c : Int} {s : ByteArray} (hc : El c) (hl : s.size = acc.length) (hs : s.size ≤ 1000000) {k : Nat} (hk : s.size + 41 ≤ k) : erasure_combine.f k acc c s = some (comb acc c s s.size) := by
  have h := combine_loop hc hl hs s.size 0 k (by omega) hk
  unfold comb at h
  rw [mid_zero] at h
  exact h
/-- Byte t of the combination of the first j parts. -/
def accB (row : List Int) (parts : List ByteArray) (t : Nat) : Nat → Int
  | 0 => 0
  | j + 1 => x8 (accB row parts t j) (mulb (row.getD j 0) (bt (parts.getD j ByteArray.empty) (t : Int)))
def accL (row : List Int) (parts : List ByteArray) (len j : Nat) : List Int := (List.range len).map fun t => accB row parts t j
theorem accL_length (row : List Int) (parts : List ByteArray) (len j : Nat) : (accL row parts len j).length = len := by simp [accL]
theorem accL_getD (row : List Int) (parts : List ByteArray) {len t : Nat} (j : Nat) (h : t < len) : (accL row parts len j).getD t 0 = accB row parts t j := by
  unfold accL
  rw [List.getD_eq_getElem?_getD, List.getElem?_map, List.getElem?_range h]
  rfl
theorem comb_accL {row : List Int} {parts : List ByteArray} {len : Nat} (j : Nat) : comb (accL row parts len j) (row.getD j 0) (parts.getD j ByteArray.empty) len = accL row parts len (j + 1) := by
  apply List.ext_getElem?
  intro t
  by_cases ht : t < len
  · have h1 : ∀ l : List Int, l.length = len → l[t]? = some (l.getD t 0) := fun l hl => by
      rw [List.getD_eq_getElem?_getD, List.getElem?_eq_getElem (by omega)]
      rfl
    rw [h1 _ (by unfold comb; rw [mid_length, accL_length]), h1 _ (accL_length _ _ _ _), accL_getD _ _ _ ht]
    unfold comb
    rw [mid_getD _ _ _ _ (by rw [accL_length]; exact ht), if_pos ht, accL_getD _ _ _ ht]
    rfl
  · rw [List.getElem?_eq_none (by unfold comb; rw [mid_length, accL_length]; omega), List.getElem?_eq_none (by rw [accL_length]; omega)]
theorem shard_loop {row : List Int} {parts : List ByteArray} {len : Nat} (hr : ∀ j, j < row.length → El (row.getD j 0)) (hl : row.length = parts.length) (hp : ∀ j, j < parts.length → (parts.getD j ByteArray.empty).size = len) (hs : len ≤ 1000000) (hn : row.length ≤ 1000) :
    ∀ (m j k : Nat), j + m = row.length → m + len + 42 ≤ k → erasure_shard.l0 k parts (accL row parts len j) row (row.length : Int) (j : Int) = some (strOfNums (accL row parts len row.length))
  | 0, j, k, hj, hk => by
    obtain ⟨k, rfl⟩ : ∃ k', k = k' + 1 := ⟨k - 1, by omega⟩
    unfold erasure_shard.l0
    rw [if_neg (by omega)]
    obtain rfl : j = row.length := by omega
    rfl
  | m + 1, j, k, hj, hk => by
    obtain ⟨k, rfl⟩ : ∃ k', k = k' + 1 := ⟨k - 1, by omega⟩
    unfold erasure_shard.l0
    rw [if_pos (by omega), if_pos (by omega), if_pos (by omega), if_pos (by omega)]
    have h1 : rd row (j : Int) = row.getD j 0 := by unfold rd; rw [Int.toNat_natCast]
    have h2 : rdOf ByteArray.empty parts (j : Int) = parts.getD j ByteArray.empty := by unfold rdOf; rw [Int.toNat_natCast]
    have hpj := hp j (by omega)
    rw [h1, h2, combine_some (hr j (by omega)) (by rw [accL_length]; exact hpj) (by omega) (by omega), hpj, comb_accL]
    simp only [Option.bind_some]
    rw [show wrap64 ((j : Int) + 1) = ((j + 1 : Nat) : Int) from (w64 (by omega) (by omega)).trans rfl]
    exact shard_loop hr hl hp hs hn m (j + 1) k (by omega) (by omega)
theorem shard_some {row : List Int} {parts : List ByteArray} {len : Nat} (hr : ∀ j, j < row.length → El (row.getD j 0)) (hl : row.length = parts.length) (hp : ∀ j, j < parts.length → (parts.getD j ByteArray.empty).size = len) (hs : len ≤ 1000000) (hn : row.length ≤ 1000)
    {k : Nat} (hk : row.length + len + 42 ≤ k) : erasure_shard.f k row parts (len : Int) = some (strOfNums (accL row parts len row.length)) := by
  unfold erasure_shard.f
  rw [if_pos (by omega), if_pos (by rw [Int.toNat_natCast]; omega), Int.toNat_natCast]
  have h0 : List.replicate len (0 : Int) = accL row parts len 0 := by
    unfold accL
    apply List.ext_getElem?
    intro t
    rw [List.getElem?_replicate, List.getElem?_map]
    by_cases ht : t < len
    · rw [if_pos ht, List.getElem?_range ht]; rfl
    · rw [if_neg ht, List.getElem?_eq_none (by simp; omega)]; rfl
  rw [h0]
  exact shard_loop hr hl hp hs hn row.length 0 k (by omega) hk
theorem accB_by {row : List Int} {parts : List ByteArray} (t : Nat) : ∀ j, (∀ i, i < j → El (row.getD i 0)) → By (accB row parts t j) ∧ lo (accB row parts t j) = gsum j (fun i => gm (row.getD i 0) (lo (bt (parts.getD i ByteArray.empty) (t : Int)))) ∧ hi (accB row parts t j) = gsum j (fun i => gm (row.getD i 0) (hi (bt (parts.getD i ByteArray.empty) (t : Int))))
  | 0, _ => by
    refine ⟨⟨Int.le_refl 0, ?_⟩, ?_, ?_⟩
    · show (0 : Int) ≤ 255
      decide
    · show lo 0 = 0
      decide +kernel
    · show hi 0 = 0
      decide +kernel
  | j + 1, h => by
    obtain ⟨h1, h2, h3⟩ := accB_by t j fun i hi => h i (by omega)
    have hm := mulb_by (h j (by omega)) (bt_by (parts.getD j ByteArray.empty) (t : Int))
    have hx := b_x8 h1 hm.1
    refine ⟨hx.1, ?_, ?_⟩
    · exact hx.2.1.trans (by rw [h2, hm.2.1]; rfl)
    · exact hx.2.2.trans (by rw [h3, hm.2.2]; rfl)
theorem bt_strOfNums {l : List Int} {t : Nat} (h : t < l.length) (hb : By (l.getD t 0)) : bt (strOfNums l) (t : Int) = l.getD t 0 := by
  unfold bt
  have hs : (t : Int).toNat < (strOfNums l).size := by rw [strOfNums_size, Int.toNat_natCast]; exact h
  rw [dif_pos hs]
  have hg : l.getD t 0 = l[t] := by rw [List.getD_eq_getElem?_getD, List.getElem?_eq_getElem h]; rfl
  rw [hg] at hb ⊢
  have e : (strOfNums l)[(t : Int).toNat]'hs = UInt8.ofNat (l[t]).toNat := by
    show (strOfNums l).data[(t : Int).toNat]'hs = _
    simp [strOfNums]
  rw [e, UInt8.toNat_ofNat_of_lt' (by have := hb.1; have := hb.2; show _ < 256; omega)]
  have := hb.1
  omega
end Go.Proofs.Ytgmadofbelhmeaa.L
end
section
/- The plain law of the erasure code, part C: the codes' matrices, as functions. -/
namespace Go.Proofs.Ytgmadofbelhmeaa.L
open Go.RowKit Go.Proofs.YtgmadofbelhmeaaW.PrintWords Go.Proofs.YtgmadofbelhmeaaW.PrintLast Go.Proofs.YtgmadofbelhmeaaW.PrintMore
set_option linter.unusedVariables false
set_option linter.unusedSimpArgs false

def rowsL (n a : Nat) : List Int := ((erasure_rowsOf.f 300 n a).getD (0, 0, [])).2.2
def pickL (n a : Nat) (idx : List Nat) : List Int := idx.flatMap fun i => cut (rowsL n a) n i
def invL (n : Nat) (p : List Int) : List Int := tails (invRows p n).1 n n
def elB (x : Int) : Bool := decide (0 ≤ x) && decide (x ≤ 15)
def okRows (n a : Nat) : Bool := decide (erasure_rowsOf.f 300 n a = some ((a : Int), (n : Int), rowsL n a)) && decide ((rowsL n a).length = a * n) && (rowsL n a).all elB && (List.range n).all fun i => (List.range n).all fun j => decide ((rowsL n a).getD (i * n + j) 0 = if i = j then 1 else 0)
def okQ (n : Nat) (p q : List Int) : Bool := decide (q.length = n * n) && q.all elB && (List.range n).all fun i => (List.range n).all fun j => decide (gsum n (fun l => gm (q.getD (i * n + l) 0) (p.getD (l * n + j) 0)) = if i = j then 1 else 0)
def okIdx (n a : Nat) (idx : List Nat) : Bool :=
  let r := invRows (pickL n a idx) n
  decide (r.2 = n) && okQ n (pickL n a idx) (tails r.1 n n)
/-- The growing rows of n numbers from b on and under a. -/
def subs (a : Nat) : Nat → Nat → List (List Nat)
  | 0, _ => [[]]
  | n + 1, b => (List.range a).flatMap fun x => if b ≤ x then (subs a n (x + 1)).map (x :: ·) else []
def chk (n a : Nat) : Bool := okRows n a && (subs a n 0).all (okIdx n a)
set_option maxRecDepth 100000
end Go.Proofs.Ytgmadofbelhmeaa.L
end
