/- Texts of this claim, put together by a small program of the session's own: F16, F29, F17, E41, MSane. -/
import Derived.Test.YthfddndmhjkeiaaQ0
import Derived.Test.YthfddndmhjkeiaaQ3
import Derived.Test.YthfddndmhjkeiaaQ5
import Derived.Test.YthfddndmhjkeiaaQ2
import Derived.Deep.RegionLaw
section
-- Printed for this claim by a small program of the session's own, drv.py, round the kit's print.py. Lean checks it.
namespace Go.Proofs.Ythfddndmhjkeiaa.L
open Go.RowKit Go.Proofs.YthfddndmhjkeiaaW.PrintWords Go.Proofs.YthfddndmhjkeiaaW.PrintLast Go.Proofs.YthfddndmhjkeiaaW.PrintMore
attribute [local go_sem] max2_int min2_int max_two min_two max_three min_three max_four min_four   -- for this text's walks alone
set_option linter.unusedVariables false
set_option linter.unusedSimpArgs false

/-! ### stripe_Read: function 16 -/
def stripe_Read.f (k : Nat) (a0_0 : Int) (a0_1 : Int) (a0_2 : Int) (l0_3 : List Int) (l1 : List (S41)) (a2 : Int) : Option (ByteArray × Int) := (stripe_Check.f a0_0 a0_1 a0_2 l0_3).bind fun t266 => (if t266 = 0 then ((stripe_kept.f a0_0 a0_1 a0_2 l0_3 l1).bind fun t267 => ((erasure_Decode.f a0_0 a0_1 a0_2 t267).bind fun bt270 => (if bt270.2 = 0 then ((seal_Decode.f k bt270.1 0).bind fun bt272 => (if bt272.2.2.2 = 0 then (if bt272.2.2.1 < (bt270.1.size : Int) then (none) else ((seal_Open.f bt272.1 bt272.2.1 a2).bind fun bt277 => (some (bt277.1, bt277.2)))) else (none))) else (some ((⟨#[]⟩ : ByteArray), bt270.2))))) else (none))
theorem stripe_Read.mono : ∀ a0 a1 a2 a3 a4 a5 k, LeO (stripe_Read.f k a0 a1 a2 a3 a4 a5) (stripe_Read.f (k + 1) a0 a1 a2 a3 a4 a5) := by
  intro a0 a1 a2 a3 a4 a5 k
  unfold stripe_Read.f
  repeat' first | (with_reducible exact seal_Decode.mono _ _ _) | (with_reducible exact LeO.refl _) | (with_reducible refine LeO.ite ?_ ?_) | (with_reducible refine LeO.bind ?_ (fun _ => ?_))
def stripe_Read.T4 : Bool × List (List Nat × List Nat) := (true, [([], []), ([0], [0]), ([], []), ([2], [2]), ([], []), ([], []), ([4, 5], [4, 5]), ([1, 3, 6, 6], [1, 3, 6]), ([7], [7]), ([8], [8]), ([8], [8]), ([9, 7, 0, 1, 2, 3, 4, 5, 6, 7, 8, 9], [9]), ([10, 11, 0, 1, 2, 3, 4, 5, 6, 7, 8, 9, 10, 11], [10])])
def stripe_Read.B4 : List Nat := [0, 1, 0, 4, 0, 0, 48, 127, 255, 511, 511, 1023, 4095]
theorem stripe_Read.tab4 : rtab .any (opsOf Try.f16 4) = stripe_Read.T4 := by kernel_rfl
theorem stripe_Read.bits4 : waitsOk stripe_Read.T4.2 stripe_Read.B4 = true := by kernel_rfl
set_option maxHeartbeats 8000000 in
set_option maxRecDepth 100000 in
theorem stripe_Read.calls (k : Nat) (a0_0 : Int) (a0_1 : Int) (a0_2 : Int) (A0_3 : Option Addr) (c0_3 : Nat) (l0_3 : List Int) (A1 : Option Addr) (c1 : Nat) (l1 : List (S41)) (a2 : Int) (r1 : ByteArray) (r2 : Int) (w : World) (hr0_3 : Kd.C (Kd.int .i64) w A0_3 l0_3.length l0_3) (hc0_3 : l0_3.length ≤ c0_3) (hr1 : Kd.C k41 w A1 l1.length l1) (hc1 : l1.length ≤ c1) (h : stripe_Read.f k a0_0 a0_1 a0_2 l0_3 l1 a2 = some (r1, r2)) :
    Calls Try.prog 16 #[.agg #[.int .i64 a0_0, .int .i64 a0_1, .int .i64 a0_2, .slice A0_3 l0_3.length c0_3], .slice A1 l1.length c1, .int .i64 a2] w fun e w' => e = .returned (.tuple #[.string r1, .int .i64 r2]) ∧ Below w.heap.size w w' := by
  have hu34 := Try.underlying34
  have hu30 := Try.underlying30
  have hu55 := Try.underlying55
  have HR0_3 := Aside0.mk hr0_3
  have HC0_3 := Aside0.mk hc0_3
  clear hr0_3 hc0_3
  have HR1 := Aside0.mk hr1
  have HC1 := Aside0.mk hc1
  clear hr1 hc1
  have HB := Aside0.mk (Below.refl w.heap.size w)
  have H : ((stripe_Check.f a0_0 a0_1 a0_2 l0_3).bind fun t266 => (if t266 = 0 then ((stripe_kept.f a0_0 a0_1 a0_2 l0_3 l1).bind fun t267 => ((erasure_Decode.f a0_0 a0_1 a0_2 t267).bind fun bt270 => (if bt270.2 = 0 then ((seal_Decode.f k bt270.1 0).bind fun bt272 => (if bt272.2.2.2 = 0 then (if bt272.2.2.1 < (bt270.1.size : Int) then (none) else ((seal_Open.f bt272.1 bt272.2.1 a2).bind fun bt277 => (some (bt277.1, bt277.2)))) else (none))) else (some ((⟨#[]⟩ : ByteArray), bt270.2))))) else (none))) = some (r1, r2) := h
  clear h
  replace H := Option.bind_eq_some_iff.mp H
  obtain ⟨t266, A40, H⟩ := H
  replace H : (if t266 = 0 then ((stripe_kept.f a0_0 a0_1 a0_2 l0_3 l1).bind fun t267 => ((erasure_Decode.f a0_0 a0_1 a0_2 t267).bind fun bt270 => (if bt270.2 = 0 then ((seal_Decode.f k bt270.1 0).bind fun bt272 => (if bt272.2.2.2 = 0 then (if bt272.2.2.1 < (bt270.1.size : Int) then (none) else ((seal_Open.f bt272.1 bt272.2.1 a2).bind fun bt277 => (some (bt277.1, bt277.2)))) else (none))) else (some ((⟨#[]⟩ : ByteArray), bt270.2))))) else (none)) = some (r1, r2) := H
  have A4 := Aside0.mk A40
  clear A40
  by_cases c5 : t266 = 0
  · rw [if_pos c5] at H
    have c5b0 : (t266 == 0) = true := beq_iff_eq.mpr c5
    have c5b1 : (t266 != 0) = false := bne_eq_false_iff_eq.mpr c5
    clear c5
    replace H := Option.bind_eq_some_iff.mp H
    obtain ⟨t267, A60, H⟩ := H
    replace H : ((erasure_Decode.f a0_0 a0_1 a0_2 t267).bind fun bt270 => (if bt270.2 = 0 then ((seal_Decode.f k bt270.1 0).bind fun bt272 => (if bt272.2.2.2 = 0 then (if bt272.2.2.1 < (bt270.1.size : Int) then (none) else ((seal_Open.f bt272.1 bt272.2.1 a2).bind fun bt277 => (some (bt277.1, bt277.2)))) else (none))) else (some ((⟨#[]⟩ : ByteArray), bt270.2)))) = some (r1, r2) := H
    have A6 := Aside0.mk A60
    clear A60
    replace H := Option.bind_eq_some_iff.mp H
    obtain ⟨⟨t270, t271⟩, A70, H⟩ := H
    replace H : (if t271 = 0 then ((seal_Decode.f k t270 0).bind fun bt272 => (if bt272.2.2.2 = 0 then (if bt272.2.2.1 < (t270.size : Int) then (none) else ((seal_Open.f bt272.1 bt272.2.1 a2).bind fun bt277 => (some (bt277.1, bt277.2)))) else (none))) else (some ((⟨#[]⟩ : ByteArray), t271))) = some (r1, r2) := H
    have A7 := Aside0.mk A70
    clear A70
    by_cases c8 : t271 = 0
    · rw [if_pos c8] at H
      have c8b0 : (t271 == 0) = true := beq_iff_eq.mpr c8
      have c8b1 : (t271 != 0) = false := bne_eq_false_iff_eq.mpr c8
      clear c8
      replace H := Option.bind_eq_some_iff.mp H
      obtain ⟨⟨t272, t273, t274, t275⟩, A90, H⟩ := H
      replace H : (if t275 = 0 then (if t274 < (t270.size : Int) then (none) else ((seal_Open.f t272 t273 a2).bind fun bt277 => (some (bt277.1, bt277.2)))) else (none)) = some (r1, r2) := H
      have A9 := Aside0.mk A90
      clear A90
      by_cases c10 : t275 = 0
      · rw [if_pos c10] at H
        have c10b0 : (t275 == 0) = true := beq_iff_eq.mpr c10
        have c10b1 : (t275 != 0) = false := bne_eq_false_iff_eq.mpr c10
        clear c10
        by_cases c11 : t274 < (t270.size : Int)
        · rw [if_pos c11] at H
          exact absurd H (by simp)
        · rw [if_neg c11] at H
          have c11b0 : decide (t274 < (t270.size : Int)) = false := decide_eq_false c11
          clear c11
          replace H := Option.bind_eq_some_iff.mp H
          obtain ⟨⟨t277, t278⟩, A120, H⟩ := H
          replace H : (some (t277, t278)) = some (r1, r2) := H
          have A12 := Aside0.mk A120
          clear A120
          simp only [Option.some.injEq, Prod.mk.injEq] at H
          obtain ⟨rfl, rfl⟩ := H
          go_enter Try.func16, Try.ntmps16
          (go_wp2_with (first | ((with_reducible refine gate_dst (N := 3) rfl ?_); ((refine gate_guard (by rfl) ?_; dsimp only)); refine box_event ?hg (N := 3) ?hd (cs := #[.int .i64 a0_0, .int .i64 a0_1, .int .i64 a0_2, .slice A0_3 l0_3.length c0_3]) (t := 34) ?hr ?_; (case hd => rfl); (case hg => rfl); (case hr => (go_simp; done)); intro gb265 hg w13 hbox hb; have n0_ := Aside0.mk (below_step HB.out hb); have n1_ := Aside0.mk (hbox); have n2_ := Aside0.mk ((by rw [hg]; exact (below_size HB.out) : w.heap.size ≤ gb265)); have n3_ := Aside0.mk ((by rw [hg]; exact (below_size HB.out) : w.heap.size ≤ gb265)); clear HB; have HB := n0_; have BK265 := n1_; have GW265 := n2_; have GE265 := n3_; clear n0_ n1_ n2_ n3_; clear hb hbox hg; have hcz14_0 : w13.cell? ⟨gb265, 0, none⟩ = some (.int .i64 a0_0) := (blk_cell BK265.out 0).trans rfl; have hcz14_1 : w13.cell? ⟨gb265, 1, none⟩ = some (.int .i64 a0_1) := (blk_cell BK265.out 1).trans rfl; have hcz14_2 : w13.cell? ⟨gb265, 2, none⟩ = some (.int .i64 a0_2) := (blk_cell BK265.out 2).trans rfl; have hcz14_3 : w13.cell? ⟨gb265, 3, none⟩ = some (.slice A0_3 l0_3.length c0_3) := (blk_cell BK265.out 3).trans rfl; have hfz14_0 := blk_frozen BK265.out 0; have hfz14_1 := blk_frozen BK265.out 1; have hfz14_2 := blk_frozen BK265.out 2; have hfz14_3 := blk_frozen BK265.out 3) | ((with_reducible refine gate_callee (f := 18) rfl ?_); refine goesL_ (some 14) rfl rfl Try.func18 (by kernel_rfl) rfl #[.agg #[.int .i64 a0_0, .int .i64 a0_1, .int .i64 a0_2, .slice A0_3 l0_3.length c0_3]] rfl (by ((simp only [List.map_toArray, List.map_cons, List.map_nil])); (rfl)) ?_; (with_reducible refine (stripe_Check.calls a0_0 a0_1 a0_2 _ _ l0_3 t266 _ ?side1 ?side2 A4.out).mono ?_); (case side1 => repeat ((exact (Kd.C_below HR0_3.out HB.out)))); (case side2 => exact HC0_3.out); rintro e w15 ⟨rfl, hb⟩; refine ⟨_, rfl, ?_⟩; have n0_ := Aside0.mk (blk_below (g := gb265) (o := .cells #[.int .i64 a0_0, .int .i64 a0_1, .int .i64 a0_2, .slice A0_3 l0_3.length c0_3] 34 (0, 0)) (by exact BK265.out) hb); have n1_ := Aside0.mk (below_step HB.out hb); clear BK265 HB; have BK265 := n0_; have HB := n1_; clear n0_ n1_; clear hb)))
          have n0_ := Aside0.mk (blk_drew BK265.out)
          have n1_ := Aside0.mk (below_drew1 HB.out)
          clear BK265 HB
          have BK265 := n0_
          have HB := n1_
          clear n0_ n1_
          refine start_ (n := 13) (S := fun w' => w'.cell? ⟨gb265, 0, none⟩ = some (.int .i64 a0_0) ∧ w'.cell? ⟨gb265, 1, none⟩ = some (.int .i64 a0_1) ∧ w'.cell? ⟨gb265, 2, none⟩ = some (.int .i64 a0_2) ∧ w'.cell? ⟨gb265, 3, none⟩ = some (.slice A0_3 l0_3.length c0_3)) (ds := []) #[false, false, false, false, false, false, false, false, false, false, false, false, false] (by kernel_rfl) rfl rfl ⟨(blk_cell BK265.out 0).trans rfl, (blk_cell BK265.out 1).trans rfl, (blk_cell BK265.out 2).trans rfl, (blk_cell BK265.out 3).trans rfl⟩ (fun hHeld => ?_); refine with_tabW stripe_Read.tab4 stripe_Read.bits4 (fun HT_ HW_ => ?_)
          generalize w15.drew = w16 at BK265 HB hHeld ⊢
          refine pure_ (i := 0) (N := some 19) (v := ?_) (a' := ?_) #[true, false, false, false, false, false, false, false, false, false, false, false, false] rfl rfl (any_of HT_.out (by kernel_rfl)) (fun _ _ _ h => h) (Or.inl ⟨by rfl, ?_⟩) ?_ ?_
          rotate_left
          · intro w'
            go_simp
            with_reducible rfl
          rotate_left
          · simp only [Act.put, List.setIfInBounds_toArray, List.set_cons_zero, List.set_cons_succ, i64_w, i32_w]
            rfl
          refine pure_ (i := 2) (N := some 21) (v := ?_) (a' := ?_) #[true, false, true, false, false, false, false, false, false, false, false, false, false] rfl rfl (any_of HT_.out (by kernel_rfl)) (fun _ _ _ h => h) (Or.inl ⟨by rfl, ?_⟩) ?_ ?_
          rotate_left
          · intro w'
            go_simp
            with_reducible rfl
          rotate_left
          · simp only [Act.put, List.setIfInBounds_toArray, List.set_cons_zero, List.set_cons_succ, i64_w, i32_w]
            rfl
          refine pure_ (i := 5) (N := some 24) (v := ?_) (a' := ?_) #[true, false, true, false, false, true, false, false, false, false, false, false, false] rfl rfl (any_of HT_.out (by kernel_rfl)) (fun _ _ _ h => h) (Or.inl ⟨by rfl, ?_⟩) ?_ ?_
          rotate_left
          · intro w'
            go_simp
            with_reducible rfl
          rotate_left
          · simp only [Act.put, List.setIfInBounds_toArray, List.set_cons_zero, List.set_cons_succ, i64_w, i32_w]
            rfl
          refine take_ (i := 1) (N := some 20) (v := ?_) (a' := ?_) #[true, true, true, false, false, true, false, false, false, false, false, false, false] rfl rfl (take_ofW HT_.out HW_.out (by kernel_rfl)) (fun _ _ _ h => h) (Or.inl ⟨by rfl, ?_⟩) hHeld ?_ ?_
          rotate_left
          · rintro w' ⟨s0, s1, s2, s3⟩
            go_simp
            with_reducible rfl
          rotate_left
          · simp only [Act.put, List.setIfInBounds_toArray, List.set_cons_zero, List.set_cons_succ, i64_w, i32_w]
            rfl
          refine take_ (i := 3) (N := some 22) (v := ?_) (a' := ?_) #[true, true, true, true, false, true, false, false, false, false, false, false, false] rfl rfl (take_ofW HT_.out HW_.out (by kernel_rfl)) (fun _ _ _ h => h) (Or.inl ⟨by rfl, ?_⟩) hHeld ?_ ?_
          rotate_left
          · rintro w' ⟨s0, s1, s2, s3⟩
            go_simp
            with_reducible rfl
          rotate_left
          · simp only [Act.put, List.setIfInBounds_toArray, List.set_cons_zero, List.set_cons_succ, i64_w, i32_w]
            rfl
          refine take_ (i := 4) (N := some 23) (v := ?_) (a' := ?_) #[true, true, true, true, true, true, false, false, false, false, false, false, false] rfl rfl (take_ofW HT_.out HW_.out (by kernel_rfl)) (fun _ _ _ h => h) (Or.inl ⟨by rfl, ?_⟩) hHeld ?_ ?_
          rotate_left
          · rintro w' ⟨s0, s1, s2, s3⟩
            go_simp
            with_reducible rfl
          rotate_left
          · simp only [Act.put, List.setIfInBounds_toArray, List.set_cons_zero, List.set_cons_succ, i64_w, i32_w]
            rfl
          refine one_ (i := 6) (N := some 25) #[true, true, true, true, true, true, true, false, false, false, false, false, false] rfl rfl (one_of HT_.out (by kernel_rfl)) (by decide) (fun K hK => ?_)
          refine goes_ Try.func26 (by kernel_rfl) rfl #[.agg #[.int .i64 a0_0, .int .i64 a0_1, .int .i64 a0_2, .slice A0_3 l0_3.length c0_3], .slice A1 l1.length c1] (by rfl) rfl rfl (by ((simp only [List.map_toArray, List.map_cons, List.map_nil])); (rfl)) ?_
          with_reducible refine (stripe_kept.calls a0_0 a0_1 a0_2 _ _ l0_3 _ _ l1 t267 _ ?side1 ?side2 ?side3 ?side4 A6.out).mono ?_
          (case side1 => repeat ((exact (Kd.C_below HR0_3.out HB.out))))
          (case side2 => exact HC0_3.out)
          (case side3 => repeat ((exact (Kd.C_below HR1.out HB.out))))
          (case side4 => exact HC1.out)
          rintro e w17 ⟨v268, rfl, ho0, hb⟩
          refine ⟨_, rfl, ?_⟩
          have n0_ := Aside0.mk (Kd.R_lower ho0 (below_size HB.out))
          have n1_ := Aside0.mk (blk_below (g := gb265) (o := .cells #[.int .i64 a0_0, .int .i64 a0_1, .int .i64 a0_2, .slice A0_3 l0_3.length c0_3] 34 (0, 0)) (by exact BK265.out) hb)
          have n2_ := Aside0.mk (below_step HB.out hb)
          clear BK265 HB
          have HO269 := n0_
          have BK265 := n1_
          have HB := n2_
          clear n0_ n1_ n2_
          ((clear hb))
          ((clear ho0))
          obtain ⟨Ao18, co18, eo18⟩ := Kd.R_slice HO269.out
          ((subst eo18))
          refine hK.out _ _ ⟨(blk_cell BK265.out 0).trans rfl, (blk_cell BK265.out 1).trans rfl, (blk_cell BK265.out 2).trans rfl, (blk_cell BK265.out 3).trans rfl⟩ (fun hHeld => ?_)
          clear hK K
          refine norm_ (a' := ?_) ?_ ?_
          rotate_left
          · show Act.put _ (some 25) _ = _
            simp only [Act.put, List.setIfInBounds_toArray, List.set_cons_zero, List.set_cons_succ, i64_w, i32_w]
            rfl
          refine one_ (i := 7) (N := some 26) #[true, true, true, true, true, true, true, true, false, false, false, false, false] rfl rfl (one_of HT_.out (by kernel_rfl)) (by decide) (fun K hK => ?_)
          refine goes_ Try.func25 (by kernel_rfl) rfl #[.agg #[.int .i64 a0_0, .int .i64 a0_1], .int .i64 a0_2, .slice Ao18 t267.length co18] (by rfl) rfl rfl (by ((simp only [List.map_toArray, List.map_cons, List.map_nil])); (rfl)) ?_
          with_reducible refine (erasure_Decode.calls a0_0 a0_1 a0_2 _ _ t267 t270 t271 _ ?side1 ?side2 A7.out).mono ?_
          (case side1 => repeat ((exact (Kd.R_reads' HO269.out).2.2)))
          (case side2 => exact (Kd.R_reads' HO269.out).2.1)
          rintro e w19 ⟨rfl, hb⟩
          refine ⟨_, rfl, ?_⟩
          have n0_ := Aside0.mk (Kd.R_below (by exact HO269.out) hb)
          have n1_ := Aside0.mk (blk_below (g := gb265) (o := .cells #[.int .i64 a0_0, .int .i64 a0_1, .int .i64 a0_2, .slice A0_3 l0_3.length c0_3] 34 (0, 0)) (by exact BK265.out) hb)
          have n2_ := Aside0.mk (below_step HB.out hb)
          clear HO269 BK265 HB
          have HO269 := n0_
          have BK265 := n1_
          have HB := n2_
          clear n0_ n1_ n2_
          ((clear hb))
          refine hK.out _ _ ⟨(blk_cell BK265.out 0).trans rfl, (blk_cell BK265.out 1).trans rfl, (blk_cell BK265.out 2).trans rfl, (blk_cell BK265.out 3).trans rfl⟩ (fun hHeld => ?_)
          clear hK K
          refine norm_ (a' := ?_) ?_ ?_
          rotate_left
          · show Act.put _ (some 26) _ = _
            simp only [Act.put, List.setIfInBounds_toArray, List.set_cons_zero, List.set_cons_succ, i64_w, i32_w]
            rfl
          refine pure_ (i := 8) (N := some 18) (v := ?_) (a' := ?_) #[true, true, true, true, true, true, true, true, true, false, false, false, false] rfl rfl (any_of HT_.out (by kernel_rfl)) (fun _ _ _ h => h) (Or.inl ⟨by rfl, ?_⟩) ?_ ?_
          rotate_left
          · intro w'
            go_simp
            with_reducible rfl
          rotate_left
          · simp only [Act.put, List.setIfInBounds_toArray, List.set_cons_zero, List.set_cons_succ, i64_w, i32_w]
            rfl
          refine pure_ (i := 9) (N := some 27) (v := ?_) (a' := ?_) #[true, true, true, true, true, true, true, true, true, true, false, false, false] rfl rfl (any_of HT_.out (by kernel_rfl)) (fun _ _ _ h => h) (Or.inl ⟨by rfl, ?_⟩) ?_ ?_
          rotate_left
          · intro w'
            go_simp
            with_reducible rfl
          rotate_left
          · simp only [Act.put, List.setIfInBounds_toArray, List.set_cons_zero, List.set_cons_succ, i64_w, i32_w]
            rfl
          refine pure_ (i := 10) (N := some 28) (v := ?_) (a' := ?_) #[true, true, true, true, true, true, true, true, true, true, true, false, false] rfl rfl (any_of HT_.out (by kernel_rfl)) (fun _ _ _ h => h) (Or.inl ⟨by rfl, ?_⟩) ?_ ?_
          rotate_left
          · intro w'
            go_simp
            with_reducible rfl
          rotate_left
          · simp only [Act.put, List.setIfInBounds_toArray, List.set_cons_zero, List.set_cons_succ, i64_w, i32_w]
            rfl
          refine pure_ (i := 11) (N := some 9) (v := ?_) (a' := ?_) #[true, true, true, true, true, true, true, true, true, true, true, true, false] rfl rfl (any_of HT_.out (by kernel_rfl)) (fun _ _ _ h => h) (Or.inl ⟨by rfl, ?_⟩) ?_ ?_
          rotate_left
          · intro w'
            go_simp
            with_reducible rfl
          rotate_left
          · simp only [Act.put, List.setIfInBounds_toArray, List.set_cons_zero, List.set_cons_succ, i64_w, i32_w]
            rfl
          refine pure_ (i := 12) (N := some 10) (v := ?_) (a' := ?_) #[true, true, true, true, true, true, true, true, true, true, true, true, true] rfl rfl (any_of HT_.out (by kernel_rfl)) (fun _ _ _ h => h) (Or.inl ⟨by rfl, ?_⟩) ?_ ?_
          rotate_left
          · intro w'
            go_simp
            with_reducible rfl
          rotate_left
          · simp only [Act.put, List.setIfInBounds_toArray, List.set_cons_zero, List.set_cons_succ, i64_w, i32_w]
            rfl
          refine done_ (done_of HT_.out (by kernel_rfl)) ?_
          (go_wp2_with (first | ((with_reducible refine gate_callee (f := 27) rfl ?_); refine goesL_ (some 34) rfl rfl Try.func27 (by kernel_rfl) rfl #[.string t270, .int .i64 0] rfl (by ((simp only [List.map_toArray, List.map_cons, List.map_nil])); (rfl)) ?_; (with_reducible refine (seal_Decode.calls k t270 0 t272 t273 t274 t275 _ A9.out).mono ?_); rintro e w20 ⟨rfl, hb⟩; refine ⟨_, rfl, ?_⟩; have n0_ := Aside0.mk (Kd.R_below (by exact HO269.out) hb); have n1_ := Aside0.mk (blk_below (g := gb265) (o := .cells #[.int .i64 a0_0, .int .i64 a0_1, .int .i64 a0_2, .slice A0_3 l0_3.length c0_3] 34 (0, 0)) (by exact BK265.out) hb); have n2_ := Aside0.mk (below_step HB.out hb); clear HO269 BK265 HB; have HO269 := n0_; have BK265 := n1_; have HB := n2_; clear n0_ n1_ n2_; clear hb) | ((with_reducible refine gate_dst (N := 11) rfl ?_); ((refine gate_guard (by rfl) ?_; dsimp only)); refine box_event ?hg (N := 11) ?hd (cs := #[.int .i64 0, .string (⟨#[]⟩ : ByteArray)]) (t := 55) ?hr ?_; (case hd => rfl); (case hg => rfl); (case hr => (go_simp; done)); intro gb276 hg w21 hbox hb; have n0_ := Aside0.mk (Kd.R_below (by exact HO269.out) hb); have n1_ := Aside0.mk (blk_below (g := gb265) (o := .cells #[.int .i64 a0_0, .int .i64 a0_1, .int .i64 a0_2, .slice A0_3 l0_3.length c0_3] 34 (0, 0)) (by exact BK265.out) hb); have n2_ := Aside0.mk (below_step HB.out hb); have n3_ := Aside0.mk (hbox); have n4_ := Aside0.mk ((by rw [hg]; exact (below_size HB.out) : w.heap.size ≤ gb276)); have n5_ := Aside0.mk ((by rw [hg]; exact (below_size HB.out) : w.heap.size ≤ gb276)); have n6_ := Aside0.mk ((by rw [hg]; exact Nat.ne_of_lt (blk_lt (g := gb265) (o := .cells #[.int .i64 a0_0, .int .i64 a0_1, .int .i64 a0_2, .slice A0_3 l0_3.length c0_3] 34 (0, 0)) (by exact BK265.out)) : gb265 ≠ gb276)); have n7_ := Aside0.mk ((by rw [hg]; exact Nat.ne_of_gt (blk_lt (g := gb265) (o := .cells #[.int .i64 a0_0, .int .i64 a0_1, .int .i64 a0_2, .slice A0_3 l0_3.length c0_3] 34 (0, 0)) (by exact BK265.out)) : gb276 ≠ gb265)); clear HO269 BK265 HB; have HO269 := n0_; have BK265 := n1_; have HB := n2_; have BK276 := n3_; have GW276 := n4_; have GE276 := n5_; have NB265_276 := n6_; have NB276_265 := n7_; clear n0_ n1_ n2_ n3_ n4_ n5_ n6_ n7_; clear hb hbox hg; have hnb22 := NB276_265.out; have hnc22 := NB265_276.out; have hcz23_0 : w21.cell? ⟨gb276, 0, none⟩ = some (.int .i64 0) := (blk_cell BK276.out 0).trans rfl; have hcz23_1 : w21.cell? ⟨gb276, 1, none⟩ = some (.string (⟨#[]⟩ : ByteArray)) := (blk_cell BK276.out 1).trans rfl; have hfz23_0 := blk_frozen BK276.out 0; have hfz23_1 := blk_frozen BK276.out 1) | ((with_reducible refine gate_callee (f := 28) rfl ?_); refine goesL_ (some 48) rfl rfl Try.func28 (by kernel_rfl) rfl #[.agg #[.int .i64 t272, .string t273], .int .i64 a2] rfl (by ((simp only [List.map_toArray, List.map_cons, List.map_nil])); (rfl)) ?_; (with_reducible refine (seal_Open.calls t272 t273 a2 t277 t278 _ A12.out).mono ?_); rintro e w24 ⟨rfl, hb⟩; refine ⟨_, rfl, ?_⟩; have n0_ := Aside0.mk (Kd.R_below (by exact (Kd.R_mono (Kd.R_far (p := ⟨gb276, 1, none⟩) (Kd.R_far (p := ⟨gb276, 0, none⟩) (Kd.R_types HO269.out BK276.out (by decide)) (fun _ hk => hk.2) (.int .i64 t272)) (fun _ hk => hk.2) (.string t273)) (fun _ h_ => h_.1))) hb); have n1_ := Aside0.mk (blk_below (g := gb265) (o := .cells #[.int .i64 a0_0, .int .i64 a0_1, .int .i64 a0_2, .slice A0_3 l0_3.length c0_3] 34 (0, 0)) (by refine blk_far ?_ NB265_276.out _; refine blk_far ?_ NB265_276.out _; exact BK265.out) hb); have n2_ := Aside0.mk (blk_below (g := gb276) (o := .cells #[.int .i64 t272, .string t273] 55 (0, 0)) (by refine blk_put (cs := #[.int .i64 t272, .string (⟨#[]⟩ : ByteArray)]) ?_ 1 _ rfl; refine blk_put (cs := #[.int .i64 0, .string (⟨#[]⟩ : ByteArray)]) ?_ 0 _ rfl; exact BK276.out) hb); have n3_ := Aside0.mk (below_step (by repeat ((with_reducible first | exact HB.out | refine below_set ?_ GE276.out))) hb); clear HO269 BK265 BK276 HB; have HO269 := n0_; have BK265 := n1_; have BK276 := n2_; have HB := n3_; clear n0_ n1_ n2_ n3_; clear hb)))
          go_ret2
          exact ⟨by (rfl), HB.out⟩
      · rw [if_neg c10] at H
        exact absurd H (by simp)
    · rw [if_neg c8] at H
      have c8b0 : (t271 == 0) = false := beq_eq_false_iff_ne.mpr c8
      have c8b1 : (t271 != 0) = true := bne_iff_ne.mpr c8
      simp only [Option.some.injEq, Prod.mk.injEq] at H
      obtain ⟨rfl, rfl⟩ := H
      go_enter Try.func16, Try.ntmps16
      (go_wp2_with (first | ((with_reducible refine gate_dst (N := 3) rfl ?_); ((refine gate_guard (by rfl) ?_; dsimp only)); refine box_event ?hg (N := 3) ?hd (cs := #[.int .i64 a0_0, .int .i64 a0_1, .int .i64 a0_2, .slice A0_3 l0_3.length c0_3]) (t := 34) ?hr ?_; (case hd => rfl); (case hg => rfl); (case hr => (go_simp; done)); intro gb265 hg w25 hbox hb; have n0_ := Aside0.mk (below_step HB.out hb); have n1_ := Aside0.mk (hbox); have n2_ := Aside0.mk ((by rw [hg]; exact (below_size HB.out) : w.heap.size ≤ gb265)); have n3_ := Aside0.mk ((by rw [hg]; exact (below_size HB.out) : w.heap.size ≤ gb265)); clear HB; have HB := n0_; have BK265 := n1_; have GW265 := n2_; have GE265 := n3_; clear n0_ n1_ n2_ n3_; clear hb hbox hg; have hcz26_0 : w25.cell? ⟨gb265, 0, none⟩ = some (.int .i64 a0_0) := (blk_cell BK265.out 0).trans rfl; have hcz26_1 : w25.cell? ⟨gb265, 1, none⟩ = some (.int .i64 a0_1) := (blk_cell BK265.out 1).trans rfl; have hcz26_2 : w25.cell? ⟨gb265, 2, none⟩ = some (.int .i64 a0_2) := (blk_cell BK265.out 2).trans rfl; have hcz26_3 : w25.cell? ⟨gb265, 3, none⟩ = some (.slice A0_3 l0_3.length c0_3) := (blk_cell BK265.out 3).trans rfl; have hfz26_0 := blk_frozen BK265.out 0; have hfz26_1 := blk_frozen BK265.out 1; have hfz26_2 := blk_frozen BK265.out 2; have hfz26_3 := blk_frozen BK265.out 3) | ((with_reducible refine gate_callee (f := 18) rfl ?_); refine goesL_ (some 14) rfl rfl Try.func18 (by kernel_rfl) rfl #[.agg #[.int .i64 a0_0, .int .i64 a0_1, .int .i64 a0_2, .slice A0_3 l0_3.length c0_3]] rfl (by ((simp only [List.map_toArray, List.map_cons, List.map_nil])); (rfl)) ?_; (with_reducible refine (stripe_Check.calls a0_0 a0_1 a0_2 _ _ l0_3 t266 _ ?side1 ?side2 A4.out).mono ?_); (case side1 => repeat ((exact (Kd.C_below HR0_3.out HB.out)))); (case side2 => exact HC0_3.out); rintro e w27 ⟨rfl, hb⟩; refine ⟨_, rfl, ?_⟩; have n0_ := Aside0.mk (blk_below (g := gb265) (o := .cells #[.int .i64 a0_0, .int .i64 a0_1, .int .i64 a0_2, .slice A0_3 l0_3.length c0_3] 34 (0, 0)) (by exact BK265.out) hb); have n1_ := Aside0.mk (below_step HB.out hb); clear BK265 HB; have BK265 := n0_; have HB := n1_; clear n0_ n1_; clear hb)))
      have n0_ := Aside0.mk (blk_drew BK265.out)
      have n1_ := Aside0.mk (below_drew1 HB.out)
      clear BK265 HB
      have BK265 := n0_
      have HB := n1_
      clear n0_ n1_
      refine start_ (n := 13) (S := fun w' => w'.cell? ⟨gb265, 0, none⟩ = some (.int .i64 a0_0) ∧ w'.cell? ⟨gb265, 1, none⟩ = some (.int .i64 a0_1) ∧ w'.cell? ⟨gb265, 2, none⟩ = some (.int .i64 a0_2) ∧ w'.cell? ⟨gb265, 3, none⟩ = some (.slice A0_3 l0_3.length c0_3)) (ds := []) #[false, false, false, false, false, false, false, false, false, false, false, false, false] (by kernel_rfl) rfl rfl ⟨(blk_cell BK265.out 0).trans rfl, (blk_cell BK265.out 1).trans rfl, (blk_cell BK265.out 2).trans rfl, (blk_cell BK265.out 3).trans rfl⟩ (fun hHeld => ?_); refine with_tabW stripe_Read.tab4 stripe_Read.bits4 (fun HT_ HW_ => ?_)
      generalize w27.drew = w28 at BK265 HB hHeld ⊢
      refine pure_ (i := 0) (N := some 19) (v := ?_) (a' := ?_) #[true, false, false, false, false, false, false, false, false, false, false, false, false] rfl rfl (any_of HT_.out (by kernel_rfl)) (fun _ _ _ h => h) (Or.inl ⟨by rfl, ?_⟩) ?_ ?_
      rotate_left
      · intro w'
        go_simp
        with_reducible rfl
      rotate_left
      · simp only [Act.put, List.setIfInBounds_toArray, List.set_cons_zero, List.set_cons_succ, i64_w, i32_w]
        rfl
      refine pure_ (i := 2) (N := some 21) (v := ?_) (a' := ?_) #[true, false, true, false, false, false, false, false, false, false, false, false, false] rfl rfl (any_of HT_.out (by kernel_rfl)) (fun _ _ _ h => h) (Or.inl ⟨by rfl, ?_⟩) ?_ ?_
      rotate_left
      · intro w'
        go_simp
        with_reducible rfl
      rotate_left
      · simp only [Act.put, List.setIfInBounds_toArray, List.set_cons_zero, List.set_cons_succ, i64_w, i32_w]
        rfl
      refine pure_ (i := 5) (N := some 24) (v := ?_) (a' := ?_) #[true, false, true, false, false, true, false, false, false, false, false, false, false] rfl rfl (any_of HT_.out (by kernel_rfl)) (fun _ _ _ h => h) (Or.inl ⟨by rfl, ?_⟩) ?_ ?_
      rotate_left
      · intro w'
        go_simp
        with_reducible rfl
      rotate_left
      · simp only [Act.put, List.setIfInBounds_toArray, List.set_cons_zero, List.set_cons_succ, i64_w, i32_w]
        rfl
      refine take_ (i := 1) (N := some 20) (v := ?_) (a' := ?_) #[true, true, true, false, false, true, false, false, false, false, false, false, false] rfl rfl (take_ofW HT_.out HW_.out (by kernel_rfl)) (fun _ _ _ h => h) (Or.inl ⟨by rfl, ?_⟩) hHeld ?_ ?_
      rotate_left
      · rintro w' ⟨s0, s1, s2, s3⟩
        go_simp
        with_reducible rfl
      rotate_left
      · simp only [Act.put, List.setIfInBounds_toArray, List.set_cons_zero, List.set_cons_succ, i64_w, i32_w]
        rfl
      refine take_ (i := 3) (N := some 22) (v := ?_) (a' := ?_) #[true, true, true, true, false, true, false, false, false, false, false, false, false] rfl rfl (take_ofW HT_.out HW_.out (by kernel_rfl)) (fun _ _ _ h => h) (Or.inl ⟨by rfl, ?_⟩) hHeld ?_ ?_
      rotate_left
      · rintro w' ⟨s0, s1, s2, s3⟩
        go_simp
        with_reducible rfl
      rotate_left
      · simp only [Act.put, List.setIfInBounds_toArray, List.set_cons_zero, List.set_cons_succ, i64_w, i32_w]
        rfl
      refine take_ (i := 4) (N := some 23) (v := ?_) (a' := ?_) #[true, true, true, true, true, true, false, false, false, false, false, false, false] rfl rfl (take_ofW HT_.out HW_.out (by kernel_rfl)) (fun _ _ _ h => h) (Or.inl ⟨by rfl, ?_⟩) hHeld ?_ ?_
      rotate_left
      · rintro w' ⟨s0, s1, s2, s3⟩
        go_simp
        with_reducible rfl
      rotate_left
      · simp only [Act.put, List.setIfInBounds_toArray, List.set_cons_zero, List.set_cons_succ, i64_w, i32_w]
        rfl
      refine one_ (i := 6) (N := some 25) #[true, true, true, true, true, true, true, false, false, false, false, false, false] rfl rfl (one_of HT_.out (by kernel_rfl)) (by decide) (fun K hK => ?_)
      refine goes_ Try.func26 (by kernel_rfl) rfl #[.agg #[.int .i64 a0_0, .int .i64 a0_1, .int .i64 a0_2, .slice A0_3 l0_3.length c0_3], .slice A1 l1.length c1] (by rfl) rfl rfl (by ((simp only [List.map_toArray, List.map_cons, List.map_nil])); (rfl)) ?_
      with_reducible refine (stripe_kept.calls a0_0 a0_1 a0_2 _ _ l0_3 _ _ l1 t267 _ ?side1 ?side2 ?side3 ?side4 A6.out).mono ?_
      (case side1 => repeat ((exact (Kd.C_below HR0_3.out HB.out))))
      (case side2 => exact HC0_3.out)
      (case side3 => repeat ((exact (Kd.C_below HR1.out HB.out))))
      (case side4 => exact HC1.out)
      rintro e w29 ⟨v268, rfl, ho0, hb⟩
      refine ⟨_, rfl, ?_⟩
      have n0_ := Aside0.mk (Kd.R_lower ho0 (below_size HB.out))
      have n1_ := Aside0.mk (blk_below (g := gb265) (o := .cells #[.int .i64 a0_0, .int .i64 a0_1, .int .i64 a0_2, .slice A0_3 l0_3.length c0_3] 34 (0, 0)) (by exact BK265.out) hb)
      have n2_ := Aside0.mk (below_step HB.out hb)
      clear BK265 HB
      have HO269 := n0_
      have BK265 := n1_
      have HB := n2_
      clear n0_ n1_ n2_
      ((clear hb))
      ((clear ho0))
      obtain ⟨Ao30, co30, eo30⟩ := Kd.R_slice HO269.out
      ((subst eo30))
      refine hK.out _ _ ⟨(blk_cell BK265.out 0).trans rfl, (blk_cell BK265.out 1).trans rfl, (blk_cell BK265.out 2).trans rfl, (blk_cell BK265.out 3).trans rfl⟩ (fun hHeld => ?_)
      clear hK K
      refine norm_ (a' := ?_) ?_ ?_
      rotate_left
      · show Act.put _ (some 25) _ = _
        simp only [Act.put, List.setIfInBounds_toArray, List.set_cons_zero, List.set_cons_succ, i64_w, i32_w]
        rfl
      refine one_ (i := 7) (N := some 26) #[true, true, true, true, true, true, true, true, false, false, false, false, false] rfl rfl (one_of HT_.out (by kernel_rfl)) (by decide) (fun K hK => ?_)
      refine goes_ Try.func25 (by kernel_rfl) rfl #[.agg #[.int .i64 a0_0, .int .i64 a0_1], .int .i64 a0_2, .slice Ao30 t267.length co30] (by rfl) rfl rfl (by ((simp only [List.map_toArray, List.map_cons, List.map_nil])); (rfl)) ?_
      with_reducible refine (erasure_Decode.calls a0_0 a0_1 a0_2 _ _ t267 t270 t271 _ ?side1 ?side2 A7.out).mono ?_
      (case side1 => repeat ((exact (Kd.R_reads' HO269.out).2.2)))
      (case side2 => exact (Kd.R_reads' HO269.out).2.1)
      rintro e w31 ⟨rfl, hb⟩
      refine ⟨_, rfl, ?_⟩
      have n0_ := Aside0.mk (Kd.R_below (by exact HO269.out) hb)
      have n1_ := Aside0.mk (blk_below (g := gb265) (o := .cells #[.int .i64 a0_0, .int .i64 a0_1, .int .i64 a0_2, .slice A0_3 l0_3.length c0_3] 34 (0, 0)) (by exact BK265.out) hb)
      have n2_ := Aside0.mk (below_step HB.out hb)
      clear HO269 BK265 HB
      have HO269 := n0_
      have BK265 := n1_
      have HB := n2_
      clear n0_ n1_ n2_
      ((clear hb))
      refine hK.out _ _ ⟨(blk_cell BK265.out 0).trans rfl, (blk_cell BK265.out 1).trans rfl, (blk_cell BK265.out 2).trans rfl, (blk_cell BK265.out 3).trans rfl⟩ (fun hHeld => ?_)
      clear hK K
      refine norm_ (a' := ?_) ?_ ?_
      rotate_left
      · show Act.put _ (some 26) _ = _
        simp only [Act.put, List.setIfInBounds_toArray, List.set_cons_zero, List.set_cons_succ, i64_w, i32_w]
        rfl
      refine pure_ (i := 8) (N := some 18) (v := ?_) (a' := ?_) #[true, true, true, true, true, true, true, true, true, false, false, false, false] rfl rfl (any_of HT_.out (by kernel_rfl)) (fun _ _ _ h => h) (Or.inl ⟨by rfl, ?_⟩) ?_ ?_
      rotate_left
      · intro w'
        go_simp
        with_reducible rfl
      rotate_left
      · simp only [Act.put, List.setIfInBounds_toArray, List.set_cons_zero, List.set_cons_succ, i64_w, i32_w]
        rfl
      refine pure_ (i := 9) (N := some 27) (v := ?_) (a' := ?_) #[true, true, true, true, true, true, true, true, true, true, false, false, false] rfl rfl (any_of HT_.out (by kernel_rfl)) (fun _ _ _ h => h) (Or.inl ⟨by rfl, ?_⟩) ?_ ?_
      rotate_left
      · intro w'
        go_simp
        with_reducible rfl
      rotate_left
      · simp only [Act.put, List.setIfInBounds_toArray, List.set_cons_zero, List.set_cons_succ, i64_w, i32_w]
        rfl
      refine pure_ (i := 10) (N := some 28) (v := ?_) (a' := ?_) #[true, true, true, true, true, true, true, true, true, true, true, false, false] rfl rfl (any_of HT_.out (by kernel_rfl)) (fun _ _ _ h => h) (Or.inl ⟨by rfl, ?_⟩) ?_ ?_
      rotate_left
      · intro w'
        go_simp
        with_reducible rfl
      rotate_left
      · simp only [Act.put, List.setIfInBounds_toArray, List.set_cons_zero, List.set_cons_succ, i64_w, i32_w]
        rfl
      refine pure_ (i := 11) (N := some 9) (v := ?_) (a' := ?_) #[true, true, true, true, true, true, true, true, true, true, true, true, false] rfl rfl (any_of HT_.out (by kernel_rfl)) (fun _ _ _ h => h) (Or.inl ⟨by rfl, ?_⟩) ?_ ?_
      rotate_left
      · intro w'
        go_simp
        with_reducible rfl
      rotate_left
      · simp only [Act.put, List.setIfInBounds_toArray, List.set_cons_zero, List.set_cons_succ, i64_w, i32_w]
        rfl
      refine pure_ (i := 12) (N := some 10) (v := ?_) (a' := ?_) #[true, true, true, true, true, true, true, true, true, true, true, true, true] rfl rfl (any_of HT_.out (by kernel_rfl)) (fun _ _ _ h => h) (Or.inl ⟨by rfl, ?_⟩) ?_ ?_
      rotate_left
      · intro w'
        go_simp
        with_reducible rfl
      rotate_left
      · simp only [Act.put, List.setIfInBounds_toArray, List.set_cons_zero, List.set_cons_succ, i64_w, i32_w]
        rfl
      refine done_ (done_of HT_.out (by kernel_rfl)) ?_
      (go_wp2)
      go_ret2
      exact ⟨by (rfl), HB.out⟩
  · rw [if_neg c5] at H
    exact absurd H (by simp)

end Go.Proofs.Ythfddndmhjkeiaa.L
end
section
-- Printed for this claim by a small program of the session's own, drv.py, round the kit's print.py. Lean checks it.
namespace Go.Proofs.Ythfddndmhjkeiaa.L
open Go.RowKit Go.Proofs.YthfddndmhjkeiaaW.PrintWords Go.Proofs.YthfddndmhjkeiaaW.PrintLast Go.Proofs.YthfddndmhjkeiaaW.PrintMore
attribute [local go_sem] max2_int min2_int max_two min_two max_three min_three max_four min_four   -- for this text's walks alone
set_option linter.unusedVariables false
set_option linter.unusedSimpArgs false

/-! ### erasure_Repair: function 29 -/
def erasure_Repair.j0 : Nat → Int → ByteArray → Bool → Int → Int → Option (Int × ByteArray × Int)
  | 0, _, _, _, _, _ => none
  | k + 1, x3, x10, x31, x328000, x328001 => if x31 = true then (none) else ((erasure_Encode.f k x328000 x328001 x10).bind fun bt331 => (if bt331.2 = 0 then (if 0 ≤ x3 then (if x3 < (bt331.1.length : Int) then (some ((rd_T41 bt331.1 x3).f0, (rd_T41 bt331.1 x3).f1, 0)) else (none)) else (none)) else (none)))
def erasure_Repair.f (k : Nat) (a0_0 : Int) (a0_1 : Int) (a1 : Int) (l2 : List (S41)) (a3 : Int) : Option (Int × ByteArray × Int) := (erasure_Decode.f a0_0 a0_1 a1 l2).bind fun bt329 => (if bt329.2 = 0 then (if a3 < 0 then (erasure_Repair.j0 k a3 bt329.1 true a0_0 a0_1) else (erasure_Repair.j0 k a3 bt329.1 (decide (a3 ≥ a0_1)) a0_0 a0_1)) else (none))
theorem erasure_Repair.mono_l : ∀ k, (∀ y0 y1 y2 y3 y4, LeO (erasure_Repair.j0 k y0 y1 y2 y3 y4) (erasure_Repair.j0 (k + 1) y0 y1 y2 y3 y4))
  | 0 => fun _ _ _ _ _ r h => by simp [erasure_Repair.j0] at h
  | k + 1 => by
    have ih0 := erasure_Repair.mono_l k
    · intro y0 y1 y2 y3 y4
      unfold erasure_Repair.j0
      repeat' first | (with_reducible exact erasure_Encode.mono _ _ _ _) | (with_reducible exact LeO.refl _) | (with_reducible refine LeO.ite ?_ ?_) | (with_reducible refine LeO.bind ?_ (fun _ => ?_))
theorem erasure_Repair.mono : ∀ a0 a1 a2 a3 a4 k, LeO (erasure_Repair.f k a0 a1 a2 a3 a4) (erasure_Repair.f (k + 1) a0 a1 a2 a3 a4) := by
  intro a0 a1 a2 a3 a4 k
  have ih0 := erasure_Repair.mono_l k
  unfold erasure_Repair.f
  repeat' first | (with_reducible exact ih0 _ _ _ _ _) | (with_reducible exact LeO.refl _) | (with_reducible refine LeO.ite ?_ ?_) | (with_reducible refine LeO.bind ?_ (fun _ => ?_))
set_option maxHeartbeats 8000000 in
set_option maxRecDepth 100000 in
theorem erasure_Repair.calls (k : Nat) (a0_0 : Int) (a0_1 : Int) (a1 : Int) (A2 : Option Addr) (c2 : Nat) (l2 : List (S41)) (a3 : Int) (r1 : Int) (r2 : ByteArray) (r3 : Int) (w : World) (hr2 : Kd.C k41 w A2 l2.length l2) (hc2 : l2.length ≤ c2) (h : erasure_Repair.f k a0_0 a0_1 a1 l2 a3 = some (r1, r2, r3)) :
    Calls Try.prog 29 #[.agg #[.int .i64 a0_0, .int .i64 a0_1], .int .i64 a1, .slice A2 l2.length c2, .int .i64 a3] w fun e w' => e = .returned (.tuple #[.agg #[.int .i64 r1, .string r2], .int .i64 r3]) ∧ Below w.heap.size w w' := by
  have hu30 := Try.underlying30
  have hu41 := Try.underlying41
  have HR2 := Aside0.mk hr2
  have HC2 := Aside0.mk hc2
  clear hr2 hc2
  have HB := Aside0.mk (Below.refl w.heap.size w)
  have H : ((erasure_Decode.f a0_0 a0_1 a1 l2).bind fun bt329 => (if bt329.2 = 0 then (if a3 < 0 then (erasure_Repair.j0 k a3 bt329.1 true a0_0 a0_1) else (erasure_Repair.j0 k a3 bt329.1 (decide (a3 ≥ a0_1)) a0_0 a0_1)) else (none))) = some (r1, r2, r3) := h
  clear h
  replace H := Option.bind_eq_some_iff.mp H
  obtain ⟨⟨t329, t330⟩, A50, H⟩ := H
  replace H : (if t330 = 0 then (if a3 < 0 then (erasure_Repair.j0 k a3 t329 true a0_0 a0_1) else (erasure_Repair.j0 k a3 t329 (decide (a3 ≥ a0_1)) a0_0 a0_1)) else (none)) = some (r1, r2, r3) := H
  have A5 := Aside0.mk A50
  clear A50
  by_cases c6 : t330 = 0
  · rw [if_pos c6] at H
    have c6b0 : (t330 == 0) = true := beq_iff_eq.mpr c6
    have c6b1 : (t330 != 0) = false := bne_eq_false_iff_eq.mpr c6
    clear c6
    have HC7 := Aside0.mk H
    clear H
    go_enter Try.func29, Try.ntmps29
    go_upto_region 4 with (first | ((with_reducible refine gate_dst (N := 4) rfl ?_); refine box_event ?hg (N := 4) ?hd (cs := #[.int .i64 a0_0, .int .i64 a0_1]) (t := 30) ?hr ?_; (case hd => rfl); (case hg => rfl); (case hr => (go_simp; done)); intro gb327 hg w8 hbox hb; have n0_ := Aside0.mk (below_step HB.out hb); have n1_ := Aside0.mk (hbox); have n2_ := Aside0.mk ((by rw [hg]; exact (below_size HB.out) : w.heap.size ≤ gb327)); have n3_ := Aside0.mk ((by rw [hg]; exact (below_size HB.out) : w.heap.size ≤ gb327)); clear HB; have HB := n0_; have BK327 := n1_; have GW327 := n2_; have GE327 := n3_; clear n0_ n1_ n2_ n3_; clear hb hbox hg) | ((with_reducible refine gate_dst (N := 8) rfl ?_); refine box_event ?hg (N := 8) ?hd (cs := #[.int .i64 0, .string (⟨#[]⟩ : ByteArray)]) (t := 41) ?hr ?_; (case hd => rfl); (case hg => rfl); (case hr => (go_simp; done)); intro gb328 hg w9 hbox hb; have n0_ := Aside0.mk (blk_below (g := gb327) (o := .cells #[.int .i64 a0_0, .int .i64 a0_1] 30 (0, 0)) (by exact BK327.out) hb); have n1_ := Aside0.mk (below_step HB.out hb); have n2_ := Aside0.mk (hbox); have n3_ := Aside0.mk ((by rw [hg]; exact (below_size HB.out) : w.heap.size ≤ gb328)); have n4_ := Aside0.mk ((by rw [hg]; exact (below_size HB.out) : w.heap.size ≤ gb328)); have n5_ := Aside0.mk ((by rw [hg]; exact Nat.ne_of_lt (blk_lt (g := gb327) (o := .cells #[.int .i64 a0_0, .int .i64 a0_1] 30 (0, 0)) (by exact BK327.out)) : gb327 ≠ gb328)); have n6_ := Aside0.mk ((by rw [hg]; exact Nat.ne_of_gt (blk_lt (g := gb327) (o := .cells #[.int .i64 a0_0, .int .i64 a0_1] 30 (0, 0)) (by exact BK327.out)) : gb328 ≠ gb327)); clear BK327 HB; have BK327 := n0_; have HB := n1_; have BK328 := n2_; have GW328 := n3_; have GE328 := n4_; have NB327_328 := n5_; have NB328_327 := n6_; clear n0_ n1_ n2_ n3_ n4_ n5_ n6_; clear hb hbox hg; have hnb10 := NB327_328.out; have hnc10 := NB328_327.out; have hcz11_0 : w9.cell? ⟨gb327, 0, none⟩ = some (.int .i64 a0_0) := (blk_cell BK327.out 0).trans rfl; have hcz11_1 : w9.cell? ⟨gb327, 1, none⟩ = some (.int .i64 a0_1) := (blk_cell BK327.out 1).trans rfl; have hfz11_0 := blk_frozen BK327.out 0; have hfz11_1 := blk_frozen BK327.out 1) | ((with_reducible refine gate_callee (f := 25) rfl ?_); refine goesL_ (some 17) rfl rfl Try.func25 (by kernel_rfl) rfl #[.agg #[.int .i64 a0_0, .int .i64 a0_1], .int .i64 a1, .slice A2 l2.length c2] rfl (by ((simp only [List.map_toArray, List.map_cons, List.map_nil])); (rfl)) ?_; (with_reducible refine (erasure_Decode.calls a0_0 a0_1 a1 _ _ l2 t329 t330 _ ?side1 ?side2 A5.out).mono ?_); (case side1 => repeat ((exact (Kd.C_below HR2.out HB.out)))); (case side2 => exact HC2.out); rintro e w12 ⟨rfl, hb⟩; refine ⟨_, rfl, ?_⟩; have n0_ := Aside0.mk (blk_below (g := gb327) (o := .cells #[.int .i64 a0_0, .int .i64 a0_1] 30 (0, 0)) (by exact BK327.out) hb); have n1_ := Aside0.mk (blk_below (g := gb328) (o := .cells #[.int .i64 0, .string (⟨#[]⟩ : ByteArray)] 41 (0, 0)) (by exact BK328.out) hb); have n2_ := Aside0.mk (below_step HB.out hb); clear BK327 BK328 HB; have BK327 := n0_; have BK328 := n1_; have HB := n2_; clear n0_ n1_ n2_; clear hb))
    go_cut [31] (fun v31 wc => ∃ (kq : Nat) (x31_6 : Bool), v31 = .bool x31_6 ∧ Aside0 (erasure_Repair.j0 kq a3 t329 x31_6 a0_0 a0_1 = some (r1, r2, r3)) ∧ Aside0 (kq ≤ k) ∧ Aside0 (wc.heap[gb327]? = some (.cells #[.int .i64 a0_0, .int .i64 a0_1] 30 (0, 0))) ∧ Aside0 (wc.heap[gb328]? = some (.cells #[.int .i64 0, .string (⟨#[]⟩ : ByteArray)] 41 (0, 0))) ∧ Aside0 (Below w.heap.size w wc))
    case first =>
      have H := HC7.out
      clear HC7
      by_cases c13 : a3 < 0
      · rw [if_pos c13] at H
        have c13b0 : decide (a3 < 0) = true := decide_eq_true c13
        clear c13
        ((skip))
        have H' := Aside0.mk H
        clear H
        go_wp2
        go_meet
        case rel => exact ⟨_, (true), (by (rfl)), H', ⟨by (omega)⟩, ⟨by exact BK327.out⟩, ⟨by exact BK328.out⟩, ⟨HB.out⟩⟩
      · rw [if_neg c13] at H
        have c13b0 : decide (a3 < 0) = false := decide_eq_false c13
        clear c13
        ((skip))
        have H' := Aside0.mk H
        clear H
        have hnb14 := NB327_328.out
        have hnc14 := NB328_327.out
        have hcz15_0 : w12.cell? ⟨gb327, 0, none⟩ = some (.int .i64 a0_0) := (blk_cell BK327.out 0).trans rfl
        have hcz15_1 : w12.cell? ⟨gb327, 1, none⟩ = some (.int .i64 a0_1) := (blk_cell BK327.out 1).trans rfl
        have hfz15_0 := blk_frozen BK327.out 0
        have hfz15_1 := blk_frozen BK327.out 1
        go_wp2
        go_meet
        case rel => exact ⟨_, (decide (a3 ≥ a0_1)), (by (rfl)), H', ⟨by (omega)⟩, ⟨by exact BK327.out⟩, ⟨by exact BK328.out⟩, ⟨HB.out⟩⟩
    case rest =>
      clear HC7 c6b0 c6b1 hcz11_0 hcz11_1 hfz11_0 hfz11_1
      obtain ⟨kq, x31_6, rfl, HA, HJ6, BK327, BK328, HB⟩ := hcut
      cases kq with
      | zero => exact absurd HA.out (by simp [erasure_Repair.j0])
      | succ kj6 =>
        have H := HA.out
        clear HA
        simp only [erasure_Repair.j0] at H
        by_cases c16 : x31_6 = true
        · subst c16
          have H1 : (none) = some (r1, r2, r3) := by rw [if_pos rfl] at H; exact H
          clear H
          have H := H1
          clear H1
          exact absurd H (by simp)
        · replace c16 := Bool.eq_false_iff.mpr c16
          subst c16
          have H1 : ((erasure_Encode.f kj6 a0_0 a0_1 t329).bind fun bt331 => (if bt331.2 = 0 then (if 0 ≤ a3 then (if a3 < (bt331.1.length : Int) then (some ((rd_T41 bt331.1 a3).f0, (rd_T41 bt331.1 a3).f1, 0)) else (none)) else (none)) else (none))) = some (r1, r2, r3) := by rw [if_neg (show ¬ (false = true) by decide)] at H; exact H
          clear H
          have H := H1
          clear H1
          replace H := Option.bind_eq_some_iff.mp H
          obtain ⟨⟨t331, t334⟩, A170, H⟩ := H
          replace H : (if t334 = 0 then (if 0 ≤ a3 then (if a3 < (t331.length : Int) then (some ((rd_T41 t331 a3).f0, (rd_T41 t331 a3).f1, 0)) else (none)) else (none)) else (none)) = some (r1, r2, r3) := H
          have A17 := Aside0.mk A170
          clear A170
          by_cases c18 : t334 = 0
          · rw [if_pos c18] at H
            have c18b0 : (t334 == 0) = true := beq_iff_eq.mpr c18
            have c18b1 : (t334 != 0) = false := bne_eq_false_iff_eq.mpr c18
            clear c18
            by_cases c19 : 0 ≤ a3
            · rw [if_pos c19] at H
              have c19b0 : decide (0 ≤ a3) = true := decide_eq_true c19
              clear c19
              by_cases c20 : a3 < (t331.length : Int)
              · rw [if_pos c20] at H
                have c20b0 : decide (a3 < (t331.length : Int)) = true := decide_eq_true c20
                clear c20
                simp only [Option.some.injEq, Prod.mk.injEq] at H
                obtain ⟨rfl, rfl, rfl⟩ := H
                have hnb21 := NB327_328.out
                have hnc21 := NB328_327.out
                have hcz22_0 : wc.cell? ⟨gb327, 0, none⟩ = some (.int .i64 a0_0) := (blk_cell BK327.out 0).trans rfl
                have hcz22_1 : wc.cell? ⟨gb327, 1, none⟩ = some (.int .i64 a0_1) := (blk_cell BK327.out 1).trans rfl
                have hfz22_0 := blk_frozen BK327.out 0
                have hfz22_1 := blk_frozen BK327.out 1
                go_wp2_with (((with_reducible refine gate_callee (f := 22) rfl ?_); refine goesL_ (some 36) rfl rfl Try.func22 (by kernel_rfl) rfl #[.agg #[.int .i64 a0_0, .int .i64 a0_1], .string t329] rfl (by ((simp only [List.map_toArray, List.map_cons, List.map_nil])); (rfl)) ?_; (with_reducible refine (erasure_Encode.calls kj6 a0_0 a0_1 t329 t331 t334 _ A17.out).mono ?_); rintro e w23 ⟨v332, rfl, ho0, hb⟩; refine ⟨_, rfl, ?_⟩; have n0_ := Aside0.mk (Kd.R_lower (Kd.R_newB ho0 (g := gb328) (o := .cells #[.int .i64 0, .string (⟨#[]⟩ : ByteArray)] 41 (0, 0)) (by exact BK328.out)) (below_size HB.out)); have n1_ := Aside0.mk (blk_below (g := gb327) (o := .cells #[.int .i64 a0_0, .int .i64 a0_1] 30 (0, 0)) (by exact BK327.out) hb); have n2_ := Aside0.mk (blk_below (g := gb328) (o := .cells #[.int .i64 0, .string (⟨#[]⟩ : ByteArray)] 41 (0, 0)) (by exact BK328.out) hb); have n3_ := Aside0.mk (below_step HB.out hb); clear BK327 BK328 HB; have HO333 := n0_; have BK327 := n1_; have BK328 := n2_; have HB := n3_; clear n0_ n1_ n2_ n3_; clear hb; clear ho0; obtain ⟨Ao24, co24, eo24⟩ := Kd.R_slice HO333.out; subst eo24; have p335 : 0 ≤ (a3 : Int) := of_decide_eq_true (by (with_reducible assumption)); have q335 : a3 < (t331.length : Int) := of_decide_eq_true (by (with_reducible assumption)); obtain ⟨ad335, e335, hx335_0, hx335_1⟩ := at_T41 (Kd.R_reads' HO333.out).2.2 a3 p335 q335; cases e335; replace p335 := eq_true p335; replace q335 := eq_true q335; have hcz25_0 : w23.cell? ⟨gb328, 0, none⟩ = some (.int .i64 0) := (blk_cell BK328.out 0).trans rfl; have hcz25_1 : w23.cell? ⟨gb328, 1, none⟩ = some (.string (⟨#[]⟩ : ByteArray)) := (blk_cell BK328.out 1).trans rfl; have hfz25_0 := blk_frozen BK328.out 0; have hfz25_1 := blk_frozen BK328.out 1))
                refine bodyPost_ret (results_ct rfl _ _ gb328 41 #[.int .i64 ((rd_T41 t331 a3).f0), .string ((rd_T41 t331 a3).f1)] (0, 0) _ rfl (by refine blk_put (cs := #[.int .i64 ((rd_T41 t331 a3).f0), .string (⟨#[]⟩ : ByteArray)]) ?_ 1 _ rfl; refine blk_put (cs := #[.int .i64 0, .string (⟨#[]⟩ : ByteArray)]) ?_ 0 _ rfl; exact BK328.out) Try.underlying41 rfl (by kernel_rfl)) rfl ?_
                exact ⟨by (rfl), by repeat ((with_reducible first | exact HB.out | refine below_set ?_ GE328.out))⟩
              · rw [if_neg c20] at H
                exact absurd H (by simp)
            · rw [if_neg c19] at H
              exact absurd H (by simp)
          · rw [if_neg c18] at H
            have c18b0 : (t334 == 0) = false := beq_eq_false_iff_ne.mpr c18
            have c18b1 : (t334 != 0) = true := bne_iff_ne.mpr c18
            exact absurd H (by simp)
  · rw [if_neg c6] at H
    have c6b0 : (t330 == 0) = false := beq_eq_false_iff_ne.mpr c6
    have c6b1 : (t330 != 0) = true := bne_iff_ne.mpr c6
    exact absurd H (by simp)

end Go.Proofs.Ythfddndmhjkeiaa.L
end
section
-- Printed for this claim by a small program of the session's own, drv.py, round the kit's print.py. Lean checks it.
namespace Go.Proofs.Ythfddndmhjkeiaa.L
open Go.RowKit Go.Proofs.YthfddndmhjkeiaaW.PrintWords Go.Proofs.YthfddndmhjkeiaaW.PrintLast Go.Proofs.YthfddndmhjkeiaaW.PrintMore
attribute [local go_sem] max2_int min2_int max_two min_two max_three min_three max_four min_four   -- for this text's walks alone
set_option linter.unusedVariables false
set_option linter.unusedSimpArgs false

/-! ### stripe_Repair: function 17 -/
def stripe_Repair.j0 : Nat → List (S41) → Int → Bool → Int → Int → Int → List Int → Option (Int × ByteArray × Int)
  | 0, _, _, _, _, _, _, _ => none
  | k + 1, x1, x2, x25, x337000, x337001, x337002, x337003 => if x25 = true then (none) else ((stripe_kept.f x337000 x337001 x337002 x337003 x1).bind fun t339 => ((erasure_Repair.f k x337000 x337001 x337002 t339 x2).bind fun bt342 => (if bt342.2.2 = 0 then ((stripe_right.f k x337000 x337001 x337002 x337003 bt342.1 bt342.2.1).bind fun t346 => (if t346 = true then (some (bt342.1, bt342.2.1, 0)) else (none))) else (none))))
def stripe_Repair.f (k : Nat) (a0_0 : Int) (a0_1 : Int) (a0_2 : Int) (l0_3 : List Int) (l1 : List (S41)) (a2 : Int) : Option (Int × ByteArray × Int) := (stripe_Check.f a0_0 a0_1 a0_2 l0_3).bind fun t338 => (if t338 = 0 then (if a2 < 0 then (stripe_Repair.j0 k l1 a2 true a0_0 a0_1 a0_2 l0_3) else (stripe_Repair.j0 k l1 a2 (decide (a2 ≥ a0_1)) a0_0 a0_1 a0_2 l0_3)) else (none))
theorem stripe_Repair.mono_l : ∀ k, (∀ y0 y1 y2 y3 y4 y5 y6, LeO (stripe_Repair.j0 k y0 y1 y2 y3 y4 y5 y6) (stripe_Repair.j0 (k + 1) y0 y1 y2 y3 y4 y5 y6))
  | 0 => fun _ _ _ _ _ _ _ r h => by simp [stripe_Repair.j0] at h
  | k + 1 => by
    have ih0 := stripe_Repair.mono_l k
    · intro y0 y1 y2 y3 y4 y5 y6
      unfold stripe_Repair.j0
      repeat' first | (with_reducible exact erasure_Repair.mono _ _ _ _ _ _) | (with_reducible exact stripe_right.mono _ _ _ _ _ _ _) | (with_reducible exact LeO.refl _) | (with_reducible refine LeO.ite ?_ ?_) | (with_reducible refine LeO.bind ?_ (fun _ => ?_))
theorem stripe_Repair.mono : ∀ a0 a1 a2 a3 a4 a5 k, LeO (stripe_Repair.f k a0 a1 a2 a3 a4 a5) (stripe_Repair.f (k + 1) a0 a1 a2 a3 a4 a5) := by
  intro a0 a1 a2 a3 a4 a5 k
  have ih0 := stripe_Repair.mono_l k
  unfold stripe_Repair.f
  repeat' first | (with_reducible exact ih0 _ _ _ _ _ _ _) | (with_reducible exact LeO.refl _) | (with_reducible refine LeO.ite ?_ ?_) | (with_reducible refine LeO.bind ?_ (fun _ => ?_))
def stripe_Repair.T6 : Bool × List (List Nat × List Nat) := (true, [([], []), ([0], [0]), ([], []), ([2], [2]), ([], []), ([], []), ([4, 5], [4, 5]), ([], []), ([1, 3, 6, 7, 6], [1, 3, 6, 7]), ([8], [8]), ([9], [9]), ([9], [9]), ([], []), ([12, 10, 8, 0, 1, 2, 3, 4, 5, 6, 7, 8, 9, 10, 12], [10, 12]), ([11, 13, 0, 1, 2, 3, 4, 5, 6, 7, 8, 9, 10, 11, 12, 13], [11])])
def stripe_Repair.B6 : List Nat := [0, 1, 0, 4, 0, 0, 48, 0, 255, 511, 1023, 1023, 0, 6143, 16383]
theorem stripe_Repair.tab6 : rtab .any (opsOf Try.f17 6) = stripe_Repair.T6 := by kernel_rfl
theorem stripe_Repair.bits6 : waitsOk stripe_Repair.T6.2 stripe_Repair.B6 = true := by kernel_rfl
set_option maxHeartbeats 8000000 in
set_option maxRecDepth 100000 in
theorem stripe_Repair.calls (k : Nat) (a0_0 : Int) (a0_1 : Int) (a0_2 : Int) (A0_3 : Option Addr) (c0_3 : Nat) (l0_3 : List Int) (A1 : Option Addr) (c1 : Nat) (l1 : List (S41)) (a2 : Int) (r1 : Int) (r2 : ByteArray) (r3 : Int) (w : World) (hr0_3 : Kd.C (Kd.int .i64) w A0_3 l0_3.length l0_3) (hc0_3 : l0_3.length ≤ c0_3) (hr1 : Kd.C k41 w A1 l1.length l1) (hc1 : l1.length ≤ c1) (h : stripe_Repair.f k a0_0 a0_1 a0_2 l0_3 l1 a2 = some (r1, r2, r3)) :
    Calls Try.prog 17 #[.agg #[.int .i64 a0_0, .int .i64 a0_1, .int .i64 a0_2, .slice A0_3 l0_3.length c0_3], .slice A1 l1.length c1, .int .i64 a2] w fun e w' => e = .returned (.tuple #[.agg #[.int .i64 r1, .string r2], .int .i64 r3]) ∧ Below w.heap.size w w' := by
  have hu34 := Try.underlying34
  have hu41 := Try.underlying41
  have hu30 := Try.underlying30
  have HR0_3 := Aside0.mk hr0_3
  have HC0_3 := Aside0.mk hc0_3
  clear hr0_3 hc0_3
  have HR1 := Aside0.mk hr1
  have HC1 := Aside0.mk hc1
  clear hr1 hc1
  have HB := Aside0.mk (Below.refl w.heap.size w)
  have H : ((stripe_Check.f a0_0 a0_1 a0_2 l0_3).bind fun t338 => (if t338 = 0 then (if a2 < 0 then (stripe_Repair.j0 k l1 a2 true a0_0 a0_1 a0_2 l0_3) else (stripe_Repair.j0 k l1 a2 (decide (a2 ≥ a0_1)) a0_0 a0_1 a0_2 l0_3)) else (none))) = some (r1, r2, r3) := h
  clear h
  replace H := Option.bind_eq_some_iff.mp H
  obtain ⟨t338, A40, H⟩ := H
  replace H : (if t338 = 0 then (if a2 < 0 then (stripe_Repair.j0 k l1 a2 true a0_0 a0_1 a0_2 l0_3) else (stripe_Repair.j0 k l1 a2 (decide (a2 ≥ a0_1)) a0_0 a0_1 a0_2 l0_3)) else (none)) = some (r1, r2, r3) := H
  have A4 := Aside0.mk A40
  clear A40
  by_cases c5 : t338 = 0
  · rw [if_pos c5] at H
    have c5b0 : (t338 == 0) = true := beq_iff_eq.mpr c5
    have c5b1 : (t338 != 0) = false := bne_eq_false_iff_eq.mpr c5
    clear c5
    have HC6 := Aside0.mk H
    clear H
    go_enter Try.func17, Try.ntmps17
    go_upto_region 4 with (first | ((with_reducible refine gate_dst (N := 3) rfl ?_); refine box_event ?hg (N := 3) ?hd (cs := #[.int .i64 a0_0, .int .i64 a0_1, .int .i64 a0_2, .slice A0_3 l0_3.length c0_3]) (t := 34) ?hr ?_; (case hd => rfl); (case hg => rfl); (case hr => (go_simp; done)); intro gb336 hg w7 hbox hb; have n0_ := Aside0.mk (below_step HB.out hb); have n1_ := Aside0.mk (hbox); have n2_ := Aside0.mk ((by rw [hg]; exact (below_size HB.out) : w.heap.size ≤ gb336)); have n3_ := Aside0.mk ((by rw [hg]; exact (below_size HB.out) : w.heap.size ≤ gb336)); clear HB; have HB := n0_; have BK336 := n1_; have GW336 := n2_; have GE336 := n3_; clear n0_ n1_ n2_ n3_; clear hb hbox hg) | ((with_reducible refine gate_dst (N := 6) rfl ?_); refine box_event ?hg (N := 6) ?hd (cs := #[.int .i64 0, .string (⟨#[]⟩ : ByteArray)]) (t := 41) ?hr ?_; (case hd => rfl); (case hg => rfl); (case hr => (go_simp; done)); intro gb337 hg w8 hbox hb; have n0_ := Aside0.mk (blk_below (g := gb336) (o := .cells #[.int .i64 a0_0, .int .i64 a0_1, .int .i64 a0_2, .slice A0_3 l0_3.length c0_3] 34 (0, 0)) (by exact BK336.out) hb); have n1_ := Aside0.mk (below_step HB.out hb); have n2_ := Aside0.mk (hbox); have n3_ := Aside0.mk ((by rw [hg]; exact (below_size HB.out) : w.heap.size ≤ gb337)); have n4_ := Aside0.mk ((by rw [hg]; exact (below_size HB.out) : w.heap.size ≤ gb337)); have n5_ := Aside0.mk ((by rw [hg]; exact Nat.ne_of_lt (blk_lt (g := gb336) (o := .cells #[.int .i64 a0_0, .int .i64 a0_1, .int .i64 a0_2, .slice A0_3 l0_3.length c0_3] 34 (0, 0)) (by exact BK336.out)) : gb336 ≠ gb337)); have n6_ := Aside0.mk ((by rw [hg]; exact Nat.ne_of_gt (blk_lt (g := gb336) (o := .cells #[.int .i64 a0_0, .int .i64 a0_1, .int .i64 a0_2, .slice A0_3 l0_3.length c0_3] 34 (0, 0)) (by exact BK336.out)) : gb337 ≠ gb336)); clear BK336 HB; have BK336 := n0_; have HB := n1_; have BK337 := n2_; have GW337 := n3_; have GE337 := n4_; have NB336_337 := n5_; have NB337_336 := n6_; clear n0_ n1_ n2_ n3_ n4_ n5_ n6_; clear hb hbox hg; have hnb9 := NB336_337.out; have hnc9 := NB337_336.out; have hcz10_0 : w8.cell? ⟨gb336, 0, none⟩ = some (.int .i64 a0_0) := (blk_cell BK336.out 0).trans rfl; have hcz10_1 : w8.cell? ⟨gb336, 1, none⟩ = some (.int .i64 a0_1) := (blk_cell BK336.out 1).trans rfl; have hcz10_2 : w8.cell? ⟨gb336, 2, none⟩ = some (.int .i64 a0_2) := (blk_cell BK336.out 2).trans rfl; have hcz10_3 : w8.cell? ⟨gb336, 3, none⟩ = some (.slice A0_3 l0_3.length c0_3) := (blk_cell BK336.out 3).trans rfl; have hfz10_0 := blk_frozen BK336.out 0; have hfz10_1 := blk_frozen BK336.out 1; have hfz10_2 := blk_frozen BK336.out 2; have hfz10_3 := blk_frozen BK336.out 3) | ((with_reducible refine gate_callee (f := 18) rfl ?_); refine goesL_ (some 12) rfl rfl Try.func18 (by kernel_rfl) rfl #[.agg #[.int .i64 a0_0, .int .i64 a0_1, .int .i64 a0_2, .slice A0_3 l0_3.length c0_3]] rfl (by ((simp only [List.map_toArray, List.map_cons, List.map_nil])); (rfl)) ?_; (with_reducible refine (stripe_Check.calls a0_0 a0_1 a0_2 _ _ l0_3 t338 _ ?side1 ?side2 A4.out).mono ?_); (case side1 => repeat ((exact (Kd.C_below HR0_3.out HB.out)))); (case side2 => exact HC0_3.out); rintro e w11 ⟨rfl, hb⟩; refine ⟨_, rfl, ?_⟩; have n0_ := Aside0.mk (blk_below (g := gb336) (o := .cells #[.int .i64 a0_0, .int .i64 a0_1, .int .i64 a0_2, .slice A0_3 l0_3.length c0_3] 34 (0, 0)) (by exact BK336.out) hb); have n1_ := Aside0.mk (blk_below (g := gb337) (o := .cells #[.int .i64 0, .string (⟨#[]⟩ : ByteArray)] 41 (0, 0)) (by exact BK337.out) hb); have n2_ := Aside0.mk (below_step HB.out hb); clear BK336 BK337 HB; have BK336 := n0_; have BK337 := n1_; have HB := n2_; clear n0_ n1_ n2_; clear hb))
    go_cut [25] (fun v25 wc => ∃ (kq : Nat) (x25_5 : Bool), v25 = .bool x25_5 ∧ Aside0 (stripe_Repair.j0 kq l1 a2 x25_5 a0_0 a0_1 a0_2 l0_3 = some (r1, r2, r3)) ∧ Aside0 (kq ≤ k) ∧ Aside0 (wc.heap[gb336]? = some (.cells #[.int .i64 a0_0, .int .i64 a0_1, .int .i64 a0_2, (.slice A0_3 l0_3.length c0_3)] 34 (0, 0))) ∧ Aside0 (wc.heap[gb337]? = some (.cells #[.int .i64 0, .string (⟨#[]⟩ : ByteArray)] 41 (0, 0))) ∧ Aside0 (Below w.heap.size w wc))
    case first =>
      have H := HC6.out
      clear HC6
      by_cases c12 : a2 < 0
      · rw [if_pos c12] at H
        have c12b0 : decide (a2 < 0) = true := decide_eq_true c12
        clear c12
        ((skip))
        have H' := Aside0.mk H
        clear H
        go_wp2
        go_meet
        case rel => exact ⟨_, (true), (by (rfl)), H', ⟨by (omega)⟩, ⟨by exact BK336.out⟩, ⟨by exact BK337.out⟩, ⟨HB.out⟩⟩
      · rw [if_neg c12] at H
        have c12b0 : decide (a2 < 0) = false := decide_eq_false c12
        clear c12
        ((skip))
        have H' := Aside0.mk H
        clear H
        have hnb13 := NB336_337.out
        have hnc13 := NB337_336.out
        have hcz14_0 : w11.cell? ⟨gb336, 0, none⟩ = some (.int .i64 a0_0) := (blk_cell BK336.out 0).trans rfl
        have hcz14_1 : w11.cell? ⟨gb336, 1, none⟩ = some (.int .i64 a0_1) := (blk_cell BK336.out 1).trans rfl
        have hcz14_2 : w11.cell? ⟨gb336, 2, none⟩ = some (.int .i64 a0_2) := (blk_cell BK336.out 2).trans rfl
        have hcz14_3 : w11.cell? ⟨gb336, 3, none⟩ = some (.slice A0_3 l0_3.length c0_3) := (blk_cell BK336.out 3).trans rfl
        have hfz14_0 := blk_frozen BK336.out 0
        have hfz14_1 := blk_frozen BK336.out 1
        have hfz14_2 := blk_frozen BK336.out 2
        have hfz14_3 := blk_frozen BK336.out 3
        go_wp2
        go_meet
        case rel => exact ⟨_, (decide (a2 ≥ a0_1)), (by (rfl)), H', ⟨by (omega)⟩, ⟨by exact BK336.out⟩, ⟨by exact BK337.out⟩, ⟨HB.out⟩⟩
    case rest =>
      clear HC6 c5b0 c5b1 hcz10_0 hcz10_1 hcz10_2 hcz10_3 hfz10_0 hfz10_1 hfz10_2 hfz10_3
      obtain ⟨kq, x25_5, rfl, HA, HJ5, BK336, BK337, HB⟩ := hcut
      cases kq with
      | zero => exact absurd HA.out (by simp [stripe_Repair.j0])
      | succ kj5 =>
        have H := HA.out
        clear HA
        simp only [stripe_Repair.j0] at H
        by_cases c15 : x25_5 = true
        · subst c15
          have H1 : (none) = some (r1, r2, r3) := by rw [if_pos rfl] at H; exact H
          clear H
          have H := H1
          clear H1
          exact absurd H (by simp)
        · replace c15 := Bool.eq_false_iff.mpr c15
          subst c15
          have H1 : ((stripe_kept.f a0_0 a0_1 a0_2 l0_3 l1).bind fun t339 => ((erasure_Repair.f kj5 a0_0 a0_1 a0_2 t339 a2).bind fun bt342 => (if bt342.2.2 = 0 then ((stripe_right.f kj5 a0_0 a0_1 a0_2 l0_3 bt342.1 bt342.2.1).bind fun t346 => (if t346 = true then (some (bt342.1, bt342.2.1, 0)) else (none))) else (none)))) = some (r1, r2, r3) := by rw [if_neg (show ¬ (false = true) by decide)] at H; exact H
          clear H
          have H := H1
          clear H1
          replace H := Option.bind_eq_some_iff.mp H
          obtain ⟨t339, A160, H⟩ := H
          replace H : ((erasure_Repair.f kj5 a0_0 a0_1 a0_2 t339 a2).bind fun bt342 => (if bt342.2.2 = 0 then ((stripe_right.f kj5 a0_0 a0_1 a0_2 l0_3 bt342.1 bt342.2.1).bind fun t346 => (if t346 = true then (some (bt342.1, bt342.2.1, 0)) else (none))) else (none))) = some (r1, r2, r3) := H
          have A16 := Aside0.mk A160
          clear A160
          replace H := Option.bind_eq_some_iff.mp H
          obtain ⟨⟨t342, t343, t344⟩, A170, H⟩ := H
          replace H : (if t344 = 0 then ((stripe_right.f kj5 a0_0 a0_1 a0_2 l0_3 t342 t343).bind fun t346 => (if t346 = true then (some (t342, t343, 0)) else (none))) else (none)) = some (r1, r2, r3) := H
          have A17 := Aside0.mk A170
          clear A170
          by_cases c18 : t344 = 0
          · rw [if_pos c18] at H
            have c18b0 : (t344 == 0) = true := beq_iff_eq.mpr c18
            have c18b1 : (t344 != 0) = false := bne_eq_false_iff_eq.mpr c18
            clear c18
            replace H := Option.bind_eq_some_iff.mp H
            obtain ⟨t346, A190, H⟩ := H
            replace H : (if t346 = true then (some (t342, t343, 0)) else (none)) = some (r1, r2, r3) := H
            have A19 := Aside0.mk A190
            clear A190
            by_cases c20 : t346 = true
            · subst c20
              have H1 : (some (t342, t343, 0)) = some (r1, r2, r3) := by rw [if_pos rfl] at H; exact H
              clear H
              have H := H1
              clear H1
              simp only [Option.some.injEq, Prod.mk.injEq] at H
              obtain ⟨rfl, rfl, rfl⟩ := H
              (go_wp2)
              have n0_ := Aside0.mk (blk_drew BK336.out)
              have n1_ := Aside0.mk (blk_drew BK337.out)
              have n2_ := Aside0.mk (below_drew1 HB.out)
              clear BK336 BK337 HB
              have BK336 := n0_
              have BK337 := n1_
              have HB := n2_
              clear n0_ n1_ n2_
              refine start_ (n := 15) (S := fun w' => w'.cell? ⟨gb336, 0, none⟩ = some (.int .i64 a0_0) ∧ w'.cell? ⟨gb336, 1, none⟩ = some (.int .i64 a0_1) ∧ w'.cell? ⟨gb336, 2, none⟩ = some (.int .i64 a0_2) ∧ w'.cell? ⟨gb336, 3, none⟩ = some (.slice A0_3 l0_3.length c0_3)) (ds := []) #[false, false, false, false, false, false, false, false, false, false, false, false, false, false, false] (by kernel_rfl) rfl rfl ⟨(blk_cell BK336.out 0).trans rfl, (blk_cell BK336.out 1).trans rfl, (blk_cell BK336.out 2).trans rfl, (blk_cell BK336.out 3).trans rfl⟩ (fun hHeld => ?_); refine with_tabW stripe_Repair.tab6 stripe_Repair.bits6 (fun HT_ HW_ => ?_)
              generalize wc.drew = w21 at BK336 BK337 HB hHeld ⊢
              refine pure_ (i := 0) (N := some 28) (v := ?_) (a' := ?_) #[true, false, false, false, false, false, false, false, false, false, false, false, false, false, false] rfl rfl (any_of HT_.out (by kernel_rfl)) (fun _ _ _ h => h) (Or.inl ⟨by rfl, ?_⟩) ?_ ?_
              rotate_left
              · intro w'
                go_simp
                with_reducible rfl
              rotate_left
              · simp only [Act.put, List.setIfInBounds_toArray, List.set_cons_zero, List.set_cons_succ, i64_w, i32_w]
                rfl
              refine pure_ (i := 2) (N := some 30) (v := ?_) (a' := ?_) #[true, false, true, false, false, false, false, false, false, false, false, false, false, false, false] rfl rfl (any_of HT_.out (by kernel_rfl)) (fun _ _ _ h => h) (Or.inl ⟨by rfl, ?_⟩) ?_ ?_
              rotate_left
              · intro w'
                go_simp
                with_reducible rfl
              rotate_left
              · simp only [Act.put, List.setIfInBounds_toArray, List.set_cons_zero, List.set_cons_succ, i64_w, i32_w]
                rfl
              refine pure_ (i := 5) (N := some 33) (v := ?_) (a' := ?_) #[true, false, true, false, false, true, false, false, false, false, false, false, false, false, false] rfl rfl (any_of HT_.out (by kernel_rfl)) (fun _ _ _ h => h) (Or.inl ⟨by rfl, ?_⟩) ?_ ?_
              rotate_left
              · intro w'
                go_simp
                with_reducible rfl
              rotate_left
              · simp only [Act.put, List.setIfInBounds_toArray, List.set_cons_zero, List.set_cons_succ, i64_w, i32_w]
                rfl
              refine pure_ (i := 7) (N := some 35) (v := ?_) (a' := ?_) #[true, false, true, false, false, true, false, true, false, false, false, false, false, false, false] rfl rfl (any_of HT_.out (by kernel_rfl)) (fun _ _ _ h => h) (Or.inl ⟨by rfl, ?_⟩) ?_ ?_
              rotate_left
              · intro w'
                go_simp
                with_reducible rfl
              rotate_left
              · simp only [Act.put, List.setIfInBounds_toArray, List.set_cons_zero, List.set_cons_succ, i64_w, i32_w]
                rfl
              refine take_ (i := 1) (N := some 29) (v := ?_) (a' := ?_) #[true, true, true, false, false, true, false, true, false, false, false, false, false, false, false] rfl rfl (take_ofW HT_.out HW_.out (by kernel_rfl)) (fun _ _ _ h => h) (Or.inl ⟨by rfl, ?_⟩) hHeld ?_ ?_
              rotate_left
              · rintro w' ⟨s0, s1, s2, s3⟩
                go_simp
                with_reducible rfl
              rotate_left
              · simp only [Act.put, List.setIfInBounds_toArray, List.set_cons_zero, List.set_cons_succ, i64_w, i32_w]
                rfl
              refine take_ (i := 3) (N := some 31) (v := ?_) (a' := ?_) #[true, true, true, true, false, true, false, true, false, false, false, false, false, false, false] rfl rfl (take_ofW HT_.out HW_.out (by kernel_rfl)) (fun _ _ _ h => h) (Or.inl ⟨by rfl, ?_⟩) hHeld ?_ ?_
              rotate_left
              · rintro w' ⟨s0, s1, s2, s3⟩
                go_simp
                with_reducible rfl
              rotate_left
              · simp only [Act.put, List.setIfInBounds_toArray, List.set_cons_zero, List.set_cons_succ, i64_w, i32_w]
                rfl
              refine take_ (i := 4) (N := some 32) (v := ?_) (a' := ?_) #[true, true, true, true, true, true, false, true, false, false, false, false, false, false, false] rfl rfl (take_ofW HT_.out HW_.out (by kernel_rfl)) (fun _ _ _ h => h) (Or.inl ⟨by rfl, ?_⟩) hHeld ?_ ?_
              rotate_left
              · rintro w' ⟨s0, s1, s2, s3⟩
                go_simp
                with_reducible rfl
              rotate_left
              · simp only [Act.put, List.setIfInBounds_toArray, List.set_cons_zero, List.set_cons_succ, i64_w, i32_w]
                rfl
              refine join_ (σ := Value × Nat) 2 #[true, true, true, true, true, true, true, true, true, true, true, true, true, false, false] (fun s_ => [(34, s_.1), (36, .tuple #[.agg #[.int .i64 t342, .string t343], .int .i64 t344]), (9, .pointer (some ⟨s_.2, 0, none⟩)), (27, .tuple #[.agg #[.int .i64 t342, .string t343], .int .i64 t344]), (37, .agg #[.int .i64 t342, .string t343]), (38, .int .i64 t344)]) (fun s_ w' => (w'.cell? ⟨gb336, 0, none⟩ = some (.int .i64 a0_0) ∧ w'.cell? ⟨gb336, 1, none⟩ = some (.int .i64 a0_1) ∧ w'.cell? ⟨gb336, 2, none⟩ = some (.int .i64 a0_2) ∧ w'.cell? ⟨gb336, 3, none⟩ = some (.slice A0_3 l0_3.length c0_3)) ∧ (Kd.R k41 41 w' w.heap.size (fun k_ => k_ ≠ gb337 ∧ k_ ≠ s_.2) s_.1 t339) ∧ (w'.heap[gb336]? = some (.cells #[.int .i64 a0_0, .int .i64 a0_1, .int .i64 a0_2, .slice A0_3 l0_3.length c0_3] 34 (0, 0))) ∧ (w'.heap[gb337]? = some (.cells #[.int .i64 0, .string (⟨#[]⟩ : ByteArray)] 41 (0, 0))) ∧ (w'.heap[s_.2]? = some (.cells #[.int .i64 0, .string (⟨#[]⟩ : ByteArray)] 41 (0, 0))) ∧ (w.heap.size ≤ s_.2) ∧ (w.heap.size ≤ s_.2) ∧ (gb336 ≠ s_.2) ∧ (s_.2 ≠ gb336) ∧ (gb337 ≠ s_.2) ∧ (s_.2 ≠ gb337) ∧ (Below w.heap.size w w')) ?_ ?_
              rotate_left
              · intro hCont
                refine two_ (i := 6) (j := 12) (Ni := some 34) (Nj := some 9) #[true, true, true, true, true, true, true, true, false, false, false, false, false, false, false] #[true, true, true, true, true, true, false, true, false, false, false, false, true, false, false] rfl rfl rfl rfl (two_of HT_.out (by kernel_rfl)) (by decide) (by decide) (fun K hK => ?_) (fun K hK => ?_)
                · skip
                  refine goes_ Try.func26 (by kernel_rfl) rfl #[.agg #[.int .i64 a0_0, .int .i64 a0_1, .int .i64 a0_2, .slice A0_3 l0_3.length c0_3], .slice A1 l1.length c1] (by rfl) rfl rfl (by ((simp only [List.map_toArray, List.map_cons, List.map_nil])); (rfl)) ?_
                  with_reducible refine (stripe_kept.calls a0_0 a0_1 a0_2 _ _ l0_3 _ _ l1 t339 _ ?side1 ?side2 ?side3 ?side4 A16.out).mono ?_
                  (case side1 => repeat ((exact (Kd.C_below HR0_3.out HB.out))))
                  (case side2 => exact HC0_3.out)
                  (case side3 => repeat ((exact (Kd.C_below HR1.out HB.out))))
                  (case side4 => exact HC1.out)
                  rintro e w22 ⟨v340, rfl, ho0, hb⟩
                  refine ⟨_, rfl, ?_⟩
                  have n0_ := Aside0.mk (Kd.R_lower (Kd.R_newB ho0 (g := gb337) (o := .cells #[.int .i64 0, .string (⟨#[]⟩ : ByteArray)] 41 (0, 0)) (by exact BK337.out)) (below_size HB.out))
                  have n1_ := Aside0.mk (blk_below (g := gb336) (o := .cells #[.int .i64 a0_0, .int .i64 a0_1, .int .i64 a0_2, .slice A0_3 l0_3.length c0_3] 34 (0, 0)) (by exact BK336.out) hb)
                  have n2_ := Aside0.mk (blk_below (g := gb337) (o := .cells #[.int .i64 0, .string (⟨#[]⟩ : ByteArray)] 41 (0, 0)) (by exact BK337.out) hb)
                  have n3_ := Aside0.mk (below_step HB.out hb)
                  clear BK336 BK337 HB
                  have HO341 := n0_
                  have BK336 := n1_
                  have BK337 := n2_
                  have HB := n3_
                  clear n0_ n1_ n2_ n3_
                  ((clear hb))
                  ((clear ho0))
                  obtain ⟨Ao23, co23, eo23⟩ := Kd.R_slice HO341.out
                  ((subst eo23))
                  refine hK.out _ _ ⟨(blk_cell BK336.out 0).trans rfl, (blk_cell BK336.out 1).trans rfl, (blk_cell BK336.out 2).trans rfl, (blk_cell BK336.out 3).trans rfl⟩ (fun hHeld => ?_)
                  clear hK K
                  refine norm_ (a' := ?_) ?_ ?_
                  rotate_left
                  · show Act.put _ (some 34) _ = _
                    simp only [Act.put, List.setIfInBounds_toArray, List.set_cons_zero, List.set_cons_succ, i64_w, i32_w]
                    rfl
                  refine two_ (i := 8) (j := 12) (Ni := some 36) (Nj := some 9) #[true, true, true, true, true, true, true, true, true, false, false, false, false, false, false] #[true, true, true, true, true, true, true, true, false, false, false, false, true, false, false] rfl rfl rfl rfl (two_of HT_.out (by kernel_rfl)) (by decide) (by decide) (fun K hK => ?_) (fun K hK => ?_)
                  · skip
                    refine goes_ Try.func29 (by kernel_rfl) rfl #[.agg #[.int .i64 a0_0, .int .i64 a0_1], .int .i64 a0_2, .slice Ao23 t339.length co23, .int .i64 a2] (by rfl) rfl rfl (by ((simp only [List.map_toArray, List.map_cons, List.map_nil])); (rfl)) ?_
                    with_reducible refine (erasure_Repair.calls kj5 a0_0 a0_1 a0_2 _ _ t339 a2 t342 t343 t344 _ ?side1 ?side2 A17.out).mono ?_
                    (case side1 => repeat ((exact (Kd.R_reads' HO341.out).2.2)))
                    (case side2 => exact (Kd.R_reads' HO341.out).2.1)
                    rintro e w24 ⟨rfl, hb⟩
                    refine ⟨_, rfl, ?_⟩
                    have n0_ := Aside0.mk (Kd.R_below (by exact HO341.out) hb)
                    have n1_ := Aside0.mk (blk_below (g := gb336) (o := .cells #[.int .i64 a0_0, .int .i64 a0_1, .int .i64 a0_2, .slice A0_3 l0_3.length c0_3] 34 (0, 0)) (by exact BK336.out) hb)
                    have n2_ := Aside0.mk (blk_below (g := gb337) (o := .cells #[.int .i64 0, .string (⟨#[]⟩ : ByteArray)] 41 (0, 0)) (by exact BK337.out) hb)
                    have n3_ := Aside0.mk (below_step HB.out hb)
                    clear HO341 BK336 BK337 HB
                    have HO341 := n0_
                    have BK336 := n1_
                    have BK337 := n2_
                    have HB := n3_
                    clear n0_ n1_ n2_ n3_
                    ((clear hb))
                    refine hK.out _ _ ⟨(blk_cell BK336.out 0).trans rfl, (blk_cell BK336.out 1).trans rfl, (blk_cell BK336.out 2).trans rfl, (blk_cell BK336.out 3).trans rfl⟩ (fun hHeld => ?_)
                    clear hK K
                    refine norm_ (a' := ?_) ?_ ?_
                    rotate_left
                    · show Act.put _ (some 36) _ = _
                      simp only [Act.put, List.setIfInBounds_toArray, List.set_cons_zero, List.set_cons_succ, i64_w, i32_w]
                      rfl
                    refine pure_ (i := 9) (N := some 27) (v := ?_) (a' := ?_) #[true, true, true, true, true, true, true, true, true, true, false, false, false, false, false] rfl rfl (any_of HT_.out (by kernel_rfl)) (fun _ _ _ h => h) (Or.inl ⟨by rfl, ?_⟩) ?_ ?_
                    rotate_left
                    · intro w'
                      go_simp
                      with_reducible rfl
                    rotate_left
                    · simp only [Act.put, List.setIfInBounds_toArray, List.set_cons_zero, List.set_cons_succ, i64_w, i32_w]
                      rfl
                    refine pure_ (i := 10) (N := some 37) (v := ?_) (a' := ?_) #[true, true, true, true, true, true, true, true, true, true, true, false, false, false, false] rfl rfl (any_of HT_.out (by kernel_rfl)) (fun _ _ _ h => h) (Or.inl ⟨by rfl, ?_⟩) ?_ ?_
                    rotate_left
                    · intro w'
                      go_simp
                      with_reducible rfl
                    rotate_left
                    · simp only [Act.put, List.setIfInBounds_toArray, List.set_cons_zero, List.set_cons_succ, i64_w, i32_w]
                      rfl
                    refine pure_ (i := 11) (N := some 38) (v := ?_) (a' := ?_) #[true, true, true, true, true, true, true, true, true, true, true, true, false, false, false] rfl rfl (any_of HT_.out (by kernel_rfl)) (fun _ _ _ h => h) (Or.inl ⟨by rfl, ?_⟩) ?_ ?_
                    rotate_left
                    · intro w'
                      go_simp
                      with_reducible rfl
                    rotate_left
                    · simp only [Act.put, List.setIfInBounds_toArray, List.set_cons_zero, List.set_cons_succ, i64_w, i32_w]
                      rfl
                    refine one_ (i := 12) (N := some 9) #[true, true, true, true, true, true, true, true, true, true, true, true, true, false, false] rfl rfl (one_of HT_.out (by kernel_rfl)) (by decide) (fun K hK => ?_)
                    refine box_step ?hg (N := 9) ?hd (cs := #[.int .i64 0, .string (⟨#[]⟩ : ByteArray)]) (t := 41) ?hr ?_; (case hd => rfl); (case hg => rfl); (case hr => (go_simp; done))
                    intro gb345 hg w25 hbox hb
                    have n0_ := Aside0.mk (Kd.R_below (Kd.R_elderB (by exact HO341.out) gb345 (Nat.le_of_eq hg.symm)) hb)
                    have n1_ := Aside0.mk (blk_below (g := gb336) (o := .cells #[.int .i64 a0_0, .int .i64 a0_1, .int .i64 a0_2, .slice A0_3 l0_3.length c0_3] 34 (0, 0)) (by exact BK336.out) hb)
                    have n2_ := Aside0.mk (blk_below (g := gb337) (o := .cells #[.int .i64 0, .string (⟨#[]⟩ : ByteArray)] 41 (0, 0)) (by exact BK337.out) hb)
                    have n3_ := Aside0.mk (below_step HB.out hb)
                    have n4_ := Aside0.mk (hbox)
                    have n5_ := Aside0.mk ((by rw [hg]; exact (below_size HB.out) : w.heap.size ≤ gb345))
                    have n6_ := Aside0.mk ((by rw [hg]; exact (below_size HB.out) : w.heap.size ≤ gb345))
                    have n7_ := Aside0.mk ((by rw [hg]; exact Nat.ne_of_lt (blk_lt (g := gb336) (o := .cells #[.int .i64 a0_0, .int .i64 a0_1, .int .i64 a0_2, .slice A0_3 l0_3.length c0_3] 34 (0, 0)) (by exact BK336.out)) : gb336 ≠ gb345))
                    have n8_ := Aside0.mk ((by rw [hg]; exact Nat.ne_of_gt (blk_lt (g := gb336) (o := .cells #[.int .i64 a0_0, .int .i64 a0_1, .int .i64 a0_2, .slice A0_3 l0_3.length c0_3] 34 (0, 0)) (by exact BK336.out)) : gb345 ≠ gb336))
                    have n9_ := Aside0.mk ((by rw [hg]; exact Nat.ne_of_lt (blk_lt (g := gb337) (o := .cells #[.int .i64 0, .string (⟨#[]⟩ : ByteArray)] 41 (0, 0)) (by exact BK337.out)) : gb337 ≠ gb345))
                    have n10_ := Aside0.mk ((by rw [hg]; exact Nat.ne_of_gt (blk_lt (g := gb337) (o := .cells #[.int .i64 0, .string (⟨#[]⟩ : ByteArray)] 41 (0, 0)) (by exact BK337.out)) : gb345 ≠ gb337))
                    clear HO341 BK336 BK337 HB
                    have HO341 := n0_
                    have BK336 := n1_
                    have BK337 := n2_
                    have HB := n3_
                    have BK345 := n4_
                    have GW345 := n5_
                    have GE345 := n6_
                    have NB336_345 := n7_
                    have NB345_336 := n8_
                    have NB337_345 := n9_
                    have NB345_337 := n10_
                    clear n0_ n1_ n2_ n3_ n4_ n5_ n6_ n7_ n8_ n9_ n10_ hb hbox hg
                    refine hK.out _ _ ⟨(blk_cell BK336.out 0).trans rfl, (blk_cell BK336.out 1).trans rfl, (blk_cell BK336.out 2).trans rfl, (blk_cell BK336.out 3).trans rfl⟩ (fun hHeld => ?_)
                    clear hK K
                    refine norm_ (a' := ?_) ?_ ?_
                    rotate_left
                    · show Act.put _ (some 9) _ = _
                      simp only [Act.put, List.setIfInBounds_toArray, List.set_cons_zero, List.set_cons_succ, i64_w, i32_w]
                      rfl
                    exact norm_ (by simp only [putAll, Act.put, List.setIfInBounds_toArray, List.set_cons_zero, List.set_cons_succ]) (hCont (.slice Ao23 t339.length co23, gb345) _ ⟨hHeld, (by exact Kd.R_mono HO341.out (fun _ hk => ⟨hk.1.2, hk.2⟩)), (by exact BK336.out), (by exact BK337.out), (by exact BK345.out), GW345.out, GE345.out, NB336_345.out, NB345_336.out, NB337_345.out, NB345_337.out, HB.out⟩)
                  · skip
                    refine box_step ?hg (N := 9) ?hd (cs := #[.int .i64 0, .string (⟨#[]⟩ : ByteArray)]) (t := 41) ?hr ?_; (case hd => rfl); (case hg => rfl); (case hr => (go_simp; done))
                    intro gb345 hg w23 hbox hb
                    have n0_ := Aside0.mk (Kd.R_below (Kd.R_elderB (by exact HO341.out) gb345 (Nat.le_of_eq hg.symm)) hb)
                    have n1_ := Aside0.mk (blk_below (g := gb336) (o := .cells #[.int .i64 a0_0, .int .i64 a0_1, .int .i64 a0_2, .slice A0_3 l0_3.length c0_3] 34 (0, 0)) (by exact BK336.out) hb)
                    have n2_ := Aside0.mk (blk_below (g := gb337) (o := .cells #[.int .i64 0, .string (⟨#[]⟩ : ByteArray)] 41 (0, 0)) (by exact BK337.out) hb)
                    have n3_ := Aside0.mk (below_step HB.out hb)
                    have n4_ := Aside0.mk (hbox)
                    have n5_ := Aside0.mk ((by rw [hg]; exact (below_size HB.out) : w.heap.size ≤ gb345))
                    have n6_ := Aside0.mk ((by rw [hg]; exact (below_size HB.out) : w.heap.size ≤ gb345))
                    have n7_ := Aside0.mk ((by rw [hg]; exact Nat.ne_of_lt (blk_lt (g := gb336) (o := .cells #[.int .i64 a0_0, .int .i64 a0_1, .int .i64 a0_2, .slice A0_3 l0_3.length c0_3] 34 (0, 0)) (by exact BK336.out)) : gb336 ≠ gb345))
                    have n8_ := Aside0.mk ((by rw [hg]; exact Nat.ne_of_gt (blk_lt (g := gb336) (o := .cells #[.int .i64 a0_0, .int .i64 a0_1, .int .i64 a0_2, .slice A0_3 l0_3.length c0_3] 34 (0, 0)) (by exact BK336.out)) : gb345 ≠ gb336))
                    have n9_ := Aside0.mk ((by rw [hg]; exact Nat.ne_of_lt (blk_lt (g := gb337) (o := .cells #[.int .i64 0, .string (⟨#[]⟩ : ByteArray)] 41 (0, 0)) (by exact BK337.out)) : gb337 ≠ gb345))
                    have n10_ := Aside0.mk ((by rw [hg]; exact Nat.ne_of_gt (blk_lt (g := gb337) (o := .cells #[.int .i64 0, .string (⟨#[]⟩ : ByteArray)] 41 (0, 0)) (by exact BK337.out)) : gb345 ≠ gb337))
                    clear HO341 BK336 BK337 HB
                    have HO341 := n0_
                    have BK336 := n1_
                    have BK337 := n2_
                    have HB := n3_
                    have BK345 := n4_
                    have GW345 := n5_
                    have GE345 := n6_
                    have NB336_345 := n7_
                    have NB345_336 := n8_
                    have NB337_345 := n9_
                    have NB345_337 := n10_
                    clear n0_ n1_ n2_ n3_ n4_ n5_ n6_ n7_ n8_ n9_ n10_ hb hbox hg
                    obtain ⟨Ao24, co24, eo24⟩ := Kd.R_slice HO341.out
                    ((injection eo24 with f1_ f2_ f3_; have f4_ := f1_.symm; have f5_ := f3_.symm; clear f1_ f2_ f3_; subst f4_; subst f5_))
                    refine hK.out _ _ ⟨(blk_cell BK336.out 0).trans rfl, (blk_cell BK336.out 1).trans rfl, (blk_cell BK336.out 2).trans rfl, (blk_cell BK336.out 3).trans rfl⟩ (fun hHeld => ?_)
                    clear hK K
                    refine norm_ (a' := ?_) ?_ ?_
                    rotate_left
                    · show Act.put _ (some 9) _ = _
                      simp only [Act.put, List.setIfInBounds_toArray, List.set_cons_zero, List.set_cons_succ, i64_w, i32_w]
                      rfl
                    refine one_ (i := 8) (N := some 36) #[true, true, true, true, true, true, true, true, true, false, false, false, true, false, false] rfl rfl (one_of HT_.out (by kernel_rfl)) (by decide) (fun K hK => ?_)
                    refine goes_ Try.func29 (by kernel_rfl) rfl #[.agg #[.int .i64 a0_0, .int .i64 a0_1], .int .i64 a0_2, .slice Ao24 t339.length co24, .int .i64 a2] (by rfl) rfl rfl (by ((simp only [List.map_toArray, List.map_cons, List.map_nil])); (rfl)) ?_
                    with_reducible refine (erasure_Repair.calls kj5 a0_0 a0_1 a0_2 _ _ t339 a2 t342 t343 t344 _ ?side1 ?side2 A17.out).mono ?_
                    (case side1 => repeat ((exact (Kd.R_reads' HO341.out).2.2)))
                    (case side2 => exact (Kd.R_reads' HO341.out).2.1)
                    rintro e w25 ⟨rfl, hb⟩
                    refine ⟨_, rfl, ?_⟩
                    have n0_ := Aside0.mk (Kd.R_below (by exact HO341.out) hb)
                    have n1_ := Aside0.mk (blk_below (g := gb336) (o := .cells #[.int .i64 a0_0, .int .i64 a0_1, .int .i64 a0_2, .slice A0_3 l0_3.length c0_3] 34 (0, 0)) (by exact BK336.out) hb)
                    have n2_ := Aside0.mk (blk_below (g := gb337) (o := .cells #[.int .i64 0, .string (⟨#[]⟩ : ByteArray)] 41 (0, 0)) (by exact BK337.out) hb)
                    have n3_ := Aside0.mk (blk_below (g := gb345) (o := .cells #[.int .i64 0, .string (⟨#[]⟩ : ByteArray)] 41 (0, 0)) (by exact BK345.out) hb)
                    have n4_ := Aside0.mk (below_step HB.out hb)
                    clear HO341 BK336 BK337 BK345 HB
                    have HO341 := n0_
                    have BK336 := n1_
                    have BK337 := n2_
                    have BK345 := n3_
                    have HB := n4_
                    clear n0_ n1_ n2_ n3_ n4_
                    ((clear hb))
                    refine hK.out _ _ ⟨(blk_cell BK336.out 0).trans rfl, (blk_cell BK336.out 1).trans rfl, (blk_cell BK336.out 2).trans rfl, (blk_cell BK336.out 3).trans rfl⟩ (fun hHeld => ?_)
                    clear hK K
                    refine norm_ (a' := ?_) ?_ ?_
                    rotate_left
                    · show Act.put _ (some 36) _ = _
                      simp only [Act.put, List.setIfInBounds_toArray, List.set_cons_zero, List.set_cons_succ, i64_w, i32_w]
                      rfl
                    refine pure_ (i := 9) (N := some 27) (v := ?_) (a' := ?_) #[true, true, true, true, true, true, true, true, true, true, false, false, true, false, false] rfl rfl (any_of HT_.out (by kernel_rfl)) (fun _ _ _ h => h) (Or.inl ⟨by rfl, ?_⟩) ?_ ?_
                    rotate_left
                    · intro w'
                      go_simp
                      with_reducible rfl
                    rotate_left
                    · simp only [Act.put, List.setIfInBounds_toArray, List.set_cons_zero, List.set_cons_succ, i64_w, i32_w]
                      rfl
                    refine pure_ (i := 10) (N := some 37) (v := ?_) (a' := ?_) #[true, true, true, true, true, true, true, true, true, true, true, false, true, false, false] rfl rfl (any_of HT_.out (by kernel_rfl)) (fun _ _ _ h => h) (Or.inl ⟨by rfl, ?_⟩) ?_ ?_
                    rotate_left
                    · intro w'
                      go_simp
                      with_reducible rfl
                    rotate_left
                    · simp only [Act.put, List.setIfInBounds_toArray, List.set_cons_zero, List.set_cons_succ, i64_w, i32_w]
                      rfl
                    refine pure_ (i := 11) (N := some 38) (v := ?_) (a' := ?_) #[true, true, true, true, true, true, true, true, true, true, true, true, true, false, false] rfl rfl (any_of HT_.out (by kernel_rfl)) (fun _ _ _ h => h) (Or.inl ⟨by rfl, ?_⟩) ?_ ?_
                    rotate_left
                    · intro w'
                      go_simp
                      with_reducible rfl
                    rotate_left
                    · simp only [Act.put, List.setIfInBounds_toArray, List.set_cons_zero, List.set_cons_succ, i64_w, i32_w]
                      rfl
                    exact norm_ (by simp only [putAll, Act.put, List.setIfInBounds_toArray, List.set_cons_zero, List.set_cons_succ]) (hCont (.slice Ao24 t339.length co24, gb345) _ ⟨hHeld, (by exact Kd.R_mono HO341.out (fun _ hk => ⟨hk.1.2, hk.2⟩)), (by exact BK336.out), (by exact BK337.out), (by exact BK345.out), GW345.out, GE345.out, NB336_345.out, NB345_336.out, NB337_345.out, NB345_337.out, HB.out⟩)
                · skip
                  refine box_step ?hg (N := 9) ?hd (cs := #[.int .i64 0, .string (⟨#[]⟩ : ByteArray)]) (t := 41) ?hr ?_; (case hd => rfl); (case hg => rfl); (case hr => (go_simp; done))
                  intro gb345 hg w22 hbox hb
                  have n0_ := Aside0.mk (blk_below (g := gb336) (o := .cells #[.int .i64 a0_0, .int .i64 a0_1, .int .i64 a0_2, .slice A0_3 l0_3.length c0_3] 34 (0, 0)) (by exact BK336.out) hb)
                  have n1_ := Aside0.mk (blk_below (g := gb337) (o := .cells #[.int .i64 0, .string (⟨#[]⟩ : ByteArray)] 41 (0, 0)) (by exact BK337.out) hb)
                  have n2_ := Aside0.mk (below_step HB.out hb)
                  have n3_ := Aside0.mk (hbox)
                  have n4_ := Aside0.mk ((by rw [hg]; exact (below_size HB.out) : w.heap.size ≤ gb345))
                  have n5_ := Aside0.mk ((by rw [hg]; exact (below_size HB.out) : w.heap.size ≤ gb345))
                  have n6_ := Aside0.mk ((by rw [hg]; exact Nat.ne_of_lt (blk_lt (g := gb336) (o := .cells #[.int .i64 a0_0, .int .i64 a0_1, .int .i64 a0_2, .slice A0_3 l0_3.length c0_3] 34 (0, 0)) (by exact BK336.out)) : gb336 ≠ gb345))
                  have n7_ := Aside0.mk ((by rw [hg]; exact Nat.ne_of_gt (blk_lt (g := gb336) (o := .cells #[.int .i64 a0_0, .int .i64 a0_1, .int .i64 a0_2, .slice A0_3 l0_3.length c0_3] 34 (0, 0)) (by exact BK336.out)) : gb345 ≠ gb336))
                  have n8_ := Aside0.mk ((by rw [hg]; exact Nat.ne_of_lt (blk_lt (g := gb337) (o := .cells #[.int .i64 0, .string (⟨#[]⟩ : ByteArray)] 41 (0, 0)) (by exact BK337.out)) : gb337 ≠ gb345))
                  have n9_ := Aside0.mk ((by rw [hg]; exact Nat.ne_of_gt (blk_lt (g := gb337) (o := .cells #[.int .i64 0, .string (⟨#[]⟩ : ByteArray)] 41 (0, 0)) (by exact BK337.out)) : gb345 ≠ gb337))
                  clear BK336 BK337 HB
                  have BK336 := n0_
                  have BK337 := n1_
                  have HB := n2_
                  have BK345 := n3_
                  have GW345 := n4_
                  have GE345 := n5_
                  have NB336_345 := n6_
                  have NB345_336 := n7_
                  have NB337_345 := n8_
                  have NB345_337 := n9_
                  clear n0_ n1_ n2_ n3_ n4_ n5_ n6_ n7_ n8_ n9_ hb hbox hg
                  refine hK.out _ _ ⟨(blk_cell BK336.out 0).trans rfl, (blk_cell BK336.out 1).trans rfl, (blk_cell BK336.out 2).trans rfl, (blk_cell BK336.out 3).trans rfl⟩ (fun hHeld => ?_)
                  clear hK K
                  refine norm_ (a' := ?_) ?_ ?_
                  rotate_left
                  · show Act.put _ (some 9) _ = _
                    simp only [Act.put, List.setIfInBounds_toArray, List.set_cons_zero, List.set_cons_succ, i64_w, i32_w]
                    rfl
                  refine one_ (i := 6) (N := some 34) #[true, true, true, true, true, true, true, true, false, false, false, false, true, false, false] rfl rfl (one_of HT_.out (by kernel_rfl)) (by decide) (fun K hK => ?_)
                  refine goes_ Try.func26 (by kernel_rfl) rfl #[.agg #[.int .i64 a0_0, .int .i64 a0_1, .int .i64 a0_2, .slice A0_3 l0_3.length c0_3], .slice A1 l1.length c1] (by rfl) rfl rfl (by ((simp only [List.map_toArray, List.map_cons, List.map_nil])); (rfl)) ?_
                  with_reducible refine (stripe_kept.calls a0_0 a0_1 a0_2 _ _ l0_3 _ _ l1 t339 _ ?side1 ?side2 ?side3 ?side4 A16.out).mono ?_
                  (case side1 => repeat ((exact (Kd.C_below HR0_3.out HB.out))))
                  (case side2 => exact HC0_3.out)
                  (case side3 => repeat ((exact (Kd.C_below HR1.out HB.out))))
                  (case side4 => exact HC1.out)
                  rintro e w23 ⟨v340, rfl, ho0, hb⟩
                  refine ⟨_, rfl, ?_⟩
                  have n0_ := Aside0.mk (Kd.R_lower (Kd.R_newB (Kd.R_newB ho0 (g := gb337) (o := .cells #[.int .i64 0, .string (⟨#[]⟩ : ByteArray)] 41 (0, 0)) (by exact BK337.out)) (g := gb345) (o := .cells #[.int .i64 0, .string (⟨#[]⟩ : ByteArray)] 41 (0, 0)) (by exact BK345.out)) (below_size HB.out))
                  have n1_ := Aside0.mk (blk_below (g := gb336) (o := .cells #[.int .i64 a0_0, .int .i64 a0_1, .int .i64 a0_2, .slice A0_3 l0_3.length c0_3] 34 (0, 0)) (by exact BK336.out) hb)
                  have n2_ := Aside0.mk (blk_below (g := gb337) (o := .cells #[.int .i64 0, .string (⟨#[]⟩ : ByteArray)] 41 (0, 0)) (by exact BK337.out) hb)
                  have n3_ := Aside0.mk (blk_below (g := gb345) (o := .cells #[.int .i64 0, .string (⟨#[]⟩ : ByteArray)] 41 (0, 0)) (by exact BK345.out) hb)
                  have n4_ := Aside0.mk (below_step HB.out hb)
                  clear BK336 BK337 BK345 HB
                  have HO341 := n0_
                  have BK336 := n1_
                  have BK337 := n2_
                  have BK345 := n3_
                  have HB := n4_
                  clear n0_ n1_ n2_ n3_ n4_
                  ((clear hb))
                  ((clear ho0))
                  obtain ⟨Ao24, co24, eo24⟩ := Kd.R_slice HO341.out
                  ((subst eo24))
                  refine hK.out _ _ ⟨(blk_cell BK336.out 0).trans rfl, (blk_cell BK336.out 1).trans rfl, (blk_cell BK336.out 2).trans rfl, (blk_cell BK336.out 3).trans rfl⟩ (fun hHeld => ?_)
                  clear hK K
                  refine norm_ (a' := ?_) ?_ ?_
                  rotate_left
                  · show Act.put _ (some 34) _ = _
                    simp only [Act.put, List.setIfInBounds_toArray, List.set_cons_zero, List.set_cons_succ, i64_w, i32_w]
                    rfl
                  refine one_ (i := 8) (N := some 36) #[true, true, true, true, true, true, true, true, true, false, false, false, true, false, false] rfl rfl (one_of HT_.out (by kernel_rfl)) (by decide) (fun K hK => ?_)
                  refine goes_ Try.func29 (by kernel_rfl) rfl #[.agg #[.int .i64 a0_0, .int .i64 a0_1], .int .i64 a0_2, .slice Ao24 t339.length co24, .int .i64 a2] (by rfl) rfl rfl (by ((simp only [List.map_toArray, List.map_cons, List.map_nil])); (rfl)) ?_
                  with_reducible refine (erasure_Repair.calls kj5 a0_0 a0_1 a0_2 _ _ t339 a2 t342 t343 t344 _ ?side1 ?side2 A17.out).mono ?_
                  (case side1 => repeat ((exact (Kd.R_reads' HO341.out).2.2)))
                  (case side2 => exact (Kd.R_reads' HO341.out).2.1)
                  rintro e w25 ⟨rfl, hb⟩
                  refine ⟨_, rfl, ?_⟩
                  have n0_ := Aside0.mk (Kd.R_below (by exact HO341.out) hb)
                  have n1_ := Aside0.mk (blk_below (g := gb336) (o := .cells #[.int .i64 a0_0, .int .i64 a0_1, .int .i64 a0_2, .slice A0_3 l0_3.length c0_3] 34 (0, 0)) (by exact BK336.out) hb)
                  have n2_ := Aside0.mk (blk_below (g := gb337) (o := .cells #[.int .i64 0, .string (⟨#[]⟩ : ByteArray)] 41 (0, 0)) (by exact BK337.out) hb)
                  have n3_ := Aside0.mk (blk_below (g := gb345) (o := .cells #[.int .i64 0, .string (⟨#[]⟩ : ByteArray)] 41 (0, 0)) (by exact BK345.out) hb)
                  have n4_ := Aside0.mk (below_step HB.out hb)
                  clear HO341 BK336 BK337 BK345 HB
                  have HO341 := n0_
                  have BK336 := n1_
                  have BK337 := n2_
                  have BK345 := n3_
                  have HB := n4_
                  clear n0_ n1_ n2_ n3_ n4_
                  ((clear hb))
                  refine hK.out _ _ ⟨(blk_cell BK336.out 0).trans rfl, (blk_cell BK336.out 1).trans rfl, (blk_cell BK336.out 2).trans rfl, (blk_cell BK336.out 3).trans rfl⟩ (fun hHeld => ?_)
                  clear hK K
                  refine norm_ (a' := ?_) ?_ ?_
                  rotate_left
                  · show Act.put _ (some 36) _ = _
                    simp only [Act.put, List.setIfInBounds_toArray, List.set_cons_zero, List.set_cons_succ, i64_w, i32_w]
                    rfl
                  refine pure_ (i := 9) (N := some 27) (v := ?_) (a' := ?_) #[true, true, true, true, true, true, true, true, true, true, false, false, true, false, false] rfl rfl (any_of HT_.out (by kernel_rfl)) (fun _ _ _ h => h) (Or.inl ⟨by rfl, ?_⟩) ?_ ?_
                  rotate_left
                  · intro w'
                    go_simp
                    with_reducible rfl
                  rotate_left
                  · simp only [Act.put, List.setIfInBounds_toArray, List.set_cons_zero, List.set_cons_succ, i64_w, i32_w]
                    rfl
                  refine pure_ (i := 10) (N := some 37) (v := ?_) (a' := ?_) #[true, true, true, true, true, true, true, true, true, true, true, false, true, false, false] rfl rfl (any_of HT_.out (by kernel_rfl)) (fun _ _ _ h => h) (Or.inl ⟨by rfl, ?_⟩) ?_ ?_
                  rotate_left
                  · intro w'
                    go_simp
                    with_reducible rfl
                  rotate_left
                  · simp only [Act.put, List.setIfInBounds_toArray, List.set_cons_zero, List.set_cons_succ, i64_w, i32_w]
                    rfl
                  refine pure_ (i := 11) (N := some 38) (v := ?_) (a' := ?_) #[true, true, true, true, true, true, true, true, true, true, true, true, true, false, false] rfl rfl (any_of HT_.out (by kernel_rfl)) (fun _ _ _ h => h) (Or.inl ⟨by rfl, ?_⟩) ?_ ?_
                  rotate_left
                  · intro w'
                    go_simp
                    with_reducible rfl
                  rotate_left
                  · simp only [Act.put, List.setIfInBounds_toArray, List.set_cons_zero, List.set_cons_succ, i64_w, i32_w]
                    rfl
                  exact norm_ (by simp only [putAll, Act.put, List.setIfInBounds_toArray, List.set_cons_zero, List.set_cons_succ]) (hCont (.slice Ao24 t339.length co24, gb345) _ ⟨hHeld, (by exact Kd.R_mono HO341.out (fun _ hk => ⟨hk.1.2, hk.2⟩)), (by exact BK336.out), (by exact BK337.out), (by exact BK345.out), GW345.out, GE345.out, NB336_345.out, NB345_336.out, NB337_345.out, NB345_337.out, HB.out⟩)
              rintro ⟨v340, gb345⟩ w26 ⟨hS_, h0_, h1_, h2_, h3_, h4_, h5_, h6_, h7_, h8_, h9_, h10_⟩
              have n0_ : Aside0 (Kd.R k41 41 w26 w.heap.size (fun k_ => k_ ≠ gb337 ∧ k_ ≠ gb345) v340 t339) := ⟨h0_⟩
              have n1_ : Aside0 (w26.heap[gb336]? = some (.cells #[.int .i64 a0_0, .int .i64 a0_1, .int .i64 a0_2, .slice A0_3 l0_3.length c0_3] 34 (0, 0))) := ⟨h1_⟩
              have n2_ : Aside0 (w26.heap[gb337]? = some (.cells #[.int .i64 0, .string (⟨#[]⟩ : ByteArray)] 41 (0, 0))) := ⟨h2_⟩
              have n3_ : Aside0 (w26.heap[gb345]? = some (.cells #[.int .i64 0, .string (⟨#[]⟩ : ByteArray)] 41 (0, 0))) := ⟨h3_⟩
              have n4_ : Aside0 (w.heap.size ≤ gb345) := ⟨h4_⟩
              have n5_ : Aside0 (w.heap.size ≤ gb345) := ⟨h5_⟩
              have n6_ : Aside0 (gb336 ≠ gb345) := ⟨h6_⟩
              have n7_ : Aside0 (gb345 ≠ gb336) := ⟨h7_⟩
              have n8_ : Aside0 (gb337 ≠ gb345) := ⟨h8_⟩
              have n9_ : Aside0 (gb345 ≠ gb337) := ⟨h9_⟩
              have n10_ : Aside0 (Below w.heap.size w w26) := ⟨h10_⟩
              clear BK336 BK337 HB h0_ h1_ h2_ h3_ h4_ h5_ h6_ h7_ h8_ h9_ h10_
              have HO341 := n0_
              have BK336 := n1_
              have BK337 := n2_
              have BK345 := n3_
              have GW345 := n4_
              have GE345 := n5_
              have NB336_345 := n6_
              have NB345_336 := n7_
              have NB337_345 := n8_
              have NB345_337 := n9_
              have HB := n10_
              clear n0_ n1_ n2_ n3_ n4_ n5_ n6_ n7_ n8_ n9_ n10_
              have hHeld : w26.cell? ⟨gb336, 0, none⟩ = some (.int .i64 a0_0) ∧ w26.cell? ⟨gb336, 1, none⟩ = some (.int .i64 a0_1) ∧ w26.cell? ⟨gb336, 2, none⟩ = some (.int .i64 a0_2) ∧ w26.cell? ⟨gb336, 3, none⟩ = some (.slice A0_3 l0_3.length c0_3) := hS_
              refine norm_ (a' := ?_) ?_ ?_
              rotate_left
              · simp only [putAll, Act.put, List.setIfInBounds_toArray, List.set_cons_zero, List.set_cons_succ]
                rfl
              refine one_ (i := 13) (N := none) #[true, true, true, true, true, true, true, true, true, true, true, true, true, true, false] rfl rfl (one_of HT_.out (by kernel_rfl)) (by decide) (fun K hK => ?_)
              have hs27 : w26.cell? ⟨gb345, 0, none⟩ = some (.int .i64 0) := (blk_cell BK345.out 0).trans rfl
              have hfs27 := blk_frozen BK345.out 0
              have hns27_0 := NB336_345.out
              have hns27_1 := NB337_345.out
              have hms27_0 := NB345_336.out
              have hms27_1 := NB345_337.out
              have hs28 : w26.cell? ⟨gb345, 1, none⟩ = some (.string (⟨#[]⟩ : ByteArray)) := (blk_cell BK345.out 1).trans rfl
              have hfs28 := blk_frozen BK345.out 1
              have hns28_0 := NB336_345.out
              have hns28_1 := NB337_345.out
              have hms28_0 := NB345_336.out
              have hms28_1 := NB345_337.out
              refine skip_ (w1 := ?_) (by rfl) rfl ?_ ?_
              rotate_left
              · go_simp
                rfl
              refine hK.out _ _ ⟨((cell_far (p := ⟨gb345, _, none⟩) NB336_345.out _).trans (((cell_far (p := ⟨gb345, _, none⟩) NB336_345.out _).trans (hHeld.1)))), ((cell_far (p := ⟨gb345, _, none⟩) NB336_345.out _).trans (((cell_far (p := ⟨gb345, _, none⟩) NB336_345.out _).trans (hHeld.2.1)))), ((cell_far (p := ⟨gb345, _, none⟩) NB336_345.out _).trans (((cell_far (p := ⟨gb345, _, none⟩) NB336_345.out _).trans (hHeld.2.2.1)))), ((cell_far (p := ⟨gb345, _, none⟩) NB336_345.out _).trans (((cell_far (p := ⟨gb345, _, none⟩) NB336_345.out _).trans (hHeld.2.2.2))))⟩ (fun hHeld => ?_)
              clear hK K
              refine pure_ (i := 14) (N := some 10) (v := ?_) (a' := ?_) #[true, true, true, true, true, true, true, true, true, true, true, true, true, true, true] rfl rfl (any_of HT_.out (by kernel_rfl)) (fun _ _ _ h => h) (Or.inl ⟨by rfl, ?_⟩) ?_ ?_
              rotate_left
              · intro w'
                go_simp
                with_reducible rfl
              rotate_left
              · simp only [Act.put, List.setIfInBounds_toArray, List.set_cons_zero, List.set_cons_succ, i64_w, i32_w]
                rfl
              refine done_ (done_of HT_.out (by kernel_rfl)) ?_
              have hnb29 := NB336_337.out
              have hnc29 := NB337_336.out
              have hnb30 := NB336_345.out
              have hnc30 := NB345_336.out
              have hcz31_0 : w26.cell? ⟨gb336, 0, none⟩ = some (.int .i64 a0_0) := (blk_cell BK336.out 0).trans rfl
              have hcz31_1 : w26.cell? ⟨gb336, 1, none⟩ = some (.int .i64 a0_1) := (blk_cell BK336.out 1).trans rfl
              have hcz31_2 : w26.cell? ⟨gb336, 2, none⟩ = some (.int .i64 a0_2) := (blk_cell BK336.out 2).trans rfl
              have hcz31_3 : w26.cell? ⟨gb336, 3, none⟩ = some (.slice A0_3 l0_3.length c0_3) := (blk_cell BK336.out 3).trans rfl
              have hfz31_0 := blk_frozen BK336.out 0
              have hfz31_1 := blk_frozen BK336.out 1
              have hfz31_2 := blk_frozen BK336.out 2
              have hfz31_3 := blk_frozen BK336.out 3
              have hnb32 := NB345_337.out
              have hnc32 := NB337_345.out
              have hcz33_0 : w26.cell? ⟨gb345, 0, none⟩ = some (.int .i64 0) := (blk_cell BK345.out 0).trans rfl
              have hcz33_1 : w26.cell? ⟨gb345, 1, none⟩ = some (.string (⟨#[]⟩ : ByteArray)) := (blk_cell BK345.out 1).trans rfl
              have hfz33_0 := blk_frozen BK345.out 0
              have hfz33_1 := blk_frozen BK345.out 1
              (go_wp2_with (((with_reducible refine gate_callee (f := 24) rfl ?_); refine goesL_ (some 45) rfl rfl Try.func24 (by kernel_rfl) rfl #[.agg #[.int .i64 a0_0, .int .i64 a0_1, .int .i64 a0_2, .slice A0_3 l0_3.length c0_3], .agg #[.int .i64 t342, .string t343]] rfl (by ((simp only [List.map_toArray, List.map_cons, List.map_nil])); (rfl)) ?_; (with_reducible refine (stripe_right.calls kj5 a0_0 a0_1 a0_2 _ _ l0_3 t342 t343 true _ ?side1 ?side2 A19.out).mono ?_); (case side1 => exact Kd.C_below HR0_3.out (by repeat ((with_reducible first | exact HB.out | refine below_set ?_ GE345.out)))); (case side2 => exact HC0_3.out); rintro e w34 ⟨rfl, hb⟩; refine ⟨_, rfl, ?_⟩; have n0_ := Aside0.mk (Kd.R_below (by exact (Kd.R_mono (Kd.R_far (p := ⟨gb345, 1, none⟩) (Kd.R_far (p := ⟨gb345, 0, none⟩) (Kd.R_mono HO341.out (fun k_ hk => (⟨hk, hk.2⟩ : _ ∧ k_ ≠ gb345))) (fun _ hk => hk.2) (.int .i64 t342)) (fun _ hk => hk.2) (.string t343)) (fun _ h_ => h_.1))) hb); have n1_ := Aside0.mk (blk_below (g := gb336) (o := .cells #[.int .i64 a0_0, .int .i64 a0_1, .int .i64 a0_2, .slice A0_3 l0_3.length c0_3] 34 (0, 0)) (by refine blk_far ?_ NB336_345.out _; refine blk_far ?_ NB336_345.out _; exact BK336.out) hb); have n2_ := Aside0.mk (blk_below (g := gb337) (o := .cells #[.int .i64 0, .string (⟨#[]⟩ : ByteArray)] 41 (0, 0)) (by refine blk_far ?_ NB337_345.out _; refine blk_far ?_ NB337_345.out _; exact BK337.out) hb); have n3_ := Aside0.mk (blk_below (g := gb345) (o := .cells #[.int .i64 t342, .string t343] 41 (0, 0)) (by refine blk_put (cs := #[.int .i64 t342, .string (⟨#[]⟩ : ByteArray)]) ?_ 1 _ rfl; refine blk_put (cs := #[.int .i64 0, .string (⟨#[]⟩ : ByteArray)]) ?_ 0 _ rfl; exact BK345.out) hb); have n4_ := Aside0.mk (below_step (by repeat ((with_reducible first | exact HB.out | refine below_set ?_ GE345.out))) hb); clear HO341 BK336 BK337 BK345 HB; have HO341 := n0_; have BK336 := n1_; have BK337 := n2_; have BK345 := n3_; have HB := n4_; clear n0_ n1_ n2_ n3_ n4_; clear hb; have hcz35_0 : w34.cell? ⟨gb345, 0, none⟩ = some (.int .i64 t342) := (blk_cell BK345.out 0).trans rfl; have hcz35_1 : w34.cell? ⟨gb345, 1, none⟩ = some (.string t343) := (blk_cell BK345.out 1).trans rfl; have hfz35_0 := blk_frozen BK345.out 0; have hfz35_1 := blk_frozen BK345.out 1; have hcz36_0 : w34.cell? ⟨gb337, 0, none⟩ = some (.int .i64 0) := (blk_cell BK337.out 0).trans rfl; have hcz36_1 : w34.cell? ⟨gb337, 1, none⟩ = some (.string (⟨#[]⟩ : ByteArray)) := (blk_cell BK337.out 1).trans rfl; have hfz36_0 := blk_frozen BK337.out 0; have hfz36_1 := blk_frozen BK337.out 1)))
              refine bodyPost_ret (results_ct rfl _ _ gb337 41 #[.int .i64 t342, .string t343] (0, 0) _ rfl (by refine blk_put (cs := #[.int .i64 t342, .string (⟨#[]⟩ : ByteArray)]) ?_ 1 _ rfl; refine blk_put (cs := #[.int .i64 0, .string (⟨#[]⟩ : ByteArray)]) ?_ 0 _ rfl; exact BK337.out) Try.underlying41 rfl (by kernel_rfl)) rfl ?_
              exact ⟨by (rfl), by repeat ((with_reducible first | exact HB.out | refine below_set ?_ GE337.out))⟩
            · replace c20 := Bool.eq_false_iff.mpr c20
              subst c20
              have H1 : (none) = some (r1, r2, r3) := by rw [if_neg (show ¬ (false = true) by decide)] at H; exact H
              clear H
              have H := H1
              clear H1
              exact absurd H (by simp)
          · rw [if_neg c18] at H
            have c18b0 : (t344 == 0) = false := beq_eq_false_iff_ne.mpr c18
            have c18b1 : (t344 != 0) = true := bne_iff_ne.mpr c18
            exact absurd H (by simp)
  · rw [if_neg c5] at H
    have c5b0 : (t338 == 0) = false := beq_eq_false_iff_ne.mpr c5
    have c5b1 : (t338 != 0) = true := bne_iff_ne.mpr c5
    exact absurd H (by simp)

end Go.Proofs.Ythfddndmhjkeiaa.L
end
section
/- Two shards compared. -/
namespace Go.Proofs.Ythfddndmhjkeiaa.L
open Go.RowKit Go.Proofs.YthfddndmhjkeiaaW.PrintWords Go.Proofs.YthfddndmhjkeiaaW.PrintLast Go.Proofs.YthfddndmhjkeiaaW.PrintMore
set_option linter.unusedVariables false
set_option linter.unusedSimpArgs false
theorem eqA41 (d : Nat) (w : World) (x0 y0 : Int) (x1 y1 : ByteArray) :
    (Op.equalIn (d + 2) 41 (.agg #[.int .i64 x0, .string x1]) (.agg #[.int .i64 y0, .string y1])).run Try.prog w = .ok (x0 == y0 && (x1.toList == y1.toList)) w := by
  refine eqA_of Try.underlying41 (by kernel_rfl) ?_
  refine eqf_cons (by rfl) (by go_simp; rfl) (by go_simp; rfl) (by go_simp) ?_
  exact eqf_last (by rfl) (by go_simp; rfl) (by go_simp; rfl) (by go_simp)
end Go.Proofs.Ythfddndmhjkeiaa.L
end
section
/- law13's sane: its one way. -/
namespace Go.Proofs.Ythfddndmhjkeiaa.L
open Go.RowKit Go.Proofs.YthfddndmhjkeiaaW.PrintWords Go.Proofs.YthfddndmhjkeiaaW.PrintLast Go.Proofs.YthfddndmhjkeiaaW.PrintMore
set_option linter.unusedVariables false
set_option linter.unusedSimpArgs false
attribute [local go_sem high] eqA41
def abc5 : ByteArray := ⟨#[32, 6, 97, 98, 99]⟩
theorem sane_make : stripe_Make.f 40 1 2 (ByteArray.mk #[97, 98, 99]) 5 = some (1, 2, 5, [244816472, 244816472], [⟨0, abc5⟩, ⟨1, abc5⟩], 0) := by kernel_rfl
theorem sane_read : stripe_Read.f 40 1 2 5 [244816472, 244816472] [⟨1, abc5⟩] 5 = some ((ByteArray.mk #[97, 98, 99]), 0) := by kernel_rfl
theorem sane_check : stripe_Check.f 1 2 5 [244816472, 244816472] = some 0 := by kernel_rfl
theorem sane_kept : stripe_kept.f 1 2 5 [244816472, 244816472] [⟨0, abc5⟩, ⟨1, abc5⟩] = some [⟨0, abc5⟩, ⟨1, abc5⟩] := by kernel_rfl
theorem sane_sort : sortS [⟨0, abc5⟩, ⟨1, abc5⟩] = [⟨0, abc5⟩, ⟨1, abc5⟩] := by
  unfold sortS
  exact List.mergeSort_of_pairwise (by simp)
theorem sane_used : usedS [⟨0, abc5⟩, ⟨1, abc5⟩] (1 : Int).toNat = [⟨0, abc5⟩] := by
  unfold usedS
  rw [sane_sort]
  rfl
theorem sane_decode : erasure_Decode.f 1 2 5 [⟨0, abc5⟩, ⟨1, abc5⟩] = some (abc5, 0) := by
  unfold erasure_Decode.f
  rw [sane_used]
  kernel_rfl
theorem sane_not : stripe_Read.f 40 1 2 5 [244816472, 244816472] [⟨0, abc5⟩, ⟨1, abc5⟩] 7 = some (⟨#[]⟩, 9) := by
  unfold stripe_Read.f
  rw [sane_check, Option.bind_some, if_pos rfl, sane_kept, Option.bind_some, sane_decode]
  kernel_rfl
theorem sane_repair : stripe_Repair.f 40 1 2 5 [244816472, 244816472] [⟨0, abc5⟩] 1 = some (1, abc5, 0) := by kernel_rfl
set_option maxHeartbeats 1000000 in
set_option maxRecDepth 100000 in
theorem storagebarterlaw13_sane.holds (w : World) : Calls Try.prog 6 #[] w fun e w' => e = .returned (.bool true) ∧ Below w.heap.size w w' := by
  have hu30 := Try.underlying30
  have hu34 := Try.underlying34
  have hu41 := Try.underlying41
  have hu23 := Try.underlying23
  go_enter Try.func6, Try.ntmps6
  go_wp2_with fail
  refine (stripe_Make.calls 40 1 2 (ByteArray.mk #[97, 98, 99]) 5 _ _ _ _ _ _ _ sane_make).mono ?_
  rintro e w1 ⟨v3, v4, rfl, hO3, hO4, hb1⟩
  obtain ⟨A3, c3, rfl⟩ := Kd.R_slice hO3
  obtain ⟨gr, c4, rfl, hgr0, hgr1, _⟩ := Kd.R_form hO4 (by decide)
  have hC3 := (Kd.R_reads' hO3).2.2
  have hL3 := (Kd.R_reads' hO3).2.1
  have hC4 := (Kd.R_reads' hO4).2.2
  have hL4 : 2 ≤ c4 := (Kd.R_reads' hO4).2.1
  have HB1 := Aside0.mk hb1
  clear hO3 hO4 hb1
  obtain ⟨W2, hW2⟩ : ∃ W2, w1.alloc (.cells #[.int .i64 1, .int .i64 2, .int .i64 5, .slice A3 2 c3] 34) = W2 := ⟨_, rfl⟩
  have KB2 : Aside0 (W2.heap[w1.heap.size]? = some (.cells #[.int .i64 1, .int .i64 2, .int .i64 5, .slice A3 2 c3] 34 (0, 0))) := ⟨by rw [← hW2]; exact blk_new w1 _⟩
  have HC3 : Aside0 (Kd.C (Kd.int .i64) W2 A3 2 [244816472, 244816472]) := ⟨by rw [← hW2]; exact Kd.C_alloc hC3 _⟩
  have HC4 : Aside0 (Kd.C k41 W2 (some ⟨gr, 0, none⟩) 2 [⟨0, abc5⟩, ⟨1, abc5⟩]) := ⟨by rw [← hW2]; exact Kd.C_alloc hC4 _⟩
  have HB2 : Aside0 (Below w.heap.size w W2) := ⟨by rw [← hW2]; exact below_alloc HB1.out _⟩
  clear hC3 hC4
  have y0 := blk_cell KB2.out 0
  have y1 := blk_cell KB2.out 1
  have y2 := blk_cell KB2.out 2
  have y3 := blk_cell KB2.out 3
  have hD1 : Kd.C k41 W2 (some ⟨gr, 2, none⟩) 1 [⟨1, abc5⟩] := by
    have := Kd.C_mid (lo := 1) (hi := 2) (c := c4) HC4.out (by decide) (by decide) hL4
    rw [if_neg (by omega)] at this
    exact this
  have hcall : Calls Try.prog 16 #[.agg #[.int .i64 1, .int .i64 2, .int .i64 5, .slice A3 2 c3], .slice (some ⟨gr, 2, none⟩) 1 (c4 - 1), .int .i64 5] W2.drew fun e w' => e = .returned (.tuple #[.string (ByteArray.mk #[97, 98, 99]), .int .i64 0]) ∧ Below W2.heap.size W2 w' := (stripe_Read.calls 40 1 2 5 A3 c3 [244816472, 244816472] (some ⟨gr, 2, none⟩) (c4 - 1) [⟨1, abc5⟩] 5 (ByteArray.mk #[97, 98, 99]) 0 W2.drew (Kd.C_drew HC3.out) hL3 (Kd.C_drew hD1) (by show 1 ≤ c4 - 1; omega) sane_read).mono (fun e w' h => ⟨h.1, (below_drew1 (Below.refl _ W2)).trans h.2⟩)
  clear hD1
  have hc41 : (c4 = 1) = False := eq_false (by omega)
  have hc42 : (1 : Int) ≤ (c4 : Int) := by omega
  go_wp2_with fail
  go_region_held3 (fun w' => w'.cell? ⟨w1.heap.size, 0, none⟩ = some (.int .i64 1) ∧ w'.cell? ⟨w1.heap.size, 1, none⟩ = some (.int .i64 2) ∧ w'.cell? ⟨w1.heap.size, 2, none⟩ = some (.int .i64 5) ∧ w'.cell? ⟨w1.heap.size, 3, none⟩ = some (.slice A3 2 c3)) (first | exact ⟨y0, y1, y2, y3⟩ | exact ⟨z0, z1, z2, z3⟩) (first | ((with_reducible refine hcall.mono ?_); rintro e w5 ⟨rfl, hb5⟩; have KB5 := blk_below KB2.out hb5; have z0 := blk_cell KB5 0; have z1 := blk_cell KB5 1; have z2 := blk_cell KB5 2; have z3 := blk_cell KB5 3))
  have HC35 : Aside0 (Kd.C (Kd.int .i64) w5 A3 2 [244816472, 244816472]) := ⟨Kd.C_below HC3.out hb5⟩
  have HC45 : Aside0 (Kd.C k41 w5 (some ⟨gr, 0, none⟩) 2 [⟨0, abc5⟩, ⟨1, abc5⟩]) := ⟨Kd.C_below HC4.out hb5⟩
  have HB5 : Aside0 (Below w.heap.size w w5) := ⟨below_step HB2.out hb5⟩
  clear HC3 HC4 KB2 y0 y1 y2 y3 hcall hb5 HB2
  have hcall2 : Calls Try.prog 16 #[.agg #[.int .i64 1, .int .i64 2, .int .i64 5, .slice A3 2 c3], .slice (some ⟨gr, 0, none⟩) 2 c4, .int .i64 7] w5 fun e w' => e = .returned (.tuple #[.string ⟨#[]⟩, .int .i64 9]) ∧ Below w5.heap.size w5 w' := (stripe_Read.calls 40 1 2 5 A3 c3 [244816472, 244816472] (some ⟨gr, 0, none⟩) c4 [⟨0, abc5⟩, ⟨1, abc5⟩] 7 _ 9 w5 HC35.out hL3 HC45.out hL4 sane_not)
  go_wp2_with fail
  refine hcall2.mono ?_
  rintro e w6 ⟨rfl, hb6⟩
  have KB6 := blk_below KB5 hb6
  have q0 := blk_cell KB6 0
  have q1 := blk_cell KB6 1
  have q2 := blk_cell KB6 2
  have q3 := blk_cell KB6 3
  have HC36 : Aside0 (Kd.C (Kd.int .i64) w6 A3 2 [244816472, 244816472]) := ⟨Kd.C_below HC35.out hb6⟩
  have HC46 : Aside0 (Kd.C k41 w6 (some ⟨gr, 0, none⟩) 2 [⟨0, abc5⟩, ⟨1, abc5⟩]) := ⟨Kd.C_below HC45.out hb6⟩
  have HB6 : Aside0 (Below w.heap.size w w6) := ⟨below_step HB5.out hb6⟩
  clear HC35 HC45 KB5 z0 z1 z2 z3 hcall2 hb6 HB5
  have hcall3 : ∀ W', Below w6.heap.size w6 W' → Calls Try.prog 17 #[.agg #[.int .i64 1, .int .i64 2, .int .i64 5, .slice A3 2 c3], .slice (some ⟨gr, 0, none⟩) 1 c4, .int .i64 1] W' fun e w' => e = .returned (.tuple #[.agg #[.int .i64 1, .string abc5], .int .i64 0]) ∧ Below W'.heap.size W' w' := fun W' hb => stripe_Repair.calls 40 1 2 5 A3 c3 [244816472, 244816472] (some ⟨gr, 0, none⟩) c4 [⟨0, abc5⟩] 1 _ _ 0 W' (Kd.C_below HC36.out hb) hL3 (Kd.C_below (Kd.C_take HC46.out (m := 1) (by decide)) hb) (by show 1 ≤ c4; omega) sane_repair
  go_wp2_with fail
  have h6a : Below w6.heap.size w6 ((w6.alloc (.cells #[.int .i64 0, .string ⟨#[]⟩] 41)).drew) := below_drew1 (below_alloc (Below.refl _ _) _)
  have KB6a := blk_below KB6 h6a
  have hne6 : w1.heap.size ≠ w6.heap.size := Nat.ne_of_lt (blk_lt KB6)
  have KX6 : ((w6.alloc (.cells #[.int .i64 0, .string ⟨#[]⟩] 41)).drew).heap[w6.heap.size]? = some (.cells #[.int .i64 0, .string ⟨#[]⟩] 41 (0, 0)) := blk_new w6 _
  have h6b : Below w6.heap.size w6 w6.drew := below_drew1 (Below.refl _ _)
  have KB6b := blk_below KB6 h6b
  go_region_held3 (fun w' => w'.cell? ⟨w1.heap.size, 0, none⟩ = some (.int .i64 1) ∧ w'.cell? ⟨w1.heap.size, 1, none⟩ = some (.int .i64 2) ∧ w'.cell? ⟨w1.heap.size, 2, none⟩ = some (.int .i64 5) ∧ w'.cell? ⟨w1.heap.size, 3, none⟩ = some (.slice A3 2 c3)) (first | exact ⟨q0, q1, q2, q3⟩ | exact ⟨blk_cell KB6a 0, blk_cell KB6a 1, blk_cell KB6a 2, blk_cell KB6a 3⟩ | exact ⟨r0, r1, r2, r3⟩ | exact ⟨blk_cell (blk_alloc KB7 _) 0, blk_cell (blk_alloc KB7 _) 1, blk_cell (blk_alloc KB7 _) 2, blk_cell (blk_alloc KB7 _) 3⟩ | exact ⟨blk_cell (blk_far (blk_far KB7 hne6 _) hne6 _) 0, blk_cell (blk_far (blk_far KB7 hne6 _) hne6 _) 1, blk_cell (blk_far (blk_far KB7 hne6 _) hne6 _) 2, blk_cell (blk_far (blk_far KB7 hne6 _) hne6 _) 3⟩ | exact ⟨blk_cell (blk_far (blk_far (blk_alloc KB7 _) (Nat.ne_of_lt (blk_lt KB7)) _) (Nat.ne_of_lt (blk_lt KB7)) _) 0, blk_cell (blk_far (blk_far (blk_alloc KB7 _) (Nat.ne_of_lt (blk_lt KB7)) _) (Nat.ne_of_lt (blk_lt KB7)) _) 1, blk_cell (blk_far (blk_far (blk_alloc KB7 _) (Nat.ne_of_lt (blk_lt KB7)) _) (Nat.ne_of_lt (blk_lt KB7)) _) 2, blk_cell (blk_far (blk_far (blk_alloc KB7 _) (Nat.ne_of_lt (blk_lt KB7)) _) (Nat.ne_of_lt (blk_lt KB7)) _) 3⟩) (first | ((with_reducible refine (hcall3 _ h6a).mono ?_); rintro e w7 ⟨rfl, hb7⟩; have KB7 := blk_below KB6a hb7; have KX7 := blk_below KX6 hb7; have kx0 := blk_cell KX7 0; have kx1 := blk_cell KX7 1; have kf0 := blk_frozen KX7 0; have kf1 := blk_frozen KX7 1; have r0 := blk_cell KB7 0; have r1 := blk_cell KB7 1; have r2 := blk_cell KB7 2; have r3 := blk_cell KB7 3) | ((with_reducible refine (hcall3 _ h6b).mono ?_); rintro e w7 ⟨rfl, hb7⟩; have KB7 := blk_below KB6b hb7; have r0 := blk_cell KB7 0; have r1 := blk_cell KB7 1; have r2 := blk_cell KB7 2; have r3 := blk_cell KB7 3))
  all_goals first
    | (
      have h67 : Below w6.heap.size w6 w7 := h6b.trans hb7
      have h68 : Below w6.heap.size w6 (w7.alloc (.cells #[.int .i64 1, .string abc5] 41)) := below_alloc h67 _
      have KX8 := blk_new w7 (.cells #[.int .i64 1, .string abc5] 41)
      have KB8 := blk_alloc KB7 (.cells #[.int .i64 1, .string abc5] 41)
      generalize w7.alloc (.cells #[.int .i64 1, .string abc5] 41) = W8 at h68 KX8 KB8 ⊢
      generalize w7.heap.size = xb at KX8 ⊢)
    | (
      have h67 : Below w6.heap.size w6 w7 := h6a.trans (hb7.mono (below_size h6a))
      have h68 : Below w6.heap.size w6 ((w7.setCell ⟨w6.heap.size, 0, none⟩ (.int .i64 1)).setCell ⟨w6.heap.size, 1, none⟩ (.string abc5)) := (h67.setCell (p := ⟨w6.heap.size, 0, none⟩) (Nat.le_refl _) _).setCell (p := ⟨w6.heap.size, 1, none⟩) (Nat.le_refl _) _
      have KX8 := blk_set (blk_set KX7 0 (.int .i64 1)) 1 (.string abc5)
      have KB8 := blk_far (p := ⟨w6.heap.size, 1, none⟩) (blk_far (p := ⟨w6.heap.size, 0, none⟩) KB7 hne6 (.int .i64 1)) hne6 (.string abc5)
      generalize (w7.setCell ⟨w6.heap.size, 0, none⟩ (.int .i64 1)).setCell ⟨w6.heap.size, 1, none⟩ (.string abc5) = W8 at h68 KX8 KB8 ⊢
      generalize w6.heap.size = xb at KX8 ⊢
      clear KX6 KX7 kx0 kx1 kf0 kf1)
  all_goals
    have HC38 : Aside0 (Kd.C (Kd.int .i64) W8 A3 2 [244816472, 244816472]) := ⟨Kd.C_below HC36.out h68⟩
    have HC48 : Aside0 (Kd.C k41 W8 (some ⟨gr, 0, none⟩) 2 [⟨0, abc5⟩, ⟨1, abc5⟩]) := ⟨Kd.C_below HC46.out h68⟩
    have HB8 : Aside0 (Below w.heap.size w W8) := ⟨below_step HB6.out h68⟩
    clear HC36 HC46 KB6 KB6a KB6b KB7 q0 q1 q2 q3 r0 r1 r2 r3 hcall3 hb7 HB6 h67 h68 h6a h6b
    have u0 := blk_cell KB8 0
    have u1 := blk_cell KB8 1
    have u2 := blk_cell KB8 2
    have u3 := blk_cell KB8 3
    have v0 := (blk_cell KX8 0).trans (show _ = some (Value.int .i64 1) from rfl)
    have v1 := (blk_cell KX8 1).trans (show _ = some (Value.string abc5) from rfl)
    have hc0 : W8.cell? ⟨gr, 2, none⟩ = some (.int .i64 1) := by obtain ⟨ad, e, hc0, hc1⟩ := at_T41 HC48.out 1 (by decide) (by decide); cases e; exact hc0
    have hc1 : W8.cell? ⟨gr, 3, none⟩ = some (.string abc5) := by obtain ⟨ad, e, hc0, hc1⟩ := at_T41 HC48.out 1 (by decide) (by decide); cases e; exact hc1
    have hcc : Calls Try.prog 18 #[.agg #[.int .i64 1, .int .i64 2, .int .i64 5, .slice A3 2 c3]] W8.drew fun e w' => e = .returned (.int .i64 0) ∧ Below W8.heap.size W8 w' := (stripe_Check.calls 1 2 5 A3 c3 [244816472, 244816472] 0 W8.drew (Kd.C_drew HC38.out) hL3 sane_check).mono (fun e w' h => ⟨h.1, (below_drew1 (Below.refl _ W8)).trans h.2⟩)
    go_wp2_with fail
    go_region_held3 (fun w' => w'.cell? ⟨w1.heap.size, 0, none⟩ = some (.int .i64 1) ∧ w'.cell? ⟨w1.heap.size, 1, none⟩ = some (.int .i64 2) ∧ w'.cell? ⟨w1.heap.size, 2, none⟩ = some (.int .i64 5) ∧ w'.cell? ⟨w1.heap.size, 3, none⟩ = some (.slice A3 2 c3) ∧ w'.cell? ⟨gr, 2, none⟩ = some (.int .i64 1) ∧ w'.cell? ⟨gr, 3, none⟩ = some (.string abc5) ∧ w'.cell? ⟨xb, 0, none⟩ = some (.int .i64 1) ∧ w'.cell? ⟨xb, 1, none⟩ = some (.string abc5)) (first | exact ⟨u0, u1, u2, u3, hc0, hc1, v0, v1⟩ | exact ⟨s0, s1, s2, s3, s4, s5, s6, s7⟩) (first | ((with_reducible refine hcc.mono ?_); rintro e w9 ⟨rfl, hb9⟩; have KB9 := blk_below KB8 hb9; have s0 := blk_cell KB9 0; have s1 := blk_cell KB9 1; have s2 := blk_cell KB9 2; have s3 := blk_cell KB9 3; have s4 := pw_cell_below hb9 hc0; have s5 := pw_cell_below hb9 hc1; have s6 := pw_cell_below hb9 v0; have s7 := pw_cell_below hb9 v1))
    go_wp2_with fail
    go_ret
    exact ⟨rfl, below_step HB8.out hb9⟩
end Go.Proofs.Ythfddndmhjkeiaa.L
end
