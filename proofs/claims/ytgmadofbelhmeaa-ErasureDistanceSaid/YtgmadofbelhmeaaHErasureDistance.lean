/- Texts of this claim, put together by a small program of the session's own: MDist, MDistW, PureErasureDistance. -/
import Derived.Test.YtgmadofbelhmeaaH4
import Derived.Test.YtgmadofbelhmeaaH5
import Derived.Test.YtgmadofbelhmeaaH2
import Derived.Test.YtgmadofbelhmeaaH9
import Derived.Deep.RegionLaw
section
/- law07's ErasureDistance: the walk along the way that the plain law tells. -/
namespace Go.Proofs.Ytgmadofbelhmeaa.L
open Go.RowKit Go.Proofs.YtgmadofbelhmeaaW.PrintWords Go.Proofs.YtgmadofbelhmeaaW.PrintLast Go.Proofs.YtgmadofbelhmeaaW.PrintMore
set_option linter.unusedVariables false
set_option linter.unusedSimpArgs false
attribute [local go_sem high] eqA37
def eqS (x y : S37) : Bool := x.f0 == y.f0 && (x.f1.toList == y.f1.toList)
/-- How many of the first j shards are equal. -/
def sameN (lx ly : List S37) : Nat → Nat
  | 0 => 0
  | j + 1 => sameN lx ly j + if eqS (rd_T37 lx (j : Int)) (rd_T37 ly (j : Int)) = true then 1 else 0
theorem sameN_le (lx ly : List S37) : ∀ j, sameN lx ly j ≤ j
  | 0 => Nat.le_refl _
  | j + 1 => by
    have := sameN_le lx ly j
    unfold sameN
    split <;> omega
def DistWay (k n a : Nat) (a1 : ByteArray) (lx : List S37) (bs : ByteArray) (ly : List S37) : Prop :=
  erasure_Encode.f k n a bs = some (ly, 0) ∧ ly.length = a ∧ (a1.toList = bs.toList → sameN lx ly a = a) ∧ (¬ a1.toList = bs.toList → sameN lx ly a < n)
set_option maxHeartbeats 600000 in
set_option maxRecDepth 100000 in
theorem storagebarterlaw07_ErasureDistance.main (k : Nat) (A0 : Option Addr) (c0 : Nat) (l0 : List Int) (a1 : ByteArray) (a2 a3 : Int) (n a i : Nat) (p1 : Int) (lx : List S37) (w : World)
    (hr0 : Kd.C (Kd.int .i64) w A0 l0.length l0) (hc0 : l0.length ≤ c0)
    (h20 : 0 ≤ a2) (h2 : a2 ≤ 65535) (h30 : 0 ≤ a3) (h3 : a3 ≤ 255) (ha0 : 0 < a) (ha9 : a ≤ 9) (hn : n ≤ a)
    (hS : storagebarterlaw07_sane.f k = some true) (hF : storagebartermake_Few.f l0 = some true) (hsz : a1.size ≤ 600) (hsz0 : 0 < a1.size) (hi : a2.tmod (a1.size : Int) = (i : Int))
    (hC : storagebartermake_Code.f l0 0 = some ((n : Int), (a : Int), p1))
    (hE : erasure_Encode.f k n a a1 = some (lx, 0)) (hl : lx.length = a)
    (hD : ∀ bs : ByteArray, bs.size = a1.size → ∃ ly, DistWay k n a a1 lx bs ly) :
    Calls Try.prog 6 #[.slice A0 l0.length c0, .string a1, .int .u16 a2, .int .u8 a3] w fun e w' => e = .returned (.bool true) ∧ Below w.heap.size w w' := by
  have hu28 := Try.underlying28
  have hu37 := Try.underlying37
  have HR0 := Aside0.mk hr0
  have HC0 := Aside0.mk hc0
  have HS := Aside0.mk hS
  have HF := Aside0.mk hF
  have HC := Aside0.mk hC
  have HE := Aside0.mk hE
  have HL := Aside0.mk hl
  have HD := Aside0.mk hD
  have HI := Aside0.mk hi
  have HNW := Aside0.mk (show storagebartermake_New.f l0 = some (l0, 0) from rfl)
  have d1 : decide ((a1.size : Int) > 600) = false := decide_eq_false (by omega)
  have d2 : ((a1.size : Int) == 0) = false := by
    rw [beq_eq_false_iff_ne]
    omega
  have hil : i < a1.size := by
    have := Int.tmod_lt_of_pos a2 (show (0 : Int) < (a1.size : Int) by omega)
    omega
  clear hr0 hc0 hS hF hC hE hl hD hi
  go_enter Try.func6, Try.ntmps6
  go_wp2_with fail
  refine (storagebarterlaw07_sane.calls k true _ HS.out).mono ?_
  rintro e w1 ⟨rfl, hb1⟩
  have HB1 := Aside0.mk hb1
  clear hb1
  go_wp2_with fail
  refine (storagebartermake_Few.calls _ _ l0 true _ (Kd.C_below HR0.out HB1.out) HC0.out HF.out).mono ?_
  rintro e w2 ⟨rfl, ⟨nd, rfl⟩⟩
  go_wp2_with fail
  refine (storagebartermake_New.calls _ _ l0 l0 0 w _ (pw_below_drewN HB1.out _) HR0.out HC0.out HNW.out).mono ?_
  rintro e w3 ⟨g, rfl, hI3, hb3, _⟩
  have HI3 := Aside0.mk hI3
  have HB3 := Aside0.mk hb3
  clear hI3 hb3 HB1 d1 d2
  go_wp2_with fail
  refine (storagebartermake_Code.calls g l0 0 n a p1 w _ HI3.out HB3.out HC.out).mono ?_
  rintro e w4 ⟨rfl, hI4, hb4, hk4⟩
  have HB4 := Aside0.mk hb4
  clear hI4 hb4 hk4 HB3 HI3
  have KB5 := Aside0.mk (blk_new w4 (.cells #[.int .i64 (n : Int), .int .i64 (a : Int)] 28))
  have HB5 := Aside0.mk (below_alloc HB4.out (.cells #[.int .i64 (n : Int), .int .i64 (a : Int)] 28))
  have hws := HB4.out.size
  obtain ⟨w5, hw5⟩ : ∃ w5, w5 = w4.alloc (.cells #[.int .i64 (n : Int), .int .i64 (a : Int)] 28) := ⟨_, rfl⟩
  rw [← hw5] at KB5 HB5
  obtain ⟨cb, wb, hcv, hBR, hbb, hcb⟩ := conv_bytes w5 a1 (by omega)
  have HW5 := Aside0.mk hw5
  have HBR := Aside0.mk hBR
  have HBB := Aside0.mk hbb
  have hi' : a2 % (a1.size : Int) = (i : Int) := by have := HI.out; rwa [Int.tmod_eq_emod_of_nonneg h20] at this
  have hxl2 : (0 : Int) < (a1.size : Int) := by omega
  clear hw5 hBR hbb HI HB4
  go_upto_region 6 with (fail)
  rw [← HW5.out]
  go_upto_region 8 with (fail)
  rw [hi']
  clear hi' hcv
  have HWB := Aside0.mk (show w5.heap.size ≤ w5.heap.size from Nat.le_refl _)
  have h5 := HB5.out.size
  go_loopw [11] (fun v11 wr => ∃ (kx : Nat) (xs : List Int), v11 = .int .i64 (kx : Int) ∧ kx ≤ a1.size + 6 ∧ xs.length = a1.size ∧ Aside0 (BRow wr w5.heap.size cb xs) ∧ Aside0 (Below w5.heap.size w5 wr)) (fun v11 _ => a1.size + 7 - (intOf v11).toNat)
  case atStart => exact ⟨i, bytesOf a1, rfl, by omega, bytesOf_length a1, HBR, HBB⟩
  case round =>
    obtain ⟨kx, xs, rfl, hkx, hxs, HBX, HBY⟩ := hrel
    by_cases hkn : kx < a1.size
    · have hkb : decide ((kx : Int) < (a1.size : Int)) = true := decide_eq_true (by omega)
      have hkb2 : (kx : Int) < (a1.size : Int) := by omega
      have b0 := HBX.out.cell (j := kx) (by omega)
      have f0 := HBX.out.frozen (j := kx) (by omega)
      have HBX2 := Aside0.mk (HBX.out.set kx a3)
      have HBY2 := Aside0.mk (HBY.out.setCell (p := ⟨w5.heap.size, kx, none⟩) (Nat.le_refl _) (.int .u8 a3))
      have HXS := Aside0.mk (show (xs.set kx a3).length = a1.size by rw [List.length_set]; exact hxs)
      clear hxs
      go_wp2_with fail
      exact ⟨⟨kx + 7, xs.set kx a3, rfl, by omega, HXS.out, HBX2, HBY2⟩, by simp [intOf]; omega⟩
    · have hkb : decide ((kx : Int) < (a1.size : Int)) = false := decide_eq_false (by omega)
      have HXS := Aside0.mk hxs
      have HBW := Aside0.mk (HB5.out.trans (HBY.out.mono h5))
      have KBW := Aside0.mk (blk_below KB5.out HBY.out)
      have x0 := (blk_cell KBW.out 0).trans (show _ = some (Value.int .i64 n) from rfl)
      have x1 := (blk_cell KBW.out 1).trans (show _ = some (Value.int .i64 a) from rfl)
      clear hxs KB5 HB5 HBY HBR HBB hkx
      go_wp2_with fail
      refine (erasure_Encode.calls k _ _ _ _ _ _ HE.out).mono ?_
      rintro e w6 ⟨v12, rfl, hO6, hb6⟩
      obtain ⟨A12, c12, rfl⟩ := Kd.R_slice hO6
      have HO6 := Aside0.mk (Kd.R_reads' hO6).2.2
      have HB6 := Aside0.mk (HBW.out.trans (hb6.mono HBW.out.size))
      have KB6 := Aside0.mk (blk_below KBW.out hb6)
      have HBX6 := Aside0.mk (HBX.out.below hb6)
      clear hO6 hb6 KBW HBW HBX x0 x1
      have y0 := (blk_cell KB6.out 0).trans (show _ = some (Value.int .i64 n) from rfl)
      have y1 := (blk_cell KB6.out 1).trans (show _ = some (Value.int .i64 a) from rfl)
      have hcv := HBX6.out.string
      rw [HXS.out] at hcv
      obtain ⟨ly, hE2, hl2, hv1, hv2⟩ := HD.out (strOfNums xs) (by rw [strOfNums_size, HXS.out])
      have HE2 := Aside0.mk hE2
      have HL2 := Aside0.mk hl2
      have HV1 := Aside0.mk hv1
      have HV2 := Aside0.mk hv2
      clear hE2 hl2 hv1 hv2 HD
      go_wp2_with fail
      clear hcv y0 y1
      refine (erasure_Encode.calls k _ _ _ _ _ _ HE2.out).mono ?_
      rintro e w7 ⟨v14, rfl, hO7, hb7⟩
      obtain ⟨A14, c14, rfl⟩ := Kd.R_slice hO7
      have HO7 := Aside0.mk (Kd.R_reads' hO7).2.2
      have HB7 := Aside0.mk (HB6.out.trans (hb7.mono HB6.out.size))
      have KB7 := Aside0.mk (blk_below KB6.out hb7)
      have HBX7 := Aside0.mk (HBX6.out.below hb7)
      have HO67 := Aside0.mk (Kd.C_below HO6.out hb7)
      clear hO7 hb7 KB6 HB6 HBX6 HO6
      have y0 := (blk_cell KB7.out 0).trans (show _ = some (Value.int .i64 n) from rfl)
      have y1 := (blk_cell KB7.out 1).trans (show _ = some (Value.int .i64 a) from rfl)
      have hlb1 : ((lx.length : Int) != (a : Int)) = false := by rw [HL.out]; simp
      have hlb2 : ((ly.length : Int) != (a : Int)) = false := by rw [HL2.out]; simp
      go_upto_region 17 with (fail)
      clear y0 y1 hlb1 hlb2
      have hla := HL.out
      have hlb := HL2.out
      go_loopw [16, 88] (fun v16 v88 wr => ∃ (j s : Nat), v88 = .int .i64 (j : Int) ∧ v16 = .int .i64 (s : Int) ∧ j ≤ lx.length ∧ Aside0 (s = sameN lx ly j) ∧ Aside0 (Below w7.heap.size w7 wr)) (fun _ v88 _ => lx.length - (intOf v88).toNat)
      case atStart => exact ⟨0, 0, rfl, rfl, Nat.zero_le _, ⟨rfl⟩, ⟨Below.refl _ _⟩⟩
      case round =>
        rename_i wr2 _
        obtain ⟨j, s, rfl, rfl, hj, HJ, HBB⟩ := hrel
        have hs9 : s ≤ 9 := by have := sameN_le lx ly j; have := HJ.out; omega
        by_cases hjn : j < lx.length
        · have hjb : decide ((j : Int) < (lx.length : Int)) = true := decide_eq_true (by omega)
          obtain ⟨ad, e, hc0, hc1⟩ := at_T37 HO67.out (j : Int) (by omega) (by omega)
          subst e
          obtain ⟨ad2, e, hd0, hd1⟩ := at_T37 HO7.out (j : Int) (by omega) (by omega)
          subst e
          replace hc0 := pw_cell_below HBB.out hc0
          replace hc1 := pw_cell_below HBB.out hc1
          replace hd0 := pw_cell_below HBB.out hd0
          replace hd1 := pw_cell_below HBB.out hd1
          rw [Int.toNat_natCast] at hc0 hc1 hd0 hd1
          have HSN := Aside0.mk (show sameN lx ly (j + 1) = sameN lx ly j + if eqS (rd_T37 lx (j : Int)) (rd_T37 ly (j : Int)) = true then 1 else 0 from rfl)
          generalize rd_T37 lx (j : Int) = x at hc0 hc1 HSN
          generalize rd_T37 ly (j : Int) = y at hd0 hd1 HSN
          obtain ⟨x0, x1⟩ := x
          obtain ⟨y0, y1⟩ := y
          simp only at hc0 hc1 hd0 hd1
          have HEQ := Aside0.mk (show eqS ⟨x0, x1⟩ ⟨y0, y1⟩ = (x0 == y0 && (x1.toList == y1.toList)) from rfl)
          have hj1 : (j : Int) < (lx.length : Int) := by omega
          have hj2 : (j : Int) < (ly.length : Int) := by omega
          have HB8 := Aside0.mk (below_drew1 HBB.out)
          go_upto_region 19 with (fail)
          go_region_held3 (fun w' => w'.cell? (ad.add (j * 2)) = some (.int .i64 x0) ∧ w'.cell? ⟨(ad.add (j * 2)).block, (ad.add (j * 2)).off + 1, none⟩ = some (.string x1) ∧ w'.cell? (ad2.add (j * 2)) = some (.int .i64 y0) ∧ w'.cell? ⟨(ad2.add (j * 2)).block, (ad2.add (j * 2)).off + 1, none⟩ = some (.string y1)) (first | go_keep) (fail)
          all_goals
            clear hc0 hc1 hd0 hd1
            by_cases heq : eqS ⟨x0, x1⟩ ⟨y0, y1⟩ = true
            · have hv := HEQ.out.symm.trans heq
              have hs := HSN.out
              rw [if_pos heq] at hs
              have HS2 := Aside0.mk (show s + 1 = sameN lx ly (j + 1) by rw [hs, HJ.out])
              rw [hv]
              clear hv hs heq HEQ HSN HJ HBB
              go_wp2_with fail
              exact ⟨⟨j + 1, s + 1, rfl, rfl, hjn, HS2, HB8⟩, by simp [intOf]; omega⟩
            · have hv := HEQ.out.symm.trans (Bool.eq_false_iff.2 heq)
              have hs := HSN.out
              rw [if_neg heq] at hs
              have HS2 := Aside0.mk (show s = sameN lx ly (j + 1) by rw [hs, HJ.out]; rfl)
              rw [hv]
              clear hv hs heq HEQ HSN HJ HBB
              go_wp2_with fail
              exact ⟨⟨j + 1, s, rfl, rfl, hjn, HS2, HB8⟩, by simp [intOf]; omega⟩
        · have hjb : decide ((j : Int) < (lx.length : Int)) = false := decide_eq_false (by omega)
          obtain rfl : lx.length = j := by omega
          have HSA := Aside0.mk (show s = sameN lx ly a by rw [HJ.out, HL.out])
          have HBZ := Aside0.mk (HB7.out.trans (HBB.out.mono HB7.out.size))
          have KB8 := Aside0.mk (blk_below KB7.out HBB.out)
          have HBX8 := Aside0.mk (HBX7.out.below HBB.out)
          have y0 := (blk_cell KB8.out 0).trans (show _ = some (Value.int .i64 n) from rfl)
          have y1 := (blk_cell KB8.out 1).trans (show _ = some (Value.int .i64 a) from rfl)
          have hcv := HBX8.out.string
          rw [HXS.out] at hcv
          by_cases hd : a1.toList = (strOfNums xs).toList
          · have hdb : (a1.toList == (strOfNums xs).toList) = true := beq_iff_eq.2 hd
            have hsa : ((s : Int) == (a : Int)) = true := by
              rw [beq_iff_eq, HSA.out, HV1.out hd]
            go_wp2_with fail
            go_ret
            exact ⟨rfl, HBZ.out⟩
          · have hdb : (a1.toList == (strOfNums xs).toList) = false := beq_eq_false_iff_ne.2 hd
            have hsa : decide ((s : Int) < (n : Int)) = true := by
              have := HV2.out hd
              rw [← HSA.out] at this
              exact decide_eq_true (by omega)
            have HSL := Aside0.mk (of_decide_eq_true hsa)
            clear hsa
            go_wp2_with fail
            go_ret
            exact ⟨by show Ending.returned (Value.bool (decide (s < n))) = _; rw [decide_eq_true (Int.ofNat_lt.1 HSL.out)], HBZ.out⟩
#print axioms storagebarterlaw07_ErasureDistance.main
end Go.Proofs.Ytgmadofbelhmeaa.L
end
section
/- law07's ErasureDistance: what is left to the plain law, and the walk of the whole. -/
namespace Go.Proofs.Ytgmadofbelhmeaa.L
open Go.RowKit Go.Proofs.YtgmadofbelhmeaaW.PrintWords Go.Proofs.YtgmadofbelhmeaaW.PrintLast Go.Proofs.YtgmadofbelhmeaaW.PrintMore
set_option linter.unusedVariables false
set_option linter.unusedSimpArgs false
def ErasureDistanceMain (k : Nat) (l0 : List Int) (a1 : ByteArray) (a2 a3 : Int) : Prop :=
  ∃ (n a i : Nat) (p1 : Int) (lx : List S37), 0 < a ∧ a ≤ 9 ∧ n ≤ a ∧ a2.tmod (a1.size : Int) = (i : Int) ∧ storagebartermake_Code.f l0 0 = some ((n : Int), (a : Int), p1) ∧
    erasure_Encode.f k n a a1 = some (lx, 0) ∧ lx.length = a ∧ ∀ bs : ByteArray, bs.size = a1.size → ∃ ly, DistWay k n a a1 lx bs ly
def storagebarterlaw07_ErasureDistance.Pure : Prop := ∀ (l0 : List Int) (a1 : ByteArray) (a2 a3 : Int), 0 ≤ a2 → a2 ≤ 65535 → 0 ≤ a3 → a3 ≤ 255 →
  ∃ k, storagebarterlaw07_sane.f k = some true ∧ (l0.length ≤ 500 → a1.size ≤ 600 → 0 < a1.size → ErasureDistanceMain k l0 a1 a2 a3)
set_option maxHeartbeats 600000 in
set_option maxRecDepth 100000 in
theorem storagebarterlaw07_ErasureDistance.early (k : Nat) (A0 : Option Addr) (c0 : Nat) (l0 : List Int) (a1 : ByteArray) (a2 a3 : Int) (w : World)
    (hr0 : Kd.C (Kd.int .i64) w A0 l0.length l0) (hc0 : l0.length ≤ c0) 
    (hS : storagebarterlaw07_sane.f k = some true) (hno : ¬ (l0.length ≤ 500 ∧ a1.size ≤ 600 ∧ 0 < a1.size)) :
    Calls Try.prog 6 #[.slice A0 l0.length c0, .string a1, .int .u16 a2, .int .u8 a3] w fun e w' => e = .returned (.bool true) ∧ Below w.heap.size w w' := by
  have HR0 := Aside0.mk hr0
  have HC0 := Aside0.mk hc0
  have HS := Aside0.mk hS
  clear hr0 hc0 hS
  by_cases hF : l0.length ≤ 500
  · have HF := Aside0.mk (show storagebartermake_Few.f l0 = some true by unfold storagebartermake_Few.f; rw [decide_eq_true (by omega)])
    by_cases hbig : a1.size ≤ 600
    · have h0 : a1.size = 0 := by omega
      have d2 : ((a1.size : Int) == 0) = true := by rw [h0]; rfl
      clear hno h0 hbig hF
      go_enter Try.func6, Try.ntmps6
      go_wp2_with fail
      refine (storagebarterlaw07_sane.calls k true _ HS.out).mono ?_
      rintro e w1 ⟨rfl, hb1⟩
      have HB1 := Aside0.mk hb1
      clear hb1
      go_wp2_with fail
      refine (storagebartermake_Few.calls _ _ l0 true _ (Kd.C_below HR0.out HB1.out) HC0.out HF.out).mono ?_
      rintro e w2 ⟨rfl, ⟨nd, rfl⟩⟩
      go_wp2_with fail
      go_ret
      exact ⟨rfl, pw_below_drewN HB1.out _⟩
    · have d1 : decide ((a1.size : Int) > 600) = true := decide_eq_true (by omega)
      have d2 : ((a1.size : Int) == 0) = false := by rw [beq_eq_false_iff_ne]; omega
      clear hno hbig hF
      go_enter Try.func6, Try.ntmps6
      go_wp2_with fail
      refine (storagebarterlaw07_sane.calls k true _ HS.out).mono ?_
      rintro e w1 ⟨rfl, hb1⟩
      have HB1 := Aside0.mk hb1
      clear hb1
      go_wp2_with fail
      refine (storagebartermake_Few.calls _ _ l0 true _ (Kd.C_below HR0.out HB1.out) HC0.out HF.out).mono ?_
      rintro e w2 ⟨rfl, ⟨nd, rfl⟩⟩
      go_wp2_with fail
      go_ret
      exact ⟨rfl, pw_below_drewN HB1.out _⟩
  · have HF := Aside0.mk (show storagebartermake_Few.f l0 = some false by unfold storagebartermake_Few.f; rw [decide_eq_false (by omega)])
    clear hF hno
    go_enter Try.func6, Try.ntmps6
    go_wp2_with fail
    refine (storagebarterlaw07_sane.calls k true _ HS.out).mono ?_
    rintro e w1 ⟨rfl, hb1⟩
    have HB1 := Aside0.mk hb1
    clear hb1
    go_wp2_with fail
    refine (storagebartermake_Few.calls _ _ l0 false _ (Kd.C_below HR0.out HB1.out) HC0.out HF.out).mono ?_
    rintro e w2 ⟨rfl, ⟨nd, rfl⟩⟩
    go_wp2_with fail
    go_ret
    exact ⟨rfl, pw_below_drewN HB1.out _⟩
theorem u8_wf2 {a : Int} (h : (Lit.int .u8 a).wf = true) : 0 ≤ a ∧ a ≤ 255 := by
  simp only [Lit.wf, Bool.and_eq_true, decide_eq_true_eq] at h
  exact ⟨h.1, h.2⟩
theorem u16_wf2 {a : Int} (h : (Lit.int .u16 a).wf = true) : 0 ≤ a ∧ a ≤ 65535 := by
  simp only [Lit.wf, Bool.and_eq_true, decide_eq_true_eq] at h
  exact ⟨h.1, h.2⟩
theorem storagebarterlaw07_ErasureDistance.walk (P : storagebarterlaw07_ErasureDistance.Pure) (a0 : Option Addr) (len0 cap0 : Nat) (z0 : List Int) (a1 : ByteArray) (a2 : Int) (a3 : Int) (w : World) (w0 : (a0 = none ∧ len0 = 0 ∧ cap0 = 0 ∧ z0 = []) ∨ ∃ x, a0 = some x ∧ len0 ≤ cap0 ∧ cap0 ≤ maxLen ∧ z0.length = cap0 ∧ (∀ i, i < z0.length → w.cell? (x.add i) = some (.int .i64 (z0.getD i 0))) ∧ ∀ n ∈ z0, (Lit.int .i64 n).wf = true) (y0 : len0 * 8 ≤ 140737488351232) (w1 : a1.size ≤ 140737488351232) (w2 : (Lit.int .u16 a2).wf = true) (w3 : (Lit.int .u8 a3).wf = true) :
    Calls Try.prog 6 #[.slice a0 len0 cap0, .string a1, .int .u16 a2, .int .u8 a3] w fun e w' => e = .returned (.bool true) ∧ Below w.heap.size w w' := by
  obtain ⟨l0, rfl, hr0, hm0, hw0, hc0⟩ := ReadsInt.ofRowC w0
  obtain ⟨h20, h2⟩ := u16_wf2 w2
  obtain ⟨h30, h3⟩ := u8_wf2 w3
  obtain ⟨k, hS, hM⟩ := P l0 a1 a2 a3 h20 h2 h30 h3
  have hr := Kd.C_of_reads (d := (0 : Int)) (h1 := fun _ => rfl) hr0
  by_cases hno : l0.length ≤ 500 ∧ a1.size ≤ 600 ∧ 0 < a1.size
  · obtain ⟨n, a, i, p1, lx, g1, g2, g3, g4, g5, g6, g7, g8⟩ := hM hno.1 hno.2.1 hno.2.2
    exact storagebarterlaw07_ErasureDistance.main k _ _ l0 a1 a2 a3 n a i p1 lx w hr hc0 h20 h2 h30 h3 g1 g2 g3 hS (by unfold storagebartermake_Few.f; rw [decide_eq_true (by omega)]) hno.2.1 hno.2.2 g4 g5 g6 g7 g8
  · exact storagebarterlaw07_ErasureDistance.early k _ _ l0 a1 a2 a3 w hr hc0 hS hno
#print axioms storagebarterlaw07_ErasureDistance.walk
end Go.Proofs.Ytgmadofbelhmeaa.L
end
section
/- The plain law of ErasureDistance: the way that the row's function takes is there at every input.
Conditions: those of the given statement alone. -/
namespace Go.Proofs.Ytgmadofbelhmeaa.Pure
open Go.RowKit Go.Proofs.Ytgmadofbelhmeaa.L Go.Proofs.YtgmadofbelhmeaaW.PrintWords Go.Proofs.YtgmadofbelhmeaaW.PrintLast Go.Proofs.YtgmadofbelhmeaaW.PrintMore
set_option linter.unusedVariables false
set_option linter.unusedSimpArgs false
theorem sameN_filter (lx ly : List S37) : ∀ j, sameN lx ly j = ((List.range j).filter fun t : Nat => eqS (rd_T37 lx (t : Int)) (rd_T37 ly (t : Int))).length
  | 0 => rfl
  | j + 1 => by
    unfold sameN
    rw [List.range_succ, List.filter_append, List.length_append, sameN_filter lx ly j]
    congr 1
    by_cases h : eqS (rd_T37 lx (j : Int)) (rd_T37 ly (j : Int)) = true
    · rw [if_pos h]
      simp [h]
    · rw [if_neg h]
      simp [h]
theorem eqS_self (x : S37) : eqS x x = true := by
  unfold eqS
  simp
theorem sameN_self (l : List S37) : ∀ j, sameN l l j = j
  | 0 => rfl
  | j + 1 => by
    unfold sameN
    rw [sameN_self l j, if_pos (eqS_self _)]
theorem eqS_eq {x y : S37} (h : eqS x y = true) : x = y := by
  unfold eqS at h
  rw [Bool.and_eq_true, beq_iff_eq, beq_iff_eq] at h
  cases x
  cases y
  obtain ⟨h1, h2⟩ := h
  simp only at h1 h2
  rw [h1, toList_inj h2]
theorem distance_core {n a : Nat} {s b : ByteArray} (h1 : 1 ≤ n) (hn : n ≤ 5) (ha : n ≤ a) (ha4 : a ≤ n + 4) (hs : s.size ≤ 800) (hb : b.size = s.size) (hne : ¬ s.toList = b.toList) :
    sameN (shardsN n a (lenN n s.size) (padded n s)) (shardsN n a (lenN n b.size) (padded n b)) a < n := by
  rcases Nat.lt_or_ge (sameN (shardsN n a (lenN n s.size) (padded n s)) (shardsN n a (lenN n b.size) (padded n b)) a) n with h | h
  · exact h
  · exfalso
    rw [sameN_filter] at h
    obtain ⟨I, hI⟩ : ∃ I, I = (List.range a).filter fun t : Nat => eqS (rd_T37 (shardsN n a (lenN n s.size) (padded n s)) (t : Int)) (rd_T37 (shardsN n a (lenN n b.size) (padded n b)) (t : Int)) := ⟨_, rfl⟩
    rw [← hI] at h
    have hmemI : ∀ t, t ∈ I → t < a ∧ shardN n a (lenN n s.size) (padded n s) t = shardN n a (lenN n b.size) (padded n b) t := by
      intro t ht
      rw [hI, List.mem_filter, List.mem_range] at ht
      refine ⟨ht.1, ?_⟩
      have h2 := eqS_eq ht.2
      rwa [shardsN_rd ht.1, shardsN_rd ht.1] at h2
    have hpI : I.Pairwise (· < ·) := by
      rw [hI]
      exact List.pairwise_lt_range.filter _
    have hpw : (I.map (shardN n a (lenN n s.size) (padded n s))).Pairwise (fun x y => x.f0 ≠ y.f0) := by
      rw [List.pairwise_map]
      refine hpI.imp ?_
      intro i j hij
      show (i : Int) ≠ (j : Int)
      omega
    have hm1 : ∀ x, x ∈ I.map (shardN n a (lenN n s.size) (padded n s)) → ∃ i, i < a ∧ x = shardN n a (lenN n s.size) (padded n s) i := by
      intro x hx
      obtain ⟨t, ht, rfl⟩ := List.mem_map.1 hx
      exact ⟨t, (hmemI t ht).1, rfl⟩
    have hm2 : ∀ x, x ∈ I.map (shardN n a (lenN n s.size) (padded n s)) → ∃ i, i < a ∧ x = shardN n a (lenN n b.size) (padded n b) i := by
      intro x hx
      obtain ⟨t, ht, rfl⟩ := List.mem_map.1 hx
      exact ⟨t, (hmemI t ht).1, (hmemI t ht).2⟩
    have hl : n ≤ (I.map (shardN n a (lenN n s.size) (padded n s))).length := by rw [List.length_map]; exact h
    have e1 := decode_some h1 hn ha ha4 hs hm1 hpw hl
    have e2 := decode_some h1 hn ha ha4 (by omega) hm2 hpw hl
    rw [hb, e1] at e2
    injection e2 with e2
    injection e2 with e2
    exact hne (by rw [e2])
theorem ErasureDistance : storagebarterlaw07_ErasureDistance.Pure := by
  intro l0 a1 a2 a3 h20 h2 h30 h3
  refine ⟨2000, sane_true (by omega), fun hf hs hs0 => ?_⟩
  obtain ⟨n, a, p1, n1, n5, na, a4, hp1, hC⟩ := code_some hf
  obtain ⟨i, hi⟩ : ∃ i : Nat, a2.tmod (a1.size : Int) = (i : Int) := ⟨(a2.tmod (a1.size : Int)).toNat, by have := Int.tmod_nonneg (a := a2) (a1.size : Int) h20; omega⟩
  refine ⟨n, a, i, p1, _, by omega, by omega, na, hi, hC, encode_some n1 n5 na a4 (by omega) (by omega), shardsN_length _ _ _ _, fun bs hbs => ?_⟩
  refine ⟨_, encode_some n1 n5 na a4 (by omega) (by omega), shardsN_length _ _ _ _, fun h => ?_, fun h => distance_core n1 n5 na a4 (by omega) hbs h⟩
  have e := toList_inj h
  subst e
  exact sameN_self _ _
end Go.Proofs.Ytgmadofbelhmeaa.Pure
end
