/- Texts of this claim, put together by a small program of the session's own: MNot, MNotW, PureErasureNotices. -/
import Derived.Test.YtgmadofbelhmeaaH4
import Derived.Test.YtgmadofbelhmeaaH5
import Derived.Test.YtgmadofbelhmeaaH9
import Derived.Deep.RegionLaw
section
/- law07's ErasureNotices: the walk along the way that the plain law tells. -/
namespace Go.Proofs.Ytgmadofbelhmeaa.L
open Go.RowKit Go.Proofs.YtgmadofbelhmeaaW.PrintWords Go.Proofs.YtgmadofbelhmeaaW.PrintLast Go.Proofs.YtgmadofbelhmeaaW.PrintMore
set_option linter.unusedVariables false
set_option linter.unusedSimpArgs false
set_option maxHeartbeats 600000 in
set_option maxRecDepth 100000 in
theorem storagebarterlaw07_ErasureNotices.main (k : Nat) (A0 : Option Addr) (c0 : Nat) (l0 : List Int) (a1 : ByteArray) (a2 a3 : Int) (n a aa r m kk i : Nat) (p1 p2 p3 p4 : Int) (l part : List S37) (ok : Bool) (w : World)
    (hr0 : Kd.C (Kd.int .i64) w A0 l0.length l0) (hc0 : l0.length ≤ c0)
    (h20 : 0 ≤ a2) (h2 : a2 ≤ 65535) (h30 : 0 ≤ a3) (h3 : a3 ≤ 255) (ha9 : aa ≤ 9) (hn : n + 1 ≤ aa) (haa : aa = if a = n then n + 1 else a)
    (hS : storagebarterlaw07_sane.f k = some true) (hF : storagebartermake_Few.f l0 = some true) (hsz : a1.size ≤ 800) (hsz0 : 0 < a1.size)
    (hC : storagebartermake_Code.f l0 0 = some ((n : Int), (a : Int), p1))
    (hE : erasure_Encode.f k n aa a1 = some (l, 0)) (hl : l.length = aa)
    (hN1 : storagebartermake_Deck_Next.f l0 p1 ((aa : Int) - (n : Int)) = some ((r : Int), p2)) (hr : r ≤ 9) (hm : m = n + 1 + r)
    (hso : storagebarterlaw07_some.f l0 p2 l m = some (part, p3)) (hpl : part.length ≤ 9) (hkk : kk < part.length)
    (hN2 : storagebartermake_Deck_Next.f l0 p3 (part.length : Int) = some ((kk : Int), p4))
    (hxl : 0 < (rd_T37 part (kk : Int)).f1.size) (hxs : (rd_T37 part (kk : Int)).f1.size ≤ 1000) (hi : a2.tmod ((rd_T37 part (kk : Int)).f1.size : Int) = (i : Int))
    (hA : erasure_Agree.f k n aa a1.size (setData part kk (strOfNums ((bytesOf (rd_T37 part (kk : Int)).f1).set i a3))) = some (ok, 0))
    (hok : ok = ((bytesOf (rd_T37 part (kk : Int)).f1).getD i 0 == a3)) :
    Calls Try.prog 7 #[.slice A0 l0.length c0, .string a1, .int .u16 a2, .int .u8 a3] w fun e w' => e = .returned (.bool true) ∧ Below w.heap.size w w' := by
  have hu28 := Try.underlying28
  have hu37 := Try.underlying37
  have HR0 := Aside0.mk hr0
  have HC0 := Aside0.mk hc0
  have HS := Aside0.mk hS
  have HF := Aside0.mk hF
  have HC := Aside0.mk hC
  have HE := Aside0.mk hE
  have HL := Aside0.mk hl
  have HN1 := Aside0.mk hN1
  have HM := Aside0.mk hm
  have HSO := Aside0.mk hso
  have HN2 := Aside0.mk hN2
  have HA := Aside0.mk hA
  have HI := Aside0.mk hi
  have HOK := Aside0.mk hok
  have HAA := Aside0.mk haa
  have HNW := Aside0.mk (show storagebartermake_New.f l0 = some (l0, 0) from rfl)
  have d1 : decide ((a1.size : Int) > 800) = false := decide_eq_false (by omega)
  have d2 : ((a1.size : Int) == 0) = false := by
    rw [beq_eq_false_iff_ne]
    omega
  have hil : i < (rd_T37 part (kk : Int)).f1.size := by
    have := Int.tmod_lt_of_pos a2 (show (0 : Int) < ((rd_T37 part (kk : Int)).f1.size : Int) by omega)
    omega
  clear hr0 hc0 hS hF hC hE hl hN1 hm hso hN2 hA hi hok haa
  go_enter Try.func7, Try.ntmps7
  go_wp2_with fail
  refine (storagebarterlaw07_sane.calls k true _ HS.out).mono ?_
  rintro e w1 ⟨rfl, hb1⟩
  have HB1 := Aside0.mk hb1
  clear hb1
  go_wp2_with fail
  refine (storagebartermake_Few.calls _ _ l0 true _ (Kd.C_below HR0.out HB1.out) HC0.out HF.out).mono ?_
  rintro e w2 ⟨rfl, ⟨nd, rfl⟩⟩
  go_wp2_with fail
  refine (storagebartermake_New.calls _ _ l0 l0 0 w _ (pw_below_drewN HB1.out _) HR0.out HC0.out HNW.out).mono ?_
  rintro e w3 ⟨g, rfl, hI3, hb3, _⟩
  have HI3 := Aside0.mk hI3
  have HB3 := Aside0.mk hb3
  clear hI3 hb3 HB1 d1 d2
  go_wp2_with fail
  refine (storagebartermake_Code.calls g l0 0 n a p1 w _ HI3.out HB3.out HC.out).mono ?_
  rintro e w4 ⟨rfl, hI4, hb4, hk4⟩
  have HI4 := Aside0.mk hI4
  have HB4 := Aside0.mk hb4
  clear hI4 hb4 hk4 HB3 HI3
  go_upto_if 43 with (fail)
  have hgs4 : g < w4.heap.size := HI4.out.lt
  have KB4 := Aside0.mk (blk_new w4 (.cells #[.int .i64 (n : Int), .int .i64 (a : Int)] 28))
  have HI41 := Aside0.mk (HI4.out.alloc (.cells #[.int .i64 (n : Int), .int .i64 (a : Int)] 28))
  have HB41 := Aside0.mk (below_alloc HB4.out (.cells #[.int .i64 (n : Int), .int .i64 (a : Int)] 28))
  have hws := HB4.out.size
  go_cut [46] (fun v46 wc => Aside0 (wc.heap[w4.heap.size]? = some (.cells #[.int .i64 n, .int .i64 aa] 28 (0, 0))) ∧ Aside0 (IsS59 w wc g l0 p1) ∧ Aside0 (Below w.heap.size w wc))
  case first =>
    by_cases han : a = n
    · have e := HAA.out
      rw [if_pos han] at e
      subst e han
      have x1 := (blk_cell KB4.out 1).trans (show _ = some (Value.int .i64 (a : Int)) from rfl)
      have f1 := blk_frozen KB4.out 1
      have hb9 : (a : Int) ≤ 9 := by omega
      go_wp2_with fail
      go_meet
      case rel => exact ⟨⟨blk_new w4 _⟩, ⟨HI4.out.alloc _⟩, ⟨below_alloc HB4.out _⟩⟩
    · have e := HAA.out
      rw [if_neg han] at e
      subst e
      have hb : ((aa : Int) == (n : Int)) = false := by rw [beq_eq_false_iff_ne]; omega
      rw [hb]
      go_wp2_with fail
      go_meet
      case rel => exact ⟨KB4, HI41, HB41⟩
  case rest =>
    clear HI4 HB4 KB4 HI41 HB41 HAA
    obtain ⟨KB4, HI4, HB4⟩ := hcut
    have x0 := (blk_cell KB4.out 0).trans (show _ = some (Value.int .i64 n) from rfl)
    have x1 := (blk_cell KB4.out 1).trans (show _ = some (Value.int .i64 aa) from rfl)
    go_wp2_with fail
    clear x0 x1
    refine (erasure_Encode.calls k _ _ _ _ _ _ HE.out).mono ?_
    rintro e w5 ⟨v9, rfl, hO5, hb5⟩
    obtain ⟨KB5, HI5, HB5⟩ : Aside0 (w5.heap[w4.heap.size]? = some (.cells #[.int .i64 n, .int .i64 aa] 28 (0, 0))) ∧ Aside0 (IsS59 w w5 g l0 p1) ∧ Aside0 (Below w.heap.size w w5) :=
      ⟨⟨blk_below KB4.out hb5⟩, ⟨HI4.out.below hb5⟩, ⟨HB4.out.trans (hb5.mono HB4.out.size)⟩⟩
    obtain ⟨A9, c9, rfl⟩ := Kd.R_slice hO5
    have HO5 := Aside0.mk hO5
    have hlb : ((l.length : Int) != (aa : Int)) = false := by rw [HL.out]; simp
    have x0 := (blk_cell KB5.out 0).trans (show _ = some (Value.int .i64 n) from rfl)
    have x1 := (blk_cell KB5.out 1).trans (show _ = some (Value.int .i64 aa) from rfl)
    have hgc := HI4.out.lt
    clear hO5 hb5 KB4 HI4 HB4
    go_wp2_with fail
    clear x0 x1 hlb
    obtain ⟨gr, cp9, e9, hgr0, hgr1, _⟩ := Kd.R_form HO5.out (by have := HL.out; omega)
    injection e9 with e9 _ e9c
    subst e9 e9c
    have hgrg : gr ≠ g := Nat.ne_of_gt (Nat.lt_of_lt_of_le hgc hgr0)
    have hl9 : l.length ≤ 9 := by have := HL.out; omega
    have HO9 := Aside0.mk (show ∀ W_, KeepBut w5 W_ g none → Kd.C k37 W_ (some ⟨gr, 0, none⟩) l.length l from fun W_ hk => C_block (by omega) (Kd.R_reads' HO5.out).2.2 (hk.2 gr hgr1 hgrg (by simp)))
    have HCAP := Aside0.mk ((Kd.R_reads' HO5.out).2.1)
    have y0 := (blk_cell KB5.out 0).trans (show _ = some (Value.int .i64 n) from rfl)
    have y1 := (blk_cell KB5.out 1).trans (show _ = some (Value.int .i64 aa) from rfl)
    have hw1 : IntKind.i64.wrap ((n : Int) + 1) = (n : Int) + 1 := (i64_w _).trans (w64' (by omega) (by omega))
    have hw2 : IntKind.i64.wrap ((aa : Int) - (n : Int)) = (aa : Int) - (n : Int) := (i64_w _).trans (w64' (by omega) (by omega))
    have hw3 : IntKind.i64.wrap ((n : Int) + 1 + (r : Int)) = (m : Int) := by
      rw [HM.out]
      exact (i64_w _).trans ((w64' (by omega) (by omega)).trans (by omega))
    clear hgr0 hgr1 hgrg hl9
    go_region_held3 (fun w' => w'.cell? ⟨w4.heap.size, 0, none⟩ = some (.int .i64 (n : Int)) ∧ w'.cell? ⟨w4.heap.size, 1, none⟩ = some (.int .i64 (aa : Int))) (first | exact ⟨y0, y1⟩ | exact ⟨z0, z1⟩ | exact ⟨u0, u1⟩) (first | ((with_reducible refine (storagebartermake_Deck_Next.calls g l0 p1 ((aa : Int) - (n : Int)) r p2 w _ HI5.out.drew HB5.out.drew HN1.out).mono ?_); rintro e w6 ⟨rfl, hi6, hb6, hk6⟩; have KB6 := Aside0.mk ((hk6.2 w4.heap.size (blk_lt KB5.out) (Nat.ne_of_gt hgs4) (by simp)).trans KB5.out); have HI6 := Aside0.mk hi6; have HB6 := Aside0.mk hb6; have HK6 := Aside0.mk (show KeepBut w5 w6 g none from hk6); have z0 := (blk_cell KB6.out 0).trans (show _ = some (Value.int .i64 n) from rfl); have z1 := (blk_cell KB6.out 1).trans (show _ = some (Value.int .i64 aa) from rfl); clear hi6 hb6 hk6) | ((with_reducible refine (storagebarterlaw07_some.calls g l0 p2 (some ⟨gr, 0, none⟩) c9 l m part p3 w _ HI6.out HB6.out (fun W_ hk => HO9.out W_ (HK6.out.trans hk (.inl rfl))) HCAP.out HSO.out).mono ?_); rintro e w7 ⟨v13, rfl, hO7, hi7, hb7, hk7⟩; have KB7 := Aside0.mk ((hk7.2 w4.heap.size (blk_lt KB6.out) (Nat.ne_of_gt hgs4) (by simp)).trans KB6.out); have HI7 := Aside0.mk hi7; have HB7 := Aside0.mk hb7; have u0 := (blk_cell KB7.out 0).trans (show _ = some (Value.int .i64 n) from rfl); have u1 := (blk_cell KB7.out 1).trans (show _ = some (Value.int .i64 aa) from rfl); clear hi7 hb7))
    clear y0 y1 z0 z1 hw1 hw2 hw3 KB5 HI5 HB5 HO5 HO9 HE HN1 HSO
    obtain ⟨gp, cpp, e13, hgp0, hgp1, curp, hgpc⟩ := Kd.R_form hO7 (by omega)
    subst e13
    have hg6 := HI6.out.lt
    have hgpg : gp ≠ g := Nat.ne_of_gt (Nat.lt_of_lt_of_le hg6 hgp0)
    have hgp4 : gp ≠ w4.heap.size := Nat.ne_of_gt (Nat.lt_of_lt_of_le (blk_lt KB6.out) hgp0)
    have hwgp : w.heap.size ≤ gp := Nat.le_trans HB6.out.size hgp0
    have HC7 := Aside0.mk (Kd.R_reads' hO7).2.2
    have HCAP2 := Aside0.mk (Kd.R_reads' hO7).2.1
    have HGPC := Aside0.mk hgpc
    clear hO7 hgpc HI6 HB6 HK6 KB6 hk7 HCAP u0 u1
    go_wp2_with fail
    refine (storagebartermake_Deck_Next.calls g l0 p3 (part.length : Int) kk p4 w _ HI7.out HB7.out HN2.out).mono ?_
    rintro e w8 ⟨rfl, hi8, hb8, hk8⟩
    have HGP8 := Aside0.mk ((hk8.2 gp hgp1 hgpg (by simp)).trans HGPC.out)
    have HC8 := Aside0.mk (C_block (by omega) HC7.out (hk8.2 gp hgp1 hgpg (by simp)))
    have KB8 := Aside0.mk ((hk8.2 w4.heap.size (blk_lt KB7.out) (Nat.ne_of_gt hgs4) (by simp)).trans KB7.out)
    have HB8 := Aside0.mk hb8
    clear hi8 hb8 hk8 HC7 HGPC KB7 HI7 HB7 HN2
    obtain ⟨ad, e, hc0, hc1⟩ := at_T37 HC8.out (kk : Int) (by omega) (by omega)
    cases e
    rw [Int.toNat_natCast, add_plain] at hc1
    clear hc0
    obtain ⟨cb, wb, hcv, hBR, hbb, hcb⟩ := conv_bytes w8 (rd_T37 part (kk : Int)).f1 (by omega)
    have hgp8 : gp < w8.heap.size := blk_lt HGP8.out
    have hgpb : gp ≠ w8.heap.size := Nat.ne_of_lt hgp8
    have HGPB := Aside0.mk (blk_below HGP8.out hbb)
    have HGP2 := Aside0.mk (blk_far HGPB.out (p := ⟨w8.heap.size, i, none⟩) hgpb (.int .u8 a3))
    have HC2 := Aside0.mk (C_block (W' := wb.setCell ⟨w8.heap.size, i, none⟩ (.int .u8 a3)) (by omega) HC8.out (HGP2.out.trans HGP8.out.symm))
    have HSET := Aside0.mk (C37_set (s := strOfNums ((bytesOf (rd_T37 part (kk : Int)).f1).set i a3)) HGP2.out HC2.out (by omega) hkk)
    obtain ⟨ad2, e2, _, hc2⟩ := at_T37 HC2.out (kk : Int) (by omega) (by omega)
    cases e2
    rw [Int.toNat_natCast, add_plain] at hc2
    have HCX := Aside0.mk hc2
    have HBE := Aside0.mk (hBR.set i a3)
    have HKB2 := Aside0.mk ((Below.heap_setCell wb ⟨w8.heap.size, i, none⟩ (.int .u8 a3) w4.heap.size (Nat.ne_of_lt (blk_lt KB8.out))).trans (blk_below KB8.out hbb))
    clear hc2
    have HDL := Aside0.mk (setData_length part kk (strOfNums ((bytesOf (rd_T37 part (kk : Int)).f1).set i a3)))
    generalize setData part kk (strOfNums ((bytesOf (rd_T37 part (kk : Int)).f1).set i a3)) = part2 at HA HSET HDL
    generalize (rd_T37 part (kk : Int)).f1 = x at hc1 hcv hBR hcb HSET hxl hxs hil HI HOK HCX HBE
    have hkk2 : (kk : Int) < (part.length : Int) := by omega
    have HBR := Aside0.mk hBR
    have HBB := Aside0.mk hbb
    have hil2 : (i : Int) < (x.size : Int) := by omega
    have hxl2 : (0 : Int) < (x.size : Int) := by omega
    have d3 : ((x.size : Int) == 0) = false := by rw [beq_eq_false_iff_ne]; omega
    have hi' : a2 % (x.size : Int) = (i : Int) := by have := HI.out; rwa [Int.tmod_eq_emod_of_nonneg h20] at this
    clear hBR hbb HI
    go_upto_region 18 with (fail)
    rw [hi']
    clear hi' d3 hcv hc1
    have b0 := HBR.out.cell (j := i) (by rw [bytesOf_length]; exact hil)
    have f0 := HBR.out.frozen (j := i) (by rw [bytesOf_length]; exact hil)
    have hcv2 := HBE.out.string
    rw [List.length_set, bytesOf_length] at hcv2
    have c2 := HCX.out
    have f2 := blk_frozen HGP2.out (kk * 2 + 1)
    have HB9 := Aside0.mk ((HB8.out.trans (HBB.out.mono HB8.out.size)).setCell (p := ⟨w8.heap.size, i, none⟩) (Nat.le_trans HB8.out.size (Nat.le_refl _)) (.int .u8 a3))
    have HB10 := Aside0.mk (HB9.out.setCell (p := ⟨gp, kk * 2 + 1, none⟩) hwgp (.string (strOfNums ((bytesOf x).set i a3))))
    have HKB3 := Aside0.mk (blk_far HKB2.out (p := ⟨gp, kk * 2 + 1, none⟩) (Ne.symm hgp4) (.string (strOfNums ((bytesOf x).set i a3))))
    have e0 := (blk_cell HKB3.out 0).trans (show _ = some (Value.int .i64 n) from rfl)
    have e1 := (blk_cell HKB3.out 1).trans (show _ = some (Value.int .i64 aa) from rfl)
    clear HKB2 HGP2 HC2 HGPB HGP8 HC8 KB8 HB8 HBR HBB HBE HCX
    go_wp2_with fail
    have HAC := erasure_Agree.calls k n aa a1.size (some ⟨gp, 0, none⟩) cpp part2 ok 0 _ HSET.out (by rw [HDL.out]; exact HCAP2.out) HA.out
    rw [HDL.out] at HAC
    refine HAC.mono ?_
    rintro e w10 ⟨rfl, hb10⟩
    have HBZ := Aside0.mk (HB10.out.trans (hb10.mono HB10.out.size))
    clear hb10 HAC
    have HOKS := Aside0.mk (HOK.out.trans (by rw [List.getD_eq_getElem?_getD] : _ = ((bytesOf x)[i]?.getD 0 == a3)))
    generalize ((bytesOf x)[i]?.getD 0 == a3) = same at HOKS
    go_wp2_with fail
    go_ret
    exact ⟨by rw [HOKS.out]; simp, HBZ.out⟩
#print axioms storagebarterlaw07_ErasureNotices.main
end Go.Proofs.Ytgmadofbelhmeaa.L
end
section
/- law07's ErasureNotices: what is left to the plain law, and the walk of the whole. -/
namespace Go.Proofs.Ytgmadofbelhmeaa.L
open Go.RowKit Go.Proofs.YtgmadofbelhmeaaW.PrintWords Go.Proofs.YtgmadofbelhmeaaW.PrintLast Go.Proofs.YtgmadofbelhmeaaW.PrintMore
set_option linter.unusedVariables false
set_option linter.unusedSimpArgs false
def ErasureNoticesMain (k : Nat) (l0 : List Int) (a1 : ByteArray) (a2 a3 : Int) : Prop :=
  ∃ (n a aa r m kk i : Nat) (p1 p2 p3 p4 : Int) (l part : List S37) (ok : Bool), aa ≤ 9 ∧ n + 1 ≤ aa ∧ aa = (if a = n then n + 1 else a) ∧ storagebartermake_Code.f l0 0 = some ((n : Int), (a : Int), p1) ∧
    erasure_Encode.f k n aa a1 = some (l, 0) ∧ l.length = aa ∧ storagebartermake_Deck_Next.f l0 p1 ((aa : Int) - (n : Int)) = some ((r : Int), p2) ∧ r ≤ 9 ∧ m = n + 1 + r ∧
    storagebarterlaw07_some.f l0 p2 l m = some (part, p3) ∧ part.length ≤ 9 ∧ kk < part.length ∧ storagebartermake_Deck_Next.f l0 p3 (part.length : Int) = some ((kk : Int), p4) ∧
    0 < (rd_T37 part (kk : Int)).f1.size ∧ (rd_T37 part (kk : Int)).f1.size ≤ 1000 ∧ a2.tmod ((rd_T37 part (kk : Int)).f1.size : Int) = (i : Int) ∧
    erasure_Agree.f k n aa a1.size (setData part kk (strOfNums ((bytesOf (rd_T37 part (kk : Int)).f1).set i a3))) = some (ok, 0) ∧ ok = ((bytesOf (rd_T37 part (kk : Int)).f1).getD i 0 == a3)
def storagebarterlaw07_ErasureNotices.Pure : Prop := ∀ (l0 : List Int) (a1 : ByteArray) (a2 a3 : Int), 0 ≤ a2 → a2 ≤ 65535 → 0 ≤ a3 → a3 ≤ 255 →
  ∃ k, storagebarterlaw07_sane.f k = some true ∧ (l0.length ≤ 500 → a1.size ≤ 800 → 0 < a1.size → ErasureNoticesMain k l0 a1 a2 a3)
set_option maxHeartbeats 600000 in
set_option maxRecDepth 100000 in
theorem storagebarterlaw07_ErasureNotices.early (k : Nat) (A0 : Option Addr) (c0 : Nat) (l0 : List Int) (a1 : ByteArray) (a2 a3 : Int) (w : World)
    (hr0 : Kd.C (Kd.int .i64) w A0 l0.length l0) (hc0 : l0.length ≤ c0) 
    (hS : storagebarterlaw07_sane.f k = some true) (hno : ¬ (l0.length ≤ 500 ∧ a1.size ≤ 800 ∧ 0 < a1.size)) :
    Calls Try.prog 7 #[.slice A0 l0.length c0, .string a1, .int .u16 a2, .int .u8 a3] w fun e w' => e = .returned (.bool true) ∧ Below w.heap.size w w' := by
  have HR0 := Aside0.mk hr0
  have HC0 := Aside0.mk hc0
  have HS := Aside0.mk hS
  clear hr0 hc0 hS
  by_cases hF : l0.length ≤ 500
  · have HF := Aside0.mk (show storagebartermake_Few.f l0 = some true by unfold storagebartermake_Few.f; rw [decide_eq_true (by omega)])
    by_cases hbig : a1.size ≤ 800
    · have d1 : decide ((a1.size : Int) > 800) = false := decide_eq_false (by omega)
      have h0 : a1.size = 0 := by omega
      have d2 : ((a1.size : Int) == 0) = true := by rw [h0]; rfl
      clear hno h0 hbig hF
      go_enter Try.func7, Try.ntmps7
      go_wp2_with fail
      refine (storagebarterlaw07_sane.calls k true _ HS.out).mono ?_
      rintro e w1 ⟨rfl, hb1⟩
      have HB1 := Aside0.mk hb1
      clear hb1
      go_wp2_with fail
      refine (storagebartermake_Few.calls _ _ l0 true _ (Kd.C_below HR0.out HB1.out) HC0.out HF.out).mono ?_
      rintro e w2 ⟨rfl, ⟨nd, rfl⟩⟩
      go_wp2_with fail
      go_ret
      exact ⟨rfl, pw_below_drewN HB1.out _⟩
    · have d1 : decide ((a1.size : Int) > 800) = true := decide_eq_true (by omega)
      clear hno hbig hF
      go_enter Try.func7, Try.ntmps7
      go_wp2_with fail
      refine (storagebarterlaw07_sane.calls k true _ HS.out).mono ?_
      rintro e w1 ⟨rfl, hb1⟩
      have HB1 := Aside0.mk hb1
      clear hb1
      go_wp2_with fail
      refine (storagebartermake_Few.calls _ _ l0 true _ (Kd.C_below HR0.out HB1.out) HC0.out HF.out).mono ?_
      rintro e w2 ⟨rfl, ⟨nd, rfl⟩⟩
      go_wp2_with fail
      go_ret
      exact ⟨rfl, pw_below_drewN HB1.out _⟩
  · have HF := Aside0.mk (show storagebartermake_Few.f l0 = some false by unfold storagebartermake_Few.f; rw [decide_eq_false (by omega)])
    clear hF hno
    go_enter Try.func7, Try.ntmps7
    go_wp2_with fail
    refine (storagebarterlaw07_sane.calls k true _ HS.out).mono ?_
    rintro e w1 ⟨rfl, hb1⟩
    have HB1 := Aside0.mk hb1
    clear hb1
    go_wp2_with fail
    refine (storagebartermake_Few.calls _ _ l0 false _ (Kd.C_below HR0.out HB1.out) HC0.out HF.out).mono ?_
    rintro e w2 ⟨rfl, ⟨nd, rfl⟩⟩
    go_wp2_with fail
    go_ret
    exact ⟨rfl, pw_below_drewN HB1.out _⟩
theorem u8_wf' {a : Int} (h : (Lit.int .u8 a).wf = true) : 0 ≤ a ∧ a ≤ 255 := by
  simp only [Lit.wf, Bool.and_eq_true, decide_eq_true_eq] at h
  exact ⟨h.1, h.2⟩
theorem u16_wf {a : Int} (h : (Lit.int .u16 a).wf = true) : 0 ≤ a ∧ a ≤ 65535 := by
  simp only [Lit.wf, Bool.and_eq_true, decide_eq_true_eq] at h
  exact ⟨h.1, h.2⟩
theorem storagebarterlaw07_ErasureNotices.walk (P : storagebarterlaw07_ErasureNotices.Pure) (a0 : Option Addr) (len0 cap0 : Nat) (z0 : List Int) (a1 : ByteArray) (a2 : Int) (a3 : Int) (w : World) (w0 : (a0 = none ∧ len0 = 0 ∧ cap0 = 0 ∧ z0 = []) ∨ ∃ x, a0 = some x ∧ len0 ≤ cap0 ∧ cap0 ≤ maxLen ∧ z0.length = cap0 ∧ (∀ i, i < z0.length → w.cell? (x.add i) = some (.int .i64 (z0.getD i 0))) ∧ ∀ n ∈ z0, (Lit.int .i64 n).wf = true) (y0 : len0 * 8 ≤ 140737488351232) (w1 : a1.size ≤ 140737488351232) (w2 : (Lit.int .u16 a2).wf = true) (w3 : (Lit.int .u8 a3).wf = true) :
    Calls Try.prog 7 #[.slice a0 len0 cap0, .string a1, .int .u16 a2, .int .u8 a3] w fun e w' => e = .returned (.bool true) ∧ Below w.heap.size w w' := by
  obtain ⟨l0, rfl, hr0, hm0, hw0, hc0⟩ := ReadsInt.ofRowC w0
  obtain ⟨h20, h2⟩ := u16_wf w2
  obtain ⟨h30, h3⟩ := u8_wf' w3
  obtain ⟨k, hS, hM⟩ := P l0 a1 a2 a3 h20 h2 h30 h3
  have hr := Kd.C_of_reads (d := (0 : Int)) (h1 := fun _ => rfl) hr0
  by_cases hno : l0.length ≤ 500 ∧ a1.size ≤ 800 ∧ 0 < a1.size
  · obtain ⟨n, a, aa, r, m, kk, i, p1, p2, p3, p4, l, part, ok, g1, g2, g3, g4, g5, g6, g7, g8, g9, g10, g11, g12, g13, g14, g15, g16, g17, g18⟩ := hM hno.1 hno.2.1 hno.2.2
    exact storagebarterlaw07_ErasureNotices.main k _ _ l0 a1 a2 a3 n a aa r m kk i p1 p2 p3 p4 l part ok w hr hc0 h20 h2 h30 h3 g1 g2 g3 hS (by unfold storagebartermake_Few.f; rw [decide_eq_true (by omega)]) hno.2.1 hno.2.2 g4 g5 g6 g7 g8 g9 g10 g11 g12 g13 g14 g15 g16 g17 g18
  · exact storagebarterlaw07_ErasureNotices.early k _ _ l0 a1 a2 a3 w hr hc0 hS hno
#print axioms storagebarterlaw07_ErasureNotices.walk
end Go.Proofs.Ytgmadofbelhmeaa.L
end
section
/- The plain law of ErasureNotices: the way that the row's function takes is there at every input.
Conditions: those of the given statement alone. -/
namespace Go.Proofs.Ytgmadofbelhmeaa.Pure
open Go.RowKit Go.Proofs.Ytgmadofbelhmeaa.L Go.Proofs.YtgmadofbelhmeaaW.PrintWords Go.Proofs.YtgmadofbelhmeaaW.PrintLast Go.Proofs.YtgmadofbelhmeaaW.PrintMore
set_option linter.unusedVariables false
set_option linter.unusedSimpArgs false
theorem setData_split {l : List S37} {k : Nat} {s : ByteArray} (hk : k < l.length) : setData l k s = l.take k ++ ⟨(rd_T37 l (k : Int)).f0, s⟩ :: l.drop (k + 1) := by
  unfold setData
  exact List.set_eq_take_append_cons_drop .. |>.trans (if_pos hk)
theorem mem_setData {l : List S37} {k : Nat} {s : ByteArray} {x : S37} (hk : k < l.length) (h : x ∈ without l k) : x ∈ setData l k s := by
  rw [setData_split hk]
  unfold without at h
  rcases List.mem_append.1 h with h | h
  · exact List.mem_append_left _ h
  · exact List.mem_append_right _ (List.mem_cons_of_mem _ h)
theorem setData_map {l : List S37} {k : Nat} {s : ByteArray} (hk : k < l.length) : (setData l k s).map S37.f0 = l.map S37.f0 := by
  unfold setData
  rw [List.map_set]
  show (l.map S37.f0).set k (rd_T37 l (k : Int)).f0 = _
  rw [rd_T37_get hk]
  apply List.ext_getElem?
  intro j
  by_cases e : k = j
  · subst e
    rw [List.getElem?_set_self (by rw [List.length_map]; exact hk), List.getElem?_map, List.getElem?_eq_getElem hk]
    rfl
  · rw [List.getElem?_set_ne e]
theorem setData_fit {a L : Nat} {l : List S37} {k : Nat} {s : ByteArray} (hk : k < l.length) (hf : Fit a L l) (hs : s.size = L) : Fit a L (setData l k s) := by
  refine ⟨fun x hx => ?_, ?_⟩
  · rw [setData_split hk] at hx
    rcases List.mem_append.1 hx with h | h
    · exact hf.1 x (List.mem_of_mem_take h)
    · rcases List.mem_cons.1 h with h | h
      · subst h
        have h2 := hf.1 _ (rd_T37_mem hk)
        exact ⟨h2.1, h2.2.1, hs⟩
      · exact hf.1 x (List.mem_of_mem_drop h)
  · have h2 : (l.map S37.f0).Pairwise (fun x y => x ≠ y) := List.pairwise_map.2 hf.2
    rw [← setData_map (s := s) hk] at h2
    exact List.pairwise_map.1 h2
theorem setData_self {l : List S37} {k : Nat} (hk : k < l.length) : setData l k (rd_T37 l (k : Int)).f1 = l := by
  unfold setData
  rw [rd_T37_get hk]
  show l.set k l[k] = l
  exact List.set_getElem_self hk
theorem setData_mem {l : List S37} {k : Nat} {s : ByteArray} (hk : k < l.length) : (⟨(rd_T37 l (k : Int)).f0, s⟩ : S37) ∈ setData l k s := by
  rw [setData_split hk]
  exact List.mem_append_right _ (List.mem_cons_self ..)
theorem notices_core {n a : Nat} {s : ByteArray} (h1 : 1 ≤ n) (hn : n ≤ 5) (ha : n ≤ a) (ha4 : a ≤ n + 4) (hs : s.size ≤ 800) {k : Nat} (hk : 1300 ≤ k) {part : List S37} (hmem : ∀ x, x ∈ part → ∃ i, i < a ∧ x = shardN n a (lenN n s.size) (padded n s) i) (hd : part.Pairwise (fun x y => x.f0 ≠ y.f0)) (hlen : n + 1 ≤ part.length) {kk i : Nat} {v : Int}
    (hkk : kk < part.length) (hi : i < (rd_T37 part (kk : Int)).f1.size) (hv0 : 0 ≤ v) (hv : v ≤ 255) :
    erasure_Agree.f k n a s.size (setData part kk (strOfNums ((bytesOf (rd_T37 part (kk : Int)).f1).set i v))) = some ((bytesOf (rd_T37 part (kk : Int)).f1).getD i 0 == v, 0) := by
  obtain ⟨t, ht, hx⟩ := hmem _ (rd_T37_mem hkk)
  have hbl : (bytesOf (rd_T37 part (kk : Int)).f1).length = (rd_T37 part (kk : Int)).f1.size := bytesOf_length _
  by_cases hsame : (bytesOf (rd_T37 part (kk : Int)).f1).getD i 0 = v
  · have hset : (bytesOf (rd_T37 part (kk : Int)).f1).set i v = bytesOf (rd_T37 part (kk : Int)).f1 := by
      rw [← hsame, List.getD_eq_getElem?_getD, List.getElem?_eq_getElem (by omega)]
      exact List.set_getElem_self _
    rw [hset, strOfNums_bytesOf, setData_self hkk, beq_iff_eq.2 hsame]
    exact agree_all h1 hn ha ha4 hs hk hmem hd (by omega)
  · have hxs : (rd_T37 part (kk : Int)).f1.size = lenN n s.size := by
      rw [hx]
      show (strOfNums _).size = _
      rw [strOfNums_size, accL_length]
    have hf0 := shardN_fit hmem hd
    have hf := setData_fit (s := strOfNums ((bytesOf (rd_T37 part (kk : Int)).f1).set i v)) hkk hf0 (by rw [strOfNums_size, List.length_set, hbl, hxs])
    obtain ⟨d', hd's, hdec⟩ := decode_tot h1 hn ha ha4 hs hf (by rw [setData_length]; omega)
    unfold erasure_Agree.f
    rw [hdec, Option.bind_some, if_pos rfl]
    simp only
    rw [encode_some h1 hn ha ha4 (by omega) (by omega), Option.bind_some, if_pos rfl]
    simp only
    rw [if_pos, beq_eq_false_iff_ne.2 hsame]
    · rw [show (setData part kk (strOfNums ((bytesOf (rd_T37 part (kk : Int)).f1).set i v))).all (agreeOne (shardsN n a (lenN n d'.size) (padded n d'))) = false from ?_]
      rw [Bool.eq_false_iff]
      intro hall
      rw [List.all_eq_true] at hall
      have his : ∀ y, y ∈ setData part kk (strOfNums ((bytesOf (rd_T37 part (kk : Int)).f1).set i v)) → ∃ j, j < a ∧ y = shardN n a (lenN n d'.size) (padded n d') j := by
        intro y hy
        have hfy := hf.1 y hy
        obtain ⟨j, hj⟩ : ∃ j : Nat, y.f0 = (j : Int) := ⟨y.f0.toNat, by omega⟩
        exact ⟨j, by omega, agreeOne_is (by omega) hj (hall y hy)⟩
      have hw1 : ∀ y, y ∈ without part kk → ∃ j, j < a ∧ y = shardN n a (lenN n s.size) (padded n s) j := fun y hy => hmem y ((without_sublist part kk).subset hy)
      have hw2 : ∀ y, y ∈ without part kk → ∃ j, j < a ∧ y = shardN n a (lenN n d'.size) (padded n d') j := fun y hy => his y (mem_setData hkk hy)
      have hwd := hd.sublist (without_sublist part kk)
      have hwl : n ≤ (without part kk).length := by rw [without_length hkk]; omega
      have e1 := decode_some h1 hn ha ha4 hs hw1 hwd hwl
      have e2 := decode_some h1 hn ha ha4 (by omega) hw2 hwd hwl
      rw [hd's, e1] at e2
      have e3 : s = d' := by
        injection e2 with e2
        injection e2
      subst e3
      obtain ⟨j, hj, ej⟩ := his _ (setData_mem hkk)
      have hjt : j = t := by
        have h1 := congrArg S37.f0 ej
        have h2 : (rd_T37 part (kk : Int)).f0 = (t : Int) := by rw [hx]; rfl
        have h3 : (shardN n a (lenN n s.size) (padded n s) j).f0 = (j : Int) := rfl
        simp only at h1
        omega
      subst hjt
      have ef : strOfNums ((bytesOf (rd_T37 part (kk : Int)).f1).set i v) = (rd_T37 part (kk : Int)).f1 := by
        have h1 := congrArg S37.f1 ej
        rw [← hx] at h1
        exact h1
      have eb := congrArg bytesOf ef
      have hg := congrArg (fun l : List Int => l.getD i 0) eb
      have hbv : (bytesOf (strOfNums ((bytesOf (rd_T37 part (kk : Int)).f1).set i v))).getD i 0 = v := by
        unfold bytesOf
        rw [strOfNums_data, List.getD_eq_getElem?_getD, List.getElem?_map, List.getElem?_map]
        have := List.getElem?_set_self (l := bytesOf (rd_T37 part (kk : Int)).f1) (i := i) (a := v) (by omega)
        unfold bytesOf at this
        rw [this]
        show ((UInt8.ofNat v.toNat).toNat : Int) = v
        rw [UInt8.toNat_ofNat']
        omega
      replace hg : (bytesOf (strOfNums ((bytesOf (rd_T37 part (kk : Int)).f1).set i v))).getD i 0 = (bytesOf (rd_T37 part (kk : Int)).f1).getD i 0 := hg
      rw [hbv] at hg
      exact hsame hg.symm
    · intro j hj
      have hfy := hf.1 _ (rd_T37_mem hj)
      rw [shardsN_length]
      omega
theorem ErasureNotices : storagebarterlaw07_ErasureNotices.Pure := by
  intro l0 a1 a2 a3 h20 h2 h30 h3
  refine ⟨2000, sane_true (by omega), fun hf hs hs0 => ?_⟩
  obtain ⟨n, a, p1, n1, n5, na, a4, hp1, hC⟩ := code_some hf
  obtain ⟨aa, haa⟩ : ∃ aa, aa = (if a = n then n + 1 else a) := ⟨_, rfl⟩
  have hna : n + 1 ≤ aa ∧ aa ≤ n + 4 := by
    rw [haa]
    split <;> omega
  have hSl := shardsN_length n aa (lenN n a1.size) (padded n a1)
  have hpw := shardsN_pw n aa (lenN n a1.size) (padded n a1)
  obtain ⟨r, p2, e1, r0, r1, hp2⟩ := next_some (l := l0) (s := p1) (m := (aa : Int) - (n : Int)) (by omega) hp1 (by omega) (by omega)
  obtain ⟨r, rfl⟩ : ∃ r' : Nat, r = (r' : Int) := ⟨r.toNat, by omega⟩
  obtain ⟨part, p3, hso, q1, q2, q3⟩ := some_some (deck := l0) (pos := p2) (n := n + 1 + r) (l := shardsN n aa (lenN n a1.size) (padded n a1)) (by omega) hp2 (by omega) hpw
  have hpl : part.length = n + 1 + r := by rw [q3, hSl]; omega
  have hp3 : 0 ≤ p3 := by
    unfold storagebarterlaw07_some.f at hso
    rw [if_pos (by omega)] at hso
    exact someAt_pos (by omega) _ _ _ _ _ _ hp2 hso
  obtain ⟨kk, p4, e2, k0, k1, hp4⟩ := next_some (l := l0) (s := p3) (m := (part.length : Int)) (by omega) hp3 (by omega) (by omega)
  obtain ⟨kk, rfl⟩ : ∃ r' : Nat, kk = (r' : Int) := ⟨kk.toNat, by omega⟩
  have hkk : kk < part.length := by omega
  have hm : ∀ x, x ∈ part → ∃ i, i < aa ∧ x = shardN n aa (lenN n a1.size) (padded n a1) i := fun x hx => shardsN_mem (q1 x hx)
  obtain ⟨t, ht, hx⟩ := hm _ (rd_T37_mem hkk)
  have hxs : (rd_T37 part (kk : Int)).f1.size = lenN n a1.size := by
    rw [hx]
    show (strOfNums _).size = _
    rw [strOfNums_size, accL_length]
  have hge := lenN_ge (size := a1.size) n1
  have hL1 : 0 < lenN n a1.size := by
    rcases Nat.eq_zero_or_pos (lenN n a1.size) with h | h
    · rw [h] at hge
      omega
    · exact h
  have hL2 := lenN_le n1 hs
  obtain ⟨i, hi⟩ : ∃ i : Nat, a2.tmod ((rd_T37 part (kk : Int)).f1.size : Int) = (i : Int) := ⟨(a2.tmod ((rd_T37 part (kk : Int)).f1.size : Int)).toNat, by have := Int.tmod_nonneg (a := a2) ((rd_T37 part (kk : Int)).f1.size : Int) h20; omega⟩
  have hil : i < (rd_T37 part (kk : Int)).f1.size := by
    have := Int.tmod_lt_of_pos a2 (show (0 : Int) < ((rd_T37 part (kk : Int)).f1.size : Int) by omega)
    omega
  exact ⟨n, a, aa, r, _, kk, i, p1, p2, p3, p4, _, part, _, by omega, by omega, haa, hC, encode_some n1 n5 (by omega) (by omega) hs (by omega), hSl, e1, by omega, rfl, hso, by omega, hkk, e2, by omega, by omega, hi, notices_core n1 n5 (by omega) (by omega) hs (by omega) hm q2 (by omega) hkk hil h30 h3, rfl⟩
end Go.Proofs.Ytgmadofbelhmeaa.Pure
end
