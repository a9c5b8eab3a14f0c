/- Texts of this claim, put together by a small program of the session's own: MRep, MRepW, PureErasureRepairs. -/
import Derived.Test.YtgmadofbelhmeaaH4
import Derived.Test.YtgmadofbelhmeaaH5
import Derived.Deep.RegionLaw
import Derived.Test.YtgmadofbelhmeaaH9
section
/- law07's ErasureRepairs: the walk along the way that the plain law tells. -/
namespace Go.Proofs.Ytgmadofbelhmeaa.L
open Go.RowKit Go.Proofs.YtgmadofbelhmeaaW.PrintWords Go.Proofs.YtgmadofbelhmeaaW.PrintLast Go.Proofs.YtgmadofbelhmeaaW.PrintMore
set_option linter.unusedVariables false
set_option linter.unusedSimpArgs false
attribute [local go_sem high] eqA37
theorem split3 {k m c : Nat} (h : k ≤ 1000000) (hk : k < m) (hm : m ≤ c) :
    (k + 1 < m ∧ IntKind.i64.wrap ((k : Int) + 1) = (k : Int) + 1 ∧ (0 : Int) ≤ (k : Int) + 1 ∧ (k : Int) + 1 ≤ (m : Int) ∧ ((c = k + 1) = False) ∧ ((k : Int) + 1).toNat = k + 1) ∨
    (k + 1 = m ∧ IntKind.i64.wrap ((k : Int) + 1) = (k : Int) + 1 ∧ (0 : Int) ≤ (k : Int) + 1 ∧ (k : Int) + 1 ≤ (m : Int) ∧ ((c = m) = True) ∧ ((k : Int) + 1).toNat = k + 1) ∨
    (k + 1 = m ∧ IntKind.i64.wrap ((k : Int) + 1) = (k : Int) + 1 ∧ (0 : Int) ≤ (k : Int) + 1 ∧ (k : Int) + 1 ≤ (m : Int) ∧ ((c = m) = False) ∧ ((k : Int) + 1).toNat = k + 1) := by
  by_cases h1 : k + 1 < m
  · obtain ⟨a, b, d, e, f⟩ := i64t h h1 (show k + 1 < c by omega)
    exact .inl ⟨h1, a, b, d, e, f⟩
  · have h2 : k + 1 = m := by omega
    obtain ⟨a, b, d, f⟩ := i64u h h2
    by_cases h3 : c = m
    · exact .inr (.inl ⟨h2, a, b, d, eq_true h3, f⟩)
    · exact .inr (.inr ⟨h2, a, b, d, eq_false h3, f⟩)
set_option maxHeartbeats 600000 in
set_option maxRecDepth 100000 in
theorem storagebarterlaw07_ErasureRepairs.main (k : Nat) (A0 : Option Addr) (c0 : Nat) (l0 : List Int) (a1 : ByteArray) (a2 : Int) (n a i : Nat) (p1 p2 : Int) (l part part' : List S37) (w : World)
    (hr0 : Kd.C (Kd.int .i64) w A0 l0.length l0) (hc0 : l0.length ≤ c0)
    (h20 : 0 ≤ a2) (h2 : a2 ≤ 255) (ha : 1 ≤ a) (ha9 : a ≤ 9) (hn : n ≤ a) (hi : a2.tmod a = (i : Int)) (hil : i < l.length)
    (hS : storagebarterlaw07_sane.f k = some true) (hF : storagebartermake_Few.f l0 = some true) (hsz : a1.size ≤ 800)
    (hC : storagebartermake_Code.f l0 0 = some ((n : Int), (a : Int), p1))
    (hE : erasure_Encode.f k n a a1 = some (l, 0)) (hl : l.length = a)
    (hso : storagebarterlaw07_some.f l0 p1 (without l i) n = some (part, p2)) (hpl : part' = if part.length < n then l else part) (hpl2 : part.length ≤ 9)
    (hR : erasure_Repair.f k n a a1.size part' i = some ((rd_T37 l (i : Int)).f0, (rd_T37 l (i : Int)).f1, 0))
    (hA : erasure_Agree.f k n a a1.size l = some (true, 0)) :
    Calls Try.prog 9 #[.slice A0 l0.length c0, .string a1, .int .u8 a2] w fun e w' => e = .returned (.bool true) ∧ Below w.heap.size w w' := by
  have hu28 := Try.underlying28
  have hu37 := Try.underlying37
  have HR0 := Aside0.mk hr0
  have HC0 := Aside0.mk hc0
  have HS := Aside0.mk hS
  have HF := Aside0.mk hF
  have HC := Aside0.mk hC
  have HE := Aside0.mk hE
  have HL := Aside0.mk hl
  have HSO := Aside0.mk hso
  have HR := Aside0.mk hR
  have HA := Aside0.mk hA
  have HI := Aside0.mk hi
  have HNW := Aside0.mk (show storagebartermake_New.f l0 = some (l0, 0) from rfl)
  have d1 : decide ((a1.size : Int) > 800) = false := decide_eq_false (by omega)
  clear hr0 hc0 hS hF hC hE hl hso hR hA hi
  go_enter Try.func9, Try.ntmps9
  go_wp2_with fail
  refine (storagebarterlaw07_sane.calls k true _ HS.out).mono ?_
  rintro e w1 ⟨rfl, hb1⟩
  have HB1 := Aside0.mk hb1
  clear hb1
  go_wp2_with fail
  refine (storagebartermake_Few.calls _ _ l0 true _ (Kd.C_below HR0.out HB1.out) HC0.out HF.out).mono ?_
  rintro e w2 ⟨rfl, ⟨nd, rfl⟩⟩
  go_wp2_with fail
  refine (storagebartermake_New.calls _ _ l0 l0 0 w _ (pw_below_drewN HB1.out _) HR0.out HC0.out HNW.out).mono ?_
  rintro e w3 ⟨g, rfl, hI3, hb3, _⟩
  have HI3 := Aside0.mk hI3
  have HB3 := Aside0.mk hb3
  clear hI3 hb3 HB1
  go_wp2_with fail
  refine (storagebartermake_Code.calls g l0 0 n a p1 w _ HI3.out HB3.out HC.out).mono ?_
  rintro e w4 ⟨rfl, hI4, hb4, hk4⟩
  have HI4 := Aside0.mk hI4
  have HB4 := Aside0.mk hb4
  clear hI4 hb4 hk4 HB3 HI3
  go_wp2_with fail
  have hgs4 : g < w4.heap.size := HI4.out.lt
  refine (erasure_Encode.calls k _ _ _ _ _ _ HE.out).mono ?_
  rintro e w5 ⟨v9, rfl, hO5, hb5⟩
  obtain ⟨KB5, HI5, HB5⟩ : Aside0 (w5.heap[w4.heap.size]? = some (.cells #[.int .i64 n, .int .i64 a] 28 (0, 0))) ∧ Aside0 (IsS59 w w5 g l0 p1) ∧ Aside0 (Below w.heap.size w w5) := by
    refine ⟨⟨blk_below (blk_new w4 _) hb5⟩, ⟨(HI4.out.alloc _).below hb5⟩, ⟨(below_alloc HB4.out _).trans (hb5.mono ?_)⟩⟩
    have := HB4.out.size
    simp
    omega
  obtain ⟨A9, c9, rfl⟩ := Kd.R_slice hO5
  have HO5 := Aside0.mk hO5
  clear hO5 hb5 HI4 HB4
  obtain ⟨gr, cp9, e9, hgr0, hgr1, _⟩ := Kd.R_form HO5.out (by omega)
  injection e9 with e9 _ e9c
  subst e9 e9c
  have hcap9 : l.length ≤ c9 := (Kd.R_reads' HO5.out).2.1
  have hgrg : gr ≠ g := by
    have : (w4.alloc (.cells #[.int .i64 (n : Int), .int .i64 (a : Int)] 28)).heap.size = w4.heap.size + 1 := by simp
    omega
  have hgrb : gr ≠ w4.heap.size := by
    have : (w4.alloc (.cells #[.int .i64 (n : Int), .int .i64 (a : Int)] 28)).heap.size = w4.heap.size + 1 := by simp
    omega
  have hl9 : l.length ≤ 9 := by have := HL.out; omega
  have HO9 := Aside0.mk (show ∀ W_, KeepBut w5 W_ g none → Kd.C k37 W_ (some ⟨gr, 0, none⟩) l.length l from fun W_ hk => C_block (by omega) (Kd.R_reads' HO5.out).2.2 (hk.2 gr hgr1 hgrg (by simp)))
  obtain ⟨A1, c1, w7, hrun, hle7, hA1, hC7, hg7⟩ := cut_append (W := w5.drew) (k := i) (c := c9) (rest := l) (u := if i + 1 < l.length then .slice (some ⟨gr, (i + 1) * 2, none⟩) (l.length - (i + 1)) (c9 - (i + 1)) else if c9 = l.length then .slice (some ⟨gr, 0, none⟩) 0 (c9 - l.length) else .slice (some ⟨gr, l.length * 2, none⟩) 0 (c9 - l.length)) hil hcap9 (by omega) (Kd.C_drew (Kd.R_reads' HO5.out).2.2) (fun h => by rw [if_pos h]) (fun h => by rw [if_neg (by omega)]; split <;> exact ⟨_, _, rfl⟩)
  have hb7 := below_of_grown hg7
  have KB7 := Aside0.mk (blk_below KB5.out hb7)
  have HI7 := Aside0.mk (HI5.out.below hb7)
  have HB7 := Aside0.mk (HB5.out.trans (hb7.mono HB5.out.size))
  have HR7 := Aside0.mk (show ∀ W_, KeepBut w7 W_ g none → Kd.C k37 W_ A1 (without l i).length (without l i) from fun W_ hk => by
    by_cases hp : 0 < (without l i).length
    · obtain ⟨gr1, e, hgr⟩ := hA1 hp
      subst e
      have hlt := Kd.C_lt hC7 hp (by decide)
      refine C_block (by rw [without_length hil]; omega) hC7 (hk.2 gr1 hlt ?_ (by simp))
      rcases hgr with rfl | hgr
      · exact hgrg
      · have h1 := HI5.out.lt
        have h2 : w5.drew.heap.size = w5.heap.size := rfl
        show gr1 ≠ g
        omega
    · exact C_empty _ _ hp)
  have HK7 := Aside0.mk (keep_then (KeepBut.refl w5 g none) hb7)
  have hlt4 : w4.heap.size < w5.heap.size := blk_lt KB5.out
  have HLE7 := Aside0.mk hle7
  have HRUN := Aside0.mk hrun
  clear hrun hb7 hC7 hA1 hg7 hle7 HI5 HB5
  have hlb : ((l.length : Int) != (a : Int)) = false := by rw [HL.out]; simp
  have x0 := (blk_cell KB5.out 0).trans (show _ = some (Value.int .i64 n) from rfl)
  have x1 := (blk_cell KB5.out 1).trans (show _ = some (Value.int .i64 a) from rfl)
  have hi' : a2 % (a : Int) = (i : Int) := by have := HI.out; rwa [Int.tmod_eq_emod_of_nonneg h20] at this
  go_upto_region 11 with (fail)
  rw [hi']
  clear hi' hlb x0 x1
  have y0 := (blk_cell KB5.out 0).trans (show _ = some (Value.int .i64 n) from rfl)
  have y7 := (blk_cell KB7.out 0).trans (show _ = some (Value.int .i64 n) from rfl)
  have hic : i < c9 := by omega
  have hkk0 : (i : Int) ≤ (c9 : Int) := by omega
  have hp1 : (0 : Int) ≤ (i : Int) := Int.natCast_nonneg _
  have hp2 : (i : Int) ≤ (l.length : Int) := by omega
  have hrun := HRUN.out
  have HCAP := Aside0.mk hcap9
  have HPL := Aside0.mk hpl
  have hs3 := split3 (k := i) (m := l.length) (c := c9) (by omega) hil hcap9
  clear hcap9 hgrg hgrb hl9 hic hgr0 hgr1 HRUN hpl
  go_cut [12] (fun v12 wc => ∃ A12 c12, v12 = .slice A12 part.length c12 ∧ Aside0 (Kd.C k37 wc A12 part.length part) ∧ Aside0 (part.length ≤ c12) ∧ Aside0 (wc.heap[w4.heap.size]? = some (.cells #[.int .i64 n, .int .i64 a] 28 (0, 0))) ∧ Aside0 (Kd.C k37 wc (some ⟨gr, 0, none⟩) l.length l) ∧ Aside0 (Below w.heap.size w wc))
  case first =>
    rcases hs3 with ⟨hlast, hw1, hw2, hw3, hw4, hw5⟩ | ⟨hlast, hw1, hw2, hw3, hw4, hw5⟩ | ⟨hlast, hw1, hw2, hw3, hw4, hw5⟩
    · rw [if_pos hlast] at hrun
      go_region_held3 (fun w' => w'.cell? ⟨w4.heap.size, 0, none⟩ = some (.int .i64 (n : Int))) (first | exact y0 | exact y7 | exact y8) (first | ((with_reducible refine (storagebarterlaw07_some.calls g l0 p1 A1 c1 (without l i) n part p2 w _ HI7.out HB7.out HR7.out HLE7.out HSO.out).mono ?_); rintro e w8 ⟨v12, rfl, hO8, hI8, hb8, hk8⟩; have y8 := (blk_cell ((hk8.2 w4.heap.size (blk_lt KB7.out) (Nat.ne_of_gt hgs4) (by simp)).trans KB7.out) 0).trans (show _ = some (Value.int .i64 n) from rfl)) | (refine append_run_step rfl (.tmp 55) (.tmp 59) 30 rfl rfl rfl hrun ?_))
      obtain ⟨A12, c12, rfl⟩ := Kd.R_slice hO8
      go_wp2_with fail
      go_meet
      case rel => exact ⟨A12, c12, rfl, ⟨(Kd.R_reads' hO8).2.2⟩, ⟨(Kd.R_reads' hO8).2.1⟩, ⟨(hk8.2 w4.heap.size (blk_lt KB7.out) (Nat.ne_of_gt hgs4) (by simp)).trans KB7.out⟩, ⟨HO9.out w8 (HK7.out.trans hk8 (.inl rfl))⟩, ⟨hb8⟩⟩
    · rw [if_neg (by rw [hlast]; exact Nat.lt_irrefl _), if_pos (of_eq_true hw4)] at hrun
      go_region_held3 (fun w' => w'.cell? ⟨w4.heap.size, 0, none⟩ = some (.int .i64 (n : Int))) (first | exact y0 | exact y7 | exact y8) (first | ((with_reducible refine (storagebarterlaw07_some.calls g l0 p1 A1 c1 (without l i) n part p2 w _ HI7.out HB7.out HR7.out HLE7.out HSO.out).mono ?_); rintro e w8 ⟨v12, rfl, hO8, hI8, hb8, hk8⟩; have y8 := (blk_cell ((hk8.2 w4.heap.size (blk_lt KB7.out) (Nat.ne_of_gt hgs4) (by simp)).trans KB7.out) 0).trans (show _ = some (Value.int .i64 n) from rfl)) | (refine append_run_step rfl (.tmp 55) (.tmp 59) 30 rfl rfl rfl hrun ?_))
      obtain ⟨A12, c12, rfl⟩ := Kd.R_slice hO8
      go_wp2_with fail
      go_meet
      case rel => exact ⟨A12, c12, rfl, ⟨(Kd.R_reads' hO8).2.2⟩, ⟨(Kd.R_reads' hO8).2.1⟩, ⟨(hk8.2 w4.heap.size (blk_lt KB7.out) (Nat.ne_of_gt hgs4) (by simp)).trans KB7.out⟩, ⟨HO9.out w8 (HK7.out.trans hk8 (.inl rfl))⟩, ⟨hb8⟩⟩
    · rw [if_neg (by rw [hlast]; exact Nat.lt_irrefl _), if_neg (of_eq_false hw4)] at hrun
      go_region_held3 (fun w' => w'.cell? ⟨w4.heap.size, 0, none⟩ = some (.int .i64 (n : Int))) (first | exact y0 | exact y7 | exact y8) (first | ((with_reducible refine (storagebarterlaw07_some.calls g l0 p1 A1 c1 (without l i) n part p2 w _ HI7.out HB7.out HR7.out HLE7.out HSO.out).mono ?_); rintro e w8 ⟨v12, rfl, hO8, hI8, hb8, hk8⟩; have y8 := (blk_cell ((hk8.2 w4.heap.size (blk_lt KB7.out) (Nat.ne_of_gt hgs4) (by simp)).trans KB7.out) 0).trans (show _ = some (Value.int .i64 n) from rfl)) | (refine append_run_step rfl (.tmp 55) (.tmp 59) 30 rfl rfl rfl hrun ?_))
      obtain ⟨A12, c12, rfl⟩ := Kd.R_slice hO8
      go_wp2_with fail
      go_meet
      case rel => exact ⟨A12, c12, rfl, ⟨(Kd.R_reads' hO8).2.2⟩, ⟨(Kd.R_reads' hO8).2.1⟩, ⟨(hk8.2 w4.heap.size (blk_lt KB7.out) (Nat.ne_of_gt hgs4) (by simp)).trans KB7.out⟩, ⟨HO9.out w8 (HK7.out.trans hk8 (.inl rfl))⟩, ⟨hb8⟩⟩
  case rest =>
    clear hs3 y0 y7 hrun HI7 HB7 HR7 HLE7 HSO KB7 HK7 KB5 HO5 HO9
    obtain ⟨A12, c12, rfl, HC12, HL12, KB8, HO98, HB8⟩ := hcut
    have y80 := (blk_cell KB8.out 0).trans (show _ = some (Value.int .i64 n) from rfl)
    go_upto_if 68 with (fail)
    clear y80
    go_cut [12] (fun v12 wc => ∃ A12 c12, v12 = .slice A12 part'.length c12 ∧ Aside0 (Kd.C k37 wc A12 part'.length part') ∧ Aside0 (part'.length ≤ c12) ∧ Aside0 (wc.heap[w4.heap.size]? = some (.cells #[.int .i64 n, .int .i64 a] 28 (0, 0))) ∧ Aside0 (Kd.C k37 wc (some ⟨gr, 0, none⟩) l.length l) ∧ Aside0 (Below w.heap.size w wc))
    case first =>
      by_cases hlt : part.length < n
      · have hpe := HPL.out
        rw [if_pos hlt] at hpe
        subst hpe
        have dpl : decide ((part.length : Int) < (n : Int)) = true := decide_eq_true (by omega)
        go_wp2_with fail
        go_meet
        case rel => exact ⟨_, _, rfl, HO98, HCAP, KB8, HO98, HB8⟩
      · have hpe := HPL.out
        rw [if_neg hlt] at hpe
        subst hpe
        have dpl : decide ((part'.length : Int) < (n : Int)) = false := decide_eq_false (by omega)
        go_wp2_with fail
        go_meet
        case rel => exact ⟨_, _, rfl, HC12, HL12, KB8, HO98, HB8⟩
    case rest =>
      clear HC12 HL12 KB8 HO98 HB8
      obtain ⟨A13, c13, rfl, HC12, HL12, KB8, HO98, HB8⟩ := hcut
      have y8 := (blk_cell KB8.out 0).trans (show _ = some (Value.int .i64 n) from rfl)
      have y81 := (blk_cell KB8.out 1).trans (show _ = some (Value.int .i64 a) from rfl)
      go_wp2_with fail
      clear y8 y81
      refine (erasure_Repair.calls k n a a1.size A13 c13 part' i _ _ 0 _ HC12.out HL12.out HR.out).mono ?_
      rintro e w9 ⟨rfl, hb9⟩
      obtain ⟨KB9, HO99, HB9⟩ : Aside0 (w9.heap[w4.heap.size]? = some (.cells #[.int .i64 n, .int .i64 a] 28 (0, 0))) ∧ Aside0 (Kd.C k37 w9 (some ⟨gr, 0, none⟩) l.length l) ∧ Aside0 (Below w.heap.size w w9) :=
        ⟨⟨blk_below KB8.out hb9⟩, ⟨Kd.C_below HO98.out hb9⟩, ⟨HB8.out.trans (hb9.mono HB8.out.size)⟩⟩
      clear hb9 HC12 KB8 HO98 HB8
      obtain ⟨ad, e, hc0, hc1⟩ := at_T37 HO99.out (i : Int) (by omega) (by omega)
      cases e
      rw [Int.toNat_natCast, add_plain] at hc0 hc1
      have hgr9 := World.block_lt_of_cell? w9 _ hc0
      generalize (rd_T37 l (i : Int)).f0 = xf0 at HR hc0
      generalize (rd_T37 l (i : Int)).f1 = xf1 at HR hc1
      have y90 := (World.cell?_alloc_lt w9 (.cells #[.int .i64 xf0, .string xf1] 37) ⟨w4.heap.size, 0, none⟩ (blk_lt KB9.out)).trans ((blk_cell KB9.out 0).trans (show _ = some (Value.int .i64 n) from rfl))
      have y91 := (World.cell?_alloc_lt w9 (.cells #[.int .i64 xf0, .string xf1] 37) ⟨w4.heap.size, 1, none⟩ (blk_lt KB9.out)).trans ((blk_cell KB9.out 1).trans (show _ = some (Value.int .i64 a) from rfl))
      go_wp2_with fail
      clear y90 y91
      refine (erasure_Agree.calls k n a a1.size (some ⟨gr, 0, none⟩) c9 l true 0 _ (Kd.C_alloc HO99.out _) HCAP.out HA.out).mono ?_
      rintro e w10 ⟨rfl, hb10⟩
      have z0 := (blk_cell (blk_below (blk_new w9 (.cells #[.int .i64 xf0, .string xf1] 37)) hb10) 0).trans (show _ = some (Value.int .i64 xf0) from rfl)
      have z1 := (blk_cell (blk_below (blk_new w9 (.cells #[.int .i64 xf0, .string xf1] 37)) hb10) 1).trans (show _ = some (Value.string xf1) from rfl)
      have z2 := pw_cell_below hb10 ((World.cell?_alloc_lt w9 (.cells #[.int .i64 xf0, .string xf1] 37) _ hgr9).trans hc0)
      have z3 := pw_cell_below hb10 ((World.cell?_alloc_lt w9 (.cells #[.int .i64 xf0, .string xf1] 37) ⟨gr, i * 2 + 1, none⟩ hgr9).trans hc1)
      have HB10 := Aside0.mk ((below_alloc HB9.out _).trans (hb10.mono (Nat.le_trans HB9.out.size (by simp))))
      clear hb10 hc0 hc1 hgr9 HO99 KB9 HB9
      have hil2 : (i : Int) < (l.length : Int) := by omega
      go_wp2_with fail
      clear HR
      go_region_held3 (fun w' => w'.cell? ⟨w9.heap.size, 0, none⟩ = some (.int .i64 xf0) ∧ w'.cell? ⟨w9.heap.size, 1, none⟩ = some (.string xf1) ∧ w'.cell? ⟨gr, i * 2, none⟩ = some (.int .i64 xf0) ∧ w'.cell? ⟨gr, i * 2 + 1, none⟩ = some (.string xf1)) (first | go_keep) (fail)
      go_wp2_with fail
      go_ret
      exact ⟨rfl, below_drew1 HB10.out⟩
#print axioms storagebarterlaw07_ErasureRepairs.main
end Go.Proofs.Ytgmadofbelhmeaa.L
end
section
/- law07's ErasureRepairs: what is left to the plain law, and the walk of the whole. -/
namespace Go.Proofs.Ytgmadofbelhmeaa.L
open Go.RowKit Go.Proofs.YtgmadofbelhmeaaW.PrintWords Go.Proofs.YtgmadofbelhmeaaW.PrintLast Go.Proofs.YtgmadofbelhmeaaW.PrintMore
set_option linter.unusedVariables false
set_option linter.unusedSimpArgs false
def ErasureRepairsMain (k : Nat) (l0 : List Int) (a1 : ByteArray) (a2 : Int) : Prop :=
  ∃ (n a i : Nat) (p1 p2 : Int) (l part part' : List S37), 1 ≤ a ∧ a ≤ 9 ∧ n ≤ a ∧ a2.tmod a = (i : Int) ∧ i < l.length ∧ storagebartermake_Code.f l0 0 = some ((n : Int), (a : Int), p1) ∧
    erasure_Encode.f k n a a1 = some (l, 0) ∧ l.length = a ∧ storagebarterlaw07_some.f l0 p1 (without l i) n = some (part, p2) ∧ part' = (if part.length < n then l else part) ∧ part.length ≤ 9 ∧
    erasure_Repair.f k n a a1.size part' i = some ((rd_T37 l (i : Int)).f0, (rd_T37 l (i : Int)).f1, 0) ∧ erasure_Agree.f k n a a1.size l = some (true, 0)
def storagebarterlaw07_ErasureRepairs.Pure : Prop := ∀ (l0 : List Int) (a1 : ByteArray) (a2 : Int), 0 ≤ a2 → a2 ≤ 255 →
  ∃ k, storagebarterlaw07_sane.f k = some true ∧ (l0.length ≤ 500 → a1.size ≤ 800 → ErasureRepairsMain k l0 a1 a2)
set_option maxHeartbeats 600000 in
set_option maxRecDepth 100000 in
theorem storagebarterlaw07_ErasureRepairs.early (k : Nat) (A0 : Option Addr) (c0 : Nat) (l0 : List Int) (a1 : ByteArray) (a2 : Int) (w : World)
    (hr0 : Kd.C (Kd.int .i64) w A0 l0.length l0) (hc0 : l0.length ≤ c0) (h20 : 0 ≤ a2) (h2 : a2 ≤ 255)
    (hS : storagebarterlaw07_sane.f k = some true) (hno : ¬ (l0.length ≤ 500 ∧ a1.size ≤ 800)) :
    Calls Try.prog 9 #[.slice A0 l0.length c0, .string a1, .int .u8 a2] w fun e w' => e = .returned (.bool true) ∧ Below w.heap.size w w' := by
  have HR0 := Aside0.mk hr0
  have HC0 := Aside0.mk hc0
  have HS := Aside0.mk hS
  clear hr0 hc0 hS
  by_cases hF : l0.length ≤ 500
  · have HF := Aside0.mk (show storagebartermake_Few.f l0 = some true by unfold storagebartermake_Few.f; rw [decide_eq_true (by omega)])
    have d1 : decide ((a1.size : Int) > 800) = true := decide_eq_true (by omega)
    clear hF hno
    go_enter Try.func9, Try.ntmps9
    go_wp2_with fail
    refine (storagebarterlaw07_sane.calls k true _ HS.out).mono ?_
    rintro e w1 ⟨rfl, hb1⟩
    have HB1 := Aside0.mk hb1
    clear hb1
    go_wp2_with fail
    refine (storagebartermake_Few.calls _ _ l0 true _ (Kd.C_below HR0.out HB1.out) HC0.out HF.out).mono ?_
    rintro e w2 ⟨rfl, ⟨nd, rfl⟩⟩
    go_wp2_with fail
    go_ret
    exact ⟨rfl, pw_below_drewN HB1.out _⟩
  · have HF := Aside0.mk (show storagebartermake_Few.f l0 = some false by unfold storagebartermake_Few.f; rw [decide_eq_false (by omega)])
    clear hF hno
    go_enter Try.func9, Try.ntmps9
    go_wp2_with fail
    refine (storagebarterlaw07_sane.calls k true _ HS.out).mono ?_
    rintro e w1 ⟨rfl, hb1⟩
    have HB1 := Aside0.mk hb1
    clear hb1
    go_wp2_with fail
    refine (storagebartermake_Few.calls _ _ l0 false _ (Kd.C_below HR0.out HB1.out) HC0.out HF.out).mono ?_
    rintro e w2 ⟨rfl, ⟨nd, rfl⟩⟩
    go_wp2_with fail
    go_ret
    exact ⟨rfl, pw_below_drewN HB1.out _⟩
theorem u8_wf {a : Int} (h : (Lit.int .u8 a).wf = true) : 0 ≤ a ∧ a ≤ 255 := by
  simp only [Lit.wf, Bool.and_eq_true, decide_eq_true_eq] at h
  exact ⟨h.1, h.2⟩
theorem storagebarterlaw07_ErasureRepairs.walk (P : storagebarterlaw07_ErasureRepairs.Pure) (a0 : Option Addr) (len0 cap0 : Nat) (z0 : List Int) (a1 : ByteArray) (a2 : Int) (w : World) (w0 : (a0 = none ∧ len0 = 0 ∧ cap0 = 0 ∧ z0 = []) ∨ ∃ x, a0 = some x ∧ len0 ≤ cap0 ∧ cap0 ≤ maxLen ∧ z0.length = cap0 ∧ (∀ i, i < z0.length → w.cell? (x.add i) = some (.int .i64 (z0.getD i 0))) ∧ ∀ n ∈ z0, (Lit.int .i64 n).wf = true) (y0 : len0 * 8 ≤ 140737488351232) (w1 : a1.size ≤ 140737488351232) (w2 : (Lit.int .u8 a2).wf = true) :
    Calls Try.prog 9 #[.slice a0 len0 cap0, .string a1, .int .u8 a2] w fun e w' => e = .returned (.bool true) ∧ Below w.heap.size w w' := by
  obtain ⟨l0, rfl, hr0, hm0, hw0, hc0⟩ := ReadsInt.ofRowC w0
  obtain ⟨h20, h2⟩ := u8_wf w2
  obtain ⟨k, hS, hM⟩ := P l0 a1 a2 h20 h2
  have hr := Kd.C_of_reads (d := (0 : Int)) (h1 := fun _ => rfl) hr0
  by_cases hno : l0.length ≤ 500 ∧ a1.size ≤ 800
  · obtain ⟨n, a, i, p1, p2, l, part, part', h1, h3, h4, h5, h6, h7, h8, h9, h10, h11, h12, h13, h14⟩ := hM hno.1 hno.2
    exact storagebarterlaw07_ErasureRepairs.main k _ _ l0 a1 a2 n a i p1 p2 l part part' w hr hc0 h20 h2 h1 h3 h4 h5 h6 hS (by unfold storagebartermake_Few.f; rw [decide_eq_true (by omega)]) hno.2 h7 h8 h9 h10 h11 h12 h13 h14
  · exact storagebarterlaw07_ErasureRepairs.early k _ _ l0 a1 a2 w hr hc0 h20 h2 hS hno
#print axioms storagebarterlaw07_ErasureRepairs.walk
end Go.Proofs.Ytgmadofbelhmeaa.L
end
section
/- The plain law of ErasureRepairs: the way that the row's function takes is there at every input.
Conditions: those of the given statement alone. -/
namespace Go.Proofs.Ytgmadofbelhmeaa.Pure
open Go.RowKit Go.Proofs.Ytgmadofbelhmeaa.L Go.Proofs.YtgmadofbelhmeaaW.PrintWords Go.Proofs.YtgmadofbelhmeaaW.PrintLast Go.Proofs.YtgmadofbelhmeaaW.PrintMore
set_option linter.unusedVariables false
set_option linter.unusedSimpArgs false
theorem ErasureRepairs : storagebarterlaw07_ErasureRepairs.Pure := by
  intro l0 a1 a2 h20 h2
  refine ⟨2000, sane_true (by omega), fun hf hs => ?_⟩
  obtain ⟨n, a, p1, n1, n5, na, a4, hp1, hC⟩ := code_some hf
  have hSl := shardsN_length n a (lenN n a1.size) (padded n a1)
  have hpw := shardsN_pw n a (lenN n a1.size) (padded n a1)
  obtain ⟨i, hi⟩ : ∃ i : Nat, a2.tmod a = (i : Int) := ⟨(a2.tmod a).toNat, by have := Int.tmod_nonneg (a := a2) (a : Int) h20; omega⟩
  have hia : i < a := by
    have := Int.tmod_lt_of_pos a2 (show (0 : Int) < (a : Int) by omega)
    omega
  have hsub := without_sublist (shardsN n a (lenN n a1.size) (padded n a1)) i
  have hwl : (without (shardsN n a (lenN n a1.size) (padded n a1)) i).length = a - 1 := by rw [without_length (by omega), hSl]
  obtain ⟨part, p2, hso, q1, q2, q3⟩ := some_some (deck := l0) (pos := p1) (n := n) (l := without (shardsN n a (lenN n a1.size) (padded n a1)) i) (by omega) hp1 (by omega) (hpw.sublist hsub)
  have hm : ∀ x, x ∈ shardsN n a (lenN n a1.size) (padded n a1) → ∃ i, i < a ∧ x = shardN n a (lenN n a1.size) (padded n a1) i := fun x hx => shardsN_mem hx
  refine ⟨n, a, i, p1, p2, _, part, _, by omega, by omega, na, hi, by omega, hC, encode_some n1 n5 na a4 hs (by omega), hSl, hso, rfl, by omega, ?_, agree_all n1 n5 na a4 hs (by omega) hm hpw (by omega)⟩
  rw [shardsN_rd hia]
  by_cases hlt : part.length < n
  · rw [if_pos hlt]
    exact repair_some n1 n5 na a4 hs hm hpw (by omega) hia (by omega)
  · rw [if_neg hlt]
    exact repair_some n1 n5 na a4 hs (fun x hx => hm x (hsub.subset (q1 x hx))) q2 (by omega) hia (by omega)
end Go.Proofs.Ytgmadofbelhmeaa.Pure
end
