/- Texts of this claim, put together by a small program of the session's own: MOrd, MOrdW, PureErasureOrder. -/
import Derived.Test.YtgmadofbelhmeaaH4
import Derived.Test.YtgmadofbelhmeaaH5
import Derived.Test.YtgmadofbelhmeaaH2
import Derived.Test.YtgmadofbelhmeaaH9
import Derived.Deep.RegionLaw
section
/- law07's ErasureOrder: the walk along the way that the plain law tells. -/
namespace Go.Proofs.Ytgmadofbelhmeaa.L
open Go.RowKit Go.Proofs.YtgmadofbelhmeaaW.PrintWords Go.Proofs.YtgmadofbelhmeaaW.PrintLast Go.Proofs.YtgmadofbelhmeaaW.PrintMore
set_option linter.unusedVariables false
set_option linter.unusedSimpArgs false
/-- As the shards m, but that the data of those from n on may be other bytes. -/
def BentS (n : Nat) (m cur : List S37) : Prop := cur.length = m.length ∧ ∀ t : Nat, t < m.length → (rd_T37 cur (t : Int)).f0 = (rd_T37 m (t : Int)).f0 ∧ (rd_T37 cur (t : Int)).f1.size = (rd_T37 m (t : Int)).f1.size ∧ ((rd_T37 m (t : Int)).f0 < (n : Int) → rd_T37 cur (t : Int) = rd_T37 m (t : Int))
theorem BentS.set {n j : Nat} {m cur : List S37} {s : ByteArray} (h : BentS n m cur) (hj : j < m.length) (hn : ¬ (rd_T37 m (j : Int)).f0 < (n : Int)) (hs : s.size = (rd_T37 cur (j : Int)).f1.size) : BentS n m (setData cur j s) := by
  obtain ⟨h1, h2⟩ := h
  refine ⟨by rw [setData_length]; exact h1, fun t ht => ?_⟩
  rw [setData_get (by omega) (by omega)]
  by_cases e : j = t
  · subst e
    rw [if_pos rfl]
    have h3 := h2 j ht
    exact ⟨h3.1, hs.trans h3.2.1, fun hlt => absurd hlt hn⟩
  · rw [if_neg e]
    exact h2 t ht
set_option maxHeartbeats 600000 in
set_option maxRecDepth 100000 in
theorem storagebarterlaw07_ErasureOrder.main (k : Nat) (A0 : Option Addr) (c0 : Nat) (l0 : List Int) (a1 : ByteArray) (a2 : Int) (n a : Nat) (p1 p2 : Int) (l part : List S37) (w : World)
    (hr0 : Kd.C (Kd.int .i64) w A0 l0.length l0) (hc0 : l0.length ≤ c0)
    (h20 : 0 ≤ a2) (h2 : a2 ≤ 255) (ha0 : 0 < a) (ha9 : a ≤ 9) (hn : n ≤ a)
    (hS : storagebarterlaw07_sane.f k = some true) (hF : storagebartermake_Few.f l0 = some true) (hsz : a1.size ≤ 600)
    (hC : storagebartermake_Code.f l0 0 = some ((n : Int), (a : Int), p1))
    (hE : erasure_Encode.f k n a a1 = some (l, 0)) (hl : l.length = a)
    (hso : storagebarterlaw07_some.f l0 p1 l a = some (part, p2)) (hpl : part.length = a) (hps : ∀ t : Nat, t < part.length → (rd_T37 part (t : Int)).f1.size ≤ 1000)
    (hD : ∀ cur, BentS n part cur → erasure_Decode.f n a a1.size cur = some (a1, 0)) :
    Calls Try.prog 5 #[.slice A0 l0.length c0, .string a1, .int .u8 a2] w fun e w' => e = .returned (.bool true) ∧ Below w.heap.size w w' := by
  have hu28 := Try.underlying28
  have hu37 := Try.underlying37
  have HR0 := Aside0.mk hr0
  have HC0 := Aside0.mk hc0
  have HS := Aside0.mk hS
  have HF := Aside0.mk hF
  have HC := Aside0.mk hC
  have HE := Aside0.mk hE
  have HL := Aside0.mk hl
  have HD := Aside0.mk hD
  have HPL := Aside0.mk hpl
  have HPS := Aside0.mk hps
  have HSO := Aside0.mk hso
  have HNW := Aside0.mk (show storagebartermake_New.f l0 = some (l0, 0) from rfl)
  have d1 : decide ((a1.size : Int) > 600) = false := decide_eq_false (by omega)
  clear hr0 hc0 hS hF hC hE hl hD hso hps hpl
  go_enter Try.func5, Try.ntmps5
  go_wp2_with fail
  refine (storagebarterlaw07_sane.calls k true _ HS.out).mono ?_
  rintro e w1 ⟨rfl, hb1⟩
  have HB1 := Aside0.mk hb1
  clear hb1
  go_wp2_with fail
  refine (storagebartermake_Few.calls _ _ l0 true _ (Kd.C_below HR0.out HB1.out) HC0.out HF.out).mono ?_
  rintro e w2 ⟨rfl, ⟨nd, rfl⟩⟩
  go_wp2_with fail
  refine (storagebartermake_New.calls _ _ l0 l0 0 w _ (pw_below_drewN HB1.out _) HR0.out HC0.out HNW.out).mono ?_
  rintro e w3 ⟨g, rfl, hI3, hb3, _⟩
  have HI3 := Aside0.mk hI3
  have HB3 := Aside0.mk hb3
  clear hI3 hb3 HB1 d1
  go_wp2_with fail
  refine (storagebartermake_Code.calls g l0 0 n a p1 w _ HI3.out HB3.out HC.out).mono ?_
  rintro e w4 ⟨rfl, hI4, hb4, hk4⟩
  have HI4 := Aside0.mk hI4
  have HB4 := Aside0.mk hb4
  clear hI4 hb4 hk4 HB3 HI3
  go_wp2_with fail
  have hgs4 : g < w4.heap.size := HI4.out.lt
  have hgc : g < (w4.alloc (.cells #[.int .i64 (n : Int), .int .i64 (a : Int)] 28)).heap.size := (HI4.out.alloc _).lt
  refine (erasure_Encode.calls k _ _ _ _ _ _ HE.out).mono ?_
  rintro e w5 ⟨v9, rfl, hO5, hb5⟩
  obtain ⟨KB5, HI5, HB5⟩ : Aside0 (w5.heap[w4.heap.size]? = some (.cells #[.int .i64 n, .int .i64 a] 28 (0, 0))) ∧ Aside0 (IsS59 w w5 g l0 p1) ∧ Aside0 (Below w.heap.size w w5) := by
    refine ⟨⟨blk_below (blk_new w4 _) hb5⟩, ⟨(HI4.out.alloc _).below hb5⟩, ⟨(below_alloc HB4.out _).trans (hb5.mono ?_)⟩⟩
    have := HB4.out.size
    simp
    omega
  obtain ⟨gr, c9, e9, hgr0, hgr1, _⟩ := Kd.R_form hO5 (by have := HL.out; omega)
  subst e9
  have hgrg : gr ≠ g := Nat.ne_of_gt (Nat.lt_of_lt_of_le hgc hgr0)
  have HO9 := Aside0.mk (show ∀ W_, KeepBut w5 W_ g none → Kd.C k37 W_ (some ⟨gr, 0, none⟩) l.length l from fun W_ hk => C_block (by have := HL.out; omega) (Kd.R_reads' hO5).2.2 (hk.2 gr hgr1 hgrg (by simp)))
  have HCAP := Aside0.mk (Kd.R_reads' hO5).2.1
  have hlb : ((l.length : Int) != (a : Int)) = false := by rw [HL.out]; simp
  have x0 := (blk_cell KB5.out 0).trans (show _ = some (Value.int .i64 n) from rfl)
  have x1 := (blk_cell KB5.out 1).trans (show _ = some (Value.int .i64 a) from rfl)
  clear hO5 hb5 HI4 HB4 hgr0 hgr1 hgrg
  go_wp2_with fail
  clear x0 x1 hlb
  refine (storagebarterlaw07_some.calls g l0 p1 (some ⟨gr, 0, none⟩) c9 l a part p2 w _ HI5.out HB5.out HO9.out HCAP.out HSO.out).mono ?_
  rintro e w6 ⟨v11, rfl, hO6, hI6, hb6, hk6⟩
  have KB6 := Aside0.mk ((hk6.2 w4.heap.size (blk_lt KB5.out) (Nat.ne_of_gt hgs4) (by simp)).trans KB5.out)
  have HB6 := Aside0.mk hb6
  obtain ⟨gp, cpp, e13, hgp0, hgp1, curp, hgpc⟩ := Kd.R_form hO6 (by have := HPL.out; omega)
  subst e13
  have hgp4 : gp ≠ w4.heap.size := Nat.ne_of_gt (Nat.lt_of_lt_of_le (blk_lt KB5.out) hgp0)
  have hwgp : w.heap.size ≤ gp := Nat.le_trans HB5.out.size hgp0
  have HC6 := Aside0.mk (Kd.R_reads' hO6).2.2
  have HCAP2 := Aside0.mk (Kd.R_reads' hO6).2.1
  have HGPC := Aside0.mk (show ∃ cs, w6.heap[gp]? = some (.cells cs 37 (0, 0)) from ⟨curp, hgpc⟩)
  have HP9 := Aside0.mk (show part.length ≤ 9 by have := HPL.out; omega)
  clear hO6 hgpc HI5 HB5 KB5 hk6 hI6 hb6 HCAP HO9 HSO HE curp hgp0 hgp1
  go_wp2_with fail
  go_loopw [53] (fun v53 wr => ∃ (j : Nat) (cur : List S37), v53 = .int .i64 (j : Int) ∧ j ≤ part.length ∧ Aside0 (BentS n part cur) ∧ Aside0 (∃ cs, wr.heap[gp]? = some (.cells cs 37 (0, 0))) ∧ Aside0 (Kd.C k37 wr (some ⟨gp, 0, none⟩) cur.length cur) ∧ Aside0 (wr.heap[w4.heap.size]? = some (.cells #[.int .i64 n, .int .i64 a] 28 (0, 0))) ∧ Aside0 (Below w.heap.size w wr)) (fun v53 _ => part.length - (intOf v53).toNat)
  case atStart => exact ⟨0, part, rfl, Nat.zero_le _, ⟨rfl, fun t _ => ⟨rfl, rfl, fun _ => rfl⟩⟩, HGPC, HC6, KB6, HB6⟩
  case round =>
    obtain ⟨j, cur, rfl, hj, HBS, HG, HCC, KBr, HBr⟩ := hrel
    clear HGPC HC6 KB6 HB6
    by_cases hjn : j < part.length
    · have hjb : decide ((j : Int) < (part.length : Int)) = true := decide_eq_true (by omega)
      have hcl := HBS.out.1
      obtain ⟨ad, e, hc0, hc1⟩ := at_T37 HCC.out (j : Int) (by omega) (by omega)
      cases e
      rw [Int.toNat_natCast, add_plain] at hc0 hc1
      have HF0 := Aside0.mk (HBS.out.2 j hjn).1
      have HF1 := Aside0.mk (HBS.out.2 j hjn).2.1
      have hsz1 : (rd_T37 cur (j : Int)).f1.size ≤ 1000 := by rw [HF1.out]; exact HPS.out j hjn
      have x0 := (blk_cell KBr.out 0).trans (show _ = some (Value.int .i64 n) from rfl)
      have hj1 : (j : Int) < (part.length : Int) := by omega
      have HJ9 := Aside0.mk (show (j : Int) ≤ 9 by have := HP9.out; omega)
      clear hcl
      go_upto_region 14 with (fail)
      go_region_held3 (fun w' => w'.cell? ⟨gp, j * 2, none⟩ = some (.int .i64 (rd_T37 cur (j : Int)).f0) ∧ w'.cell? ⟨w4.heap.size, 0, none⟩ = some (.int .i64 (n : Int))) (first | go_keep) (fail)
      clear x0 hc0
      have KB8 := Aside0.mk (blk_drew KBr.out)
      have HB8 := Aside0.mk (below_drew1 HBr.out)
      obtain ⟨cs8, hcs8⟩ := HG.out
      have HG8 := Aside0.mk (blk_drew hcs8)
      have HC8 := Aside0.mk (Kd.C_drew HCC.out)
      have hc18 : wr.drew.cell? ⟨gp, j * 2 + 1, none⟩ = some (.string (rd_T37 cur (j : Int)).f1) := hc1
      clear HG HCC KBr HBr hcs8 hc1
      obtain ⟨W8, hW8⟩ : ∃ W8, W8 = wr.drew := ⟨_, rfl⟩
      rw [← hW8] at KB8 HB8 HG8 HC8 hc18 ⊢
      clear hW8
      by_cases hge : (n : Int) ≤ (rd_T37 cur (j : Int)).f0
      · have hgb : decide ((rd_T37 cur (j : Int)).f0 ≥ (n : Int)) = true := decide_eq_true hge
        obtain ⟨cb, wb, hcv, hBR, hbb, hcb⟩ := conv_bytes W8 (rd_T37 cur (j : Int)).f1 (by omega)
        have HBE := Aside0.mk (show ∀ s : ByteArray, s.size = (rd_T37 cur (j : Int)).f1.size → BentS n part (setData cur j s) from fun s hs => BentS.set HBS.out hjn (by rw [← HF0.out]; omega) hs)
        have HCL := Aside0.mk HBS.out.1
        rw [hgb]
        clear hge hgb HF0 HF1 HBS
        have hgp8 : gp < W8.heap.size := blk_lt HG8.out
        have hgpb : gp ≠ W8.heap.size := Nat.ne_of_lt hgp8
        have HBR := Aside0.mk hBR
        have HBB := Aside0.mk hbb
        clear hBR hbb
        generalize hx : (rd_T37 cur (j : Int)).f1 = x at hcv HBR hcb HBE hsz1 hc18
        clear hx
        go_upto_region 17 with (fail)
        clear hcv
        go_loopw [72] (fun v72 wr2 => ∃ (kx : Nat) (xs : List Int), v72 = .int .i64 (kx : Int) ∧ kx ≤ x.size ∧ xs.length = x.size ∧ Aside0 (BRow wr2 W8.heap.size cb xs) ∧ Aside0 (Below W8.heap.size W8 wr2)) (fun v72 _ => x.size - (intOf v72).toNat)
        case atStart => exact ⟨0, bytesOf x, rfl, Nat.zero_le _, bytesOf_length x, HBR, HBB⟩
        case round =>
          rename_i wr2 _
          obtain ⟨kx, xs, rfl, hkx, hxs, HBX, HBY⟩ := hrel
          by_cases hkn : kx < x.size
          · have hkb : decide ((kx : Int) < (x.size : Int)) = true := decide_eq_true (by omega)
            have hkb2 : (kx : Int) < (x.size : Int) := by omega
            have b0 := HBX.out.cell (j := kx) (by omega)
            have f0 := HBX.out.frozen (j := kx) (by omega)
            have HXS := Aside0.mk hxs
            have hk9 : (kx : Int) ≤ 1000 := by omega
            clear hxs
            go_wp2_with fail
            exact ⟨⟨kx + 1, _, rfl, hkn, (List.length_set ..).trans HXS.out, ⟨HBX.out.set kx _⟩, ⟨HBY.out.setCell (p := ⟨W8.heap.size, kx, none⟩) (Nat.le_refl _) _⟩⟩, by simp [intOf]; omega⟩
          · have hkb : decide ((kx : Int) < (x.size : Int)) = false := decide_eq_false (by omega)
            have hcv2 := HBX.out.string
            rw [hxs] at hcv2
            have HSZ := Aside0.mk ((strOfNums_size xs).trans hxs)
            have HG9 := Aside0.mk (blk_below HG8.out HBY.out)
            have HC9 := Aside0.mk (Kd.C_below HC8.out HBY.out)
            have HSET := Aside0.mk (C37_set (s := strOfNums xs) (k := j) HG9.out HC9.out (by have := HP9.out; have := HCL.out; omega) (by have := HCL.out; omega))
            have c1 := (HBY.out.cell (p := ⟨gp, j * 2 + 1, none⟩) hgp8).trans hc18
            have f1 := blk_frozen HG9.out (j * 2 + 1)
            have HB9 := Aside0.mk ((HB8.out.trans (HBY.out.mono HB8.out.size)).setCell (p := ⟨gp, j * 2 + 1, none⟩) hwgp (.string (strOfNums xs)))
            have HG10 := Aside0.mk (blk_set HG9.out (j * 2 + 1) (.string (strOfNums xs)))
            have HKB9 := Aside0.mk (blk_far (blk_below KB8.out HBY.out) (p := ⟨gp, j * 2 + 1, none⟩) (Ne.symm hgp4) (.string (strOfNums xs)))
            have hj9 := HJ9.out
            clear hxs HG9 HC9 HG8 HC8 KB8 HB8 HBX HBY HBR HBB
            go_wp2_with fail
            exact ⟨⟨j + 1, setData cur j (strOfNums xs), rfl, hjn, ⟨HBE.out _ HSZ.out⟩, ⟨_, HG10.out⟩, HSET, HKB9, HB9⟩, by simp [intOf]; omega⟩
      · have hgb : decide ((rd_T37 cur (j : Int)).f0 ≥ (n : Int)) = false := decide_eq_false hge
        rw [hgb]
        have hj9 := HJ9.out
        clear hgb hge
        go_wp2_with fail
        exact ⟨⟨j + 1, cur, rfl, hjn, HBS, ⟨_, HG8.out⟩, HC8, KB8, HB8⟩, by simp [intOf]; omega⟩
    · have hjb : decide ((j : Int) < (part.length : Int)) = false := decide_eq_false (by omega)
      have x0 := (blk_cell KBr.out 0).trans (show _ = some (Value.int .i64 n) from rfl)
      have x1 := (blk_cell KBr.out 1).trans (show _ = some (Value.int .i64 a) from rfl)
      have HDC := erasure_Decode.calls n a a1.size (some ⟨gp, 0, none⟩) cpp cur a1 0 wr HCC.out (by rw [HBS.out.1]; exact HCAP2.out) (HD.out cur HBS.out)
      rw [HBS.out.1] at HDC
      have HDC := Aside0.mk HDC
      go_wp2_with fail
      clear x0 x1
      refine HDC.out.mono ?_
      rintro e w9 ⟨rfl, hb9⟩
      have HBZ := Aside0.mk (HBr.out.trans (hb9.mono HBr.out.size))
      clear hb9
      go_wp2_with fail
      go_ret
      exact ⟨rfl, HBZ.out⟩
#print axioms storagebarterlaw07_ErasureOrder.main
end Go.Proofs.Ytgmadofbelhmeaa.L
end
section
/- law07's ErasureOrder: what is left to the plain law, and the walk of the whole. -/
namespace Go.Proofs.Ytgmadofbelhmeaa.L
open Go.RowKit Go.Proofs.YtgmadofbelhmeaaW.PrintWords Go.Proofs.YtgmadofbelhmeaaW.PrintLast Go.Proofs.YtgmadofbelhmeaaW.PrintMore
set_option linter.unusedVariables false
set_option linter.unusedSimpArgs false
def ErasureOrderMain (k : Nat) (l0 : List Int) (a1 : ByteArray) : Prop :=
  ∃ (n a : Nat) (p1 p2 : Int) (l part : List S37), 0 < a ∧ a ≤ 9 ∧ n ≤ a ∧ storagebartermake_Code.f l0 0 = some ((n : Int), (a : Int), p1) ∧
    erasure_Encode.f k n a a1 = some (l, 0) ∧ l.length = a ∧ storagebarterlaw07_some.f l0 p1 l a = some (part, p2) ∧ part.length = a ∧ (∀ t : Nat, t < part.length → (rd_T37 part (t : Int)).f1.size ≤ 1000) ∧
    ∀ cur, BentS n part cur → erasure_Decode.f n a a1.size cur = some (a1, 0)
def storagebarterlaw07_ErasureOrder.Pure : Prop := ∀ (l0 : List Int) (a1 : ByteArray),
  ∃ k, storagebarterlaw07_sane.f k = some true ∧ (l0.length ≤ 500 → a1.size ≤ 600 → ErasureOrderMain k l0 a1)
set_option maxHeartbeats 600000 in
set_option maxRecDepth 100000 in
theorem storagebarterlaw07_ErasureOrder.early (k : Nat) (A0 : Option Addr) (c0 : Nat) (l0 : List Int) (a1 : ByteArray) (a2 : Int) (w : World)
    (hr0 : Kd.C (Kd.int .i64) w A0 l0.length l0) (hc0 : l0.length ≤ c0) (h20 : 0 ≤ a2) (h2 : a2 ≤ 255)
    (hS : storagebarterlaw07_sane.f k = some true) (hno : ¬ (l0.length ≤ 500 ∧ a1.size ≤ 600)) :
    Calls Try.prog 5 #[.slice A0 l0.length c0, .string a1, .int .u8 a2] w fun e w' => e = .returned (.bool true) ∧ Below w.heap.size w w' := by
  have HR0 := Aside0.mk hr0
  have HC0 := Aside0.mk hc0
  have HS := Aside0.mk hS
  clear hr0 hc0 hS
  by_cases hF : l0.length ≤ 500
  · have HF := Aside0.mk (show storagebartermake_Few.f l0 = some true by unfold storagebartermake_Few.f; rw [decide_eq_true (by omega)])
    have d1 : decide ((a1.size : Int) > 600) = true := decide_eq_true (by omega)
    clear hF hno
    go_enter Try.func5, Try.ntmps5
    go_wp2_with fail
    refine (storagebarterlaw07_sane.calls k true _ HS.out).mono ?_
    rintro e w1 ⟨rfl, hb1⟩
    have HB1 := Aside0.mk hb1
    clear hb1
    go_wp2_with fail
    refine (storagebartermake_Few.calls _ _ l0 true _ (Kd.C_below HR0.out HB1.out) HC0.out HF.out).mono ?_
    rintro e w2 ⟨rfl, ⟨nd, rfl⟩⟩
    go_wp2_with fail
    go_ret
    exact ⟨rfl, pw_below_drewN HB1.out _⟩
  · have HF := Aside0.mk (show storagebartermake_Few.f l0 = some false by unfold storagebartermake_Few.f; rw [decide_eq_false (by omega)])
    clear hF hno
    go_enter Try.func5, Try.ntmps5
    go_wp2_with fail
    refine (storagebarterlaw07_sane.calls k true _ HS.out).mono ?_
    rintro e w1 ⟨rfl, hb1⟩
    have HB1 := Aside0.mk hb1
    clear hb1
    go_wp2_with fail
    refine (storagebartermake_Few.calls _ _ l0 false _ (Kd.C_below HR0.out HB1.out) HC0.out HF.out).mono ?_
    rintro e w2 ⟨rfl, ⟨nd, rfl⟩⟩
    go_wp2_with fail
    go_ret
    exact ⟨rfl, pw_below_drewN HB1.out _⟩
theorem u8_wf3 {a : Int} (h : (Lit.int .u8 a).wf = true) : 0 ≤ a ∧ a ≤ 255 := by
  simp only [Lit.wf, Bool.and_eq_true, decide_eq_true_eq] at h
  exact ⟨h.1, h.2⟩
theorem storagebarterlaw07_ErasureOrder.walk (P : storagebarterlaw07_ErasureOrder.Pure) (a0 : Option Addr) (len0 cap0 : Nat) (z0 : List Int) (a1 : ByteArray) (a2 : Int) (w : World) (w0 : (a0 = none ∧ len0 = 0 ∧ cap0 = 0 ∧ z0 = []) ∨ ∃ x, a0 = some x ∧ len0 ≤ cap0 ∧ cap0 ≤ maxLen ∧ z0.length = cap0 ∧ (∀ i, i < z0.length → w.cell? (x.add i) = some (.int .i64 (z0.getD i 0))) ∧ ∀ n ∈ z0, (Lit.int .i64 n).wf = true) (y0 : len0 * 8 ≤ 140737488351232) (w1 : a1.size ≤ 140737488351232) (w2 : (Lit.int .u8 a2).wf = true) :
    Calls Try.prog 5 #[.slice a0 len0 cap0, .string a1, .int .u8 a2] w fun e w' => e = .returned (.bool true) ∧ Below w.heap.size w w' := by
  obtain ⟨l0, rfl, hr0, hm0, hw0, hc0⟩ := ReadsInt.ofRowC w0
  obtain ⟨h20, h2⟩ := u8_wf3 w2
  obtain ⟨k, hS, hM⟩ := P l0 a1
  have hr := Kd.C_of_reads (d := (0 : Int)) (h1 := fun _ => rfl) hr0
  by_cases hno : l0.length ≤ 500 ∧ a1.size ≤ 600
  · obtain ⟨n, a, p1, p2, l, part, g1, g2, g3, g4, g5, g6, g7, g8, g9, g10⟩ := hM hno.1 hno.2
    exact storagebarterlaw07_ErasureOrder.main k _ _ l0 a1 a2 n a p1 p2 l part w hr hc0 h20 h2 g1 g2 g3 hS (by unfold storagebartermake_Few.f; rw [decide_eq_true (by omega)]) hno.2 g4 g5 g6 g7 g8 g9 g10
  · exact storagebarterlaw07_ErasureOrder.early k _ _ l0 a1 a2 w hr hc0 h20 h2 hS hno
#print axioms storagebarterlaw07_ErasureOrder.walk
end Go.Proofs.Ytgmadofbelhmeaa.L
end
section
/- The plain law of ErasureOrder: the way that the row's function takes is there at every input.
Conditions: those of the given statement alone. -/
namespace Go.Proofs.Ytgmadofbelhmeaa.Pure
open Go.RowKit Go.Proofs.Ytgmadofbelhmeaa.L Go.Proofs.YtgmadofbelhmeaaW.PrintWords Go.Proofs.YtgmadofbelhmeaaW.PrintLast Go.Proofs.YtgmadofbelhmeaaW.PrintMore
set_option linter.unusedVariables false
set_option linter.unusedSimpArgs false
theorem inc_upper : ∀ (xs : List Nat) (c : Nat), xs.Pairwise (· < ·) → (∀ x, x ∈ xs → x < c) → ∀ t (h : t < xs.length), xs[t] + (xs.length - 1 - t) < c
  | [], _, _, _, t, h => absurd h (by simp)
  | x :: xs, c, hp, hc, t, h => by
    have hp' := List.pairwise_cons.1 hp
    have ih := inc_upper xs c hp'.2 fun y hy => hc y (List.mem_cons_of_mem _ hy)
    match t, h with
    | 0, h =>
      by_cases hl : 0 < xs.length
      · have h1 := ih 0 hl
        have h2 := hp'.1 xs[0] (List.getElem_mem hl)
        simp only [List.getElem_cons_zero, List.length_cons]
        omega
      · have := hc x (List.mem_cons_self ..)
        simp only [List.getElem_cons_zero, List.length_cons]
        omega
    | t + 1, h =>
      have h1 := ih t (by simpa using h)
      simp only [List.getElem_cons_succ, List.length_cons]
      simp only [List.length_cons] at h
      omega
theorem bent_map {n : Nat} {m cur : List S37} (h : BentS n m cur) : cur.map S37.f0 = m.map S37.f0 := by
  apply List.ext_getElem
  · rw [List.length_map, List.length_map, h.1]
  · intro t h1 h2
    rw [List.length_map] at h1 h2
    rw [List.getElem_map, List.getElem_map]
    have := (h.2 t h2).1
    rwa [rd_T37_get h1, rd_T37_get h2] at this
theorem bent_mem {n : Nat} {m cur : List S37} (h : BentS n m cur) {x : S37} (hx : x ∈ cur) : ∃ y, y ∈ m ∧ x.f0 = y.f0 ∧ x.f1.size = y.f1.size ∧ (y.f0 < (n : Int) → x = y) := by
  obtain ⟨t, ht, rfl⟩ := List.getElem_of_mem hx
  have hl := h.1
  have h2 := h.2 t (by omega)
  refine ⟨rd_T37 m (t : Int), rd_T37_mem (by omega), ?_⟩
  rw [rd_T37_get ht] at h2
  exact h2
theorem bent_fit {n a L : Nat} {m cur : List S37} (h : BentS n m cur) (hf : Fit a L m) : Fit a L cur := by
  refine ⟨fun x hx => ?_, ?_⟩
  · obtain ⟨y, hy, e1, e2, _⟩ := bent_mem h hx
    have := hf.1 y hy
    rw [e1, e2]
    exact this
  · have h2 : (m.map S37.f0).Pairwise (fun x y => x ≠ y) := List.pairwise_map.2 hf.2
    rw [← bent_map h] at h2
    exact List.pairwise_map.1 h2
theorem order_core {n a : Nat} {s : ByteArray} (h1 : 1 ≤ n) (hn : n ≤ 5) (ha : n ≤ a) (ha4 : a ≤ n + 4) (hs : s.size ≤ 800) {part cur : List S37} (hmem : ∀ x, x ∈ part → ∃ i, i < a ∧ x = shardN n a (lenN n s.size) (padded n s) i) (hd : part.Pairwise (fun x y => x.f0 ≠ y.f0)) (hlen : part.length = a) (hB : BentS n part cur) :
    erasure_Decode.f n a s.size cur = some (s, 0) := by
  have hf := bent_fit hB (shardN_fit hmem hd)
  have hcl : cur.length = a := hB.1.trans hlen
  refine decode_used h1 hn ha ha4 hs hf (fun x hx => ?_) (by omega)
  obtain ⟨f1, f2, f3, f4⟩ := idx_facts (n := a) hf (by omega)
  have hsl : (sortS cur).length = a := by rw [sortS_length, hcl]
  unfold usedS at hx
  obtain ⟨t, ht, hxt⟩ := List.getElem_of_mem hx
  rw [List.length_take, hsl] at ht
  rw [List.getElem_take] at hxt
  have htn : t < n := by omega
  have hta : t < (idxOf cur a).length := by omega
  have hu := inc_upper (idxOf cur a) a f2 f3 t hta
  have hit : (idxOf cur a)[t] = x.f0.toNat := by
    have hsome : (idxOf cur a)[t]? = some x.f0.toNat := by
      unfold idxOf usedS
      rw [List.getElem?_map, List.getElem?_take, if_pos (by omega), List.getElem?_eq_getElem (by omega), hxt]
      rfl
    rw [List.getElem?_eq_getElem hta] at hsome
    exact Option.some.inj hsome
  rw [hit, f1] at hu
  have hxc : x ∈ cur := (sortS_perm cur).mem_iff.1 (List.mem_of_mem_take hx)
  have hx0 := hf.1 x hxc
  obtain ⟨y, hy, e1, e2, e3⟩ := bent_mem hB hxc
  rw [e3 (by omega)]
  exact hmem y hy
theorem ErasureOrder : storagebarterlaw07_ErasureOrder.Pure := by
  intro l0 a1
  refine ⟨2000, sane_true (by omega), fun hf hs => ?_⟩
  obtain ⟨n, a, p1, n1, n5, na, a4, hp1, hC⟩ := code_some hf
  have hSl := shardsN_length n a (lenN n a1.size) (padded n a1)
  have hpw := shardsN_pw n a (lenN n a1.size) (padded n a1)
  obtain ⟨part, p2, hso, q1, q2, q3⟩ := some_some (deck := l0) (pos := p1) (n := a) (l := shardsN n a (lenN n a1.size) (padded n a1)) (by omega) hp1 (by omega) hpw
  have hpl : part.length = a := by rw [q3, hSl]; omega
  have hm : ∀ x, x ∈ part → ∃ i, i < a ∧ x = shardN n a (lenN n a1.size) (padded n a1) i := fun x hx => shardsN_mem (q1 x hx)
  have hL2 := lenN_le n1 (show a1.size ≤ 800 by omega)
  refine ⟨n, a, p1, p2, _, part, by omega, by omega, na, hC, encode_some n1 n5 na a4 (by omega) (by omega), hSl, hso, hpl, fun t ht => ?_, fun cur hB => order_core n1 n5 na a4 (by omega) hm q2 hpl hB⟩
  obtain ⟨i, hi, hx⟩ := hm _ (rd_T37_mem ht)
  rw [hx]
  show (strOfNums _).size ≤ 1000
  rw [strOfNums_size, accL_length]
  omega
end Go.Proofs.Ytgmadofbelhmeaa.Pure
end
