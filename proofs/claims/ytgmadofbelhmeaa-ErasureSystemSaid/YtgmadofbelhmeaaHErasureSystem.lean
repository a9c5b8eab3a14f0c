/- Texts of this claim, put together by a small program of the session's own: MSys, MSysW, PureErasureSystem. -/
import Derived.Test.YtgmadofbelhmeaaH4
import Derived.Test.YtgmadofbelhmeaaH5
import Derived.Test.YtgmadofbelhmeaaH2
import Derived.Test.YtgmadofbelhmeaaH9
import Derived.Test.YtgmadofbelhmeaaH3
import Derived.Deep.RegionLaw
import Derived.Laws.RangeAny
section
/- law07's ErasureSystem: the walk along the way that the plain law tells. -/
namespace Go.Proofs.Ytgmadofbelhmeaa.L
open Go.RowKit Go.Proofs.YtgmadofbelhmeaaW.PrintWords Go.Proofs.YtgmadofbelhmeaaW.PrintLast Go.Proofs.YtgmadofbelhmeaaW.PrintMore
set_option linter.unusedVariables false
set_option linter.unusedSimpArgs false
theorem width_pos (s : ByteArray) (pos : Nat) (h : pos < s.size) : 1 ≤ (Utf8.decode s pos).2 := by
  rcases Nat.lt_or_ge ((s[pos]'h).toNat) 128 with h1 | h1
  · rw [decode_ascii s pos h h1]
    exact Nat.le_refl _
  · exact (decode_high s pos h h1).2
theorem iter_next {W : World} {g : Nat} {s : ByteArray} {pos : Nat} (hg : W.heap.size = g) (h : pos < s.size) : ∃ (r : Int) (wd : Nat), 1 ≤ wd ∧ ∀ ty, (Instr.next (.pointer (some ⟨g, 0, none⟩)) true ty).run Try.prog (W.iter s pos) = .ok (.tuple #[.bool true, .int .i64 (pos : Int), .int .i32 r]) (W.iter s (pos + wd)) := by
  subst hg
  exact ⟨_, _, width_pos s pos h, fun ty => run_next_any W s pos ty h⟩
theorem iter_end {W : World} {g : Nat} {s : ByteArray} {pos : Nat} (hg : W.heap.size = g) (h : ¬ pos < s.size) : ∀ ty, (Instr.next (.pointer (some ⟨g, 0, none⟩)) true ty).run Try.prog (W.iter s pos) = .ok (.tuple #[.bool false]) (W.iter s pos) := by
  subst hg
  exact fun ty => run_next_end W s pos ty h
theorem iter_below {B W : World} (h : Below B.heap.size B W) (s : ByteArray) (pos : Nat) : Below B.heap.size B (W.iter s pos) := below_alloc h _
def xorL (a1 a2 : ByteArray) (j : Nat) : List Int := (List.range j).map fun t : Nat => x8 (bt a1 (t : Int)) (bt a2 (t : Int))
theorem xorL_length (a1 a2 : ByteArray) (j : Nat) : (xorL a1 a2 j).length = j := by simp [xorL]
theorem bt_get {s : ByteArray} {j : Nat} (h : j < s.size) : bt s (j : Int) = ((s[j]'h).toNat : Int) := by
  unfold bt
  rw [dif_pos (show (j : Int).toNat < s.size by rw [Int.toNat_natCast]; exact h)]
  rfl
theorem xorL_succ (a1 a2 : ByteArray) {j : Nat} (h1 : j < a1.size) (h2 : j < a2.size) : xorL a1 a2 (j + 1) = xorL a1 a2 j ++ [Go.bits .xor .u8 ((a1[j]'h1).toNat : Int) ((a2[j]'h2).toNat : Int)] := by
  unfold xorL
  rw [List.range_succ, List.map_append, List.map_singleton, bt_get h1, bt_get h2]
  rfl
/-- The data of the first j shards, one behind the other. -/
def catS (l : List S37) : Nat → ByteArray
  | 0 => ⟨#[]⟩
  | j + 1 => catS l j ++ (rd_T37 l (j : Int)).f1
set_option maxHeartbeats 4000000 in
set_option maxRecDepth 100000 in
theorem storagebarterlaw07_ErasureSystem.main (k : Nat) (A0 : Option Addr) (c0 : Nat) (l0 : List Int) (a1 a2 : ByteArray) (n a nn : Nat) (p1 : Int) (lx ly lz : List S37) (w : World)
    (hr0 : Kd.C (Kd.int .i64) w A0 l0.length l0) (hc0 : l0.length ≤ c0)
    (ha0 : 0 < a) (ha9 : a ≤ 9) (hn : n ≤ a)
    (hS : storagebarterlaw07_sane.f k = some true) (hF : storagebartermake_Few.f l0 = some true) (hsz : a1.size + a2.size ≤ 1200) (hnn : nn = min a1.size a2.size)
    (hC : storagebartermake_Code.f l0 0 = some ((n : Int), (a : Int), p1))
    (hE1 : erasure_Encode.f k n a (a1.extract 0 nn) = some (lx, 0)) (hE2 : erasure_Encode.f k n a (a2.extract 0 nn) = some (ly, 0)) (hE3 : erasure_Encode.f k n a (strOfNums (xorL a1 a2 nn)) = some (lz, 0))
    (hlx : lx.length = a) (hly : ly.length = a) (hlz : lz.length = a)
    (hc1 : nn ≤ (catS lx n).size) (hc2 : ((catS lx n).extract 0 nn).toList = (a1.extract 0 nn).toList) (hc3 : ∀ t : Nat, nn ≤ t → t < (catS lx n).size → bt (catS lx n) (t : Int) = 0) (hc4 : ∀ j : Nat, j ≤ n → (catS lx j).size ≤ 10000)
    (hs3 : ∀ i : Nat, i < a → (rd_T37 lx (i : Int)).f1.size = (rd_T37 lz (i : Int)).f1.size ∧ (rd_T37 ly (i : Int)).f1.size = (rd_T37 lz (i : Int)).f1.size ∧ (rd_T37 lz (i : Int)).f1.size ≤ 1000)
    (hx3 : ∀ i : Nat, i < a → ∀ t : Nat, t < (rd_T37 lz (i : Int)).f1.size → x8 (bt (rd_T37 lx (i : Int)).f1 (t : Int)) (bt (rd_T37 ly (i : Int)).f1 (t : Int)) = bt (rd_T37 lz (i : Int)).f1 (t : Int)) :
    Calls Try.prog 4 #[.slice A0 l0.length c0, .string a1, .string a2] w fun e w' => e = .returned (.bool true) ∧ Below w.heap.size w w' := by
  have hu28 := Try.underlying28
  have hu37 := Try.underlying37
  have HR0 := Aside0.mk hr0
  have HC0 := Aside0.mk hc0
  have HS := Aside0.mk hS
  have HF := Aside0.mk hF
  have HC := Aside0.mk hC
  have HNN := Aside0.mk hnn
  have HNW := Aside0.mk (show storagebartermake_New.f l0 = some (l0, 0) from rfl)
  have d1 : decide ((a1.size : Int) + (a2.size : Int) > 1200) = false := decide_eq_false (by omega)
  have hs1 : (a1.size : Int) ≤ 1200 := by omega
  have hs2 : (a2.size : Int) ≤ 1200 := by omega
  have HE1 := Aside0.mk hE1
  have HE2 := Aside0.mk hE2
  have HE3 := Aside0.mk hE3
  have HLX := Aside0.mk hlx
  have HLY := Aside0.mk hly
  have HLZ := Aside0.mk hlz
  have HK1 := Aside0.mk hc1
  have HK2 := Aside0.mk hc2
  have HK3 := Aside0.mk hc3
  have HK4 := Aside0.mk hc4
  have HS3 := Aside0.mk hs3
  have HX3 := Aside0.mk hx3
  clear hr0 hc0 hS hF hC hnn hE1 hE2 hE3 hlx hly hlz hc1 hc2 hc3 hc4 hs3 hx3
  go_enter Try.func4, Try.ntmps4
  go_wp2_with fail
  refine (storagebarterlaw07_sane.calls k true _ HS.out).mono ?_
  rintro e w1 ⟨rfl, hb1⟩
  have HB1 := Aside0.mk hb1
  clear hb1
  go_wp2_with fail
  refine (storagebartermake_Few.calls _ _ l0 true _ (Kd.C_below HR0.out HB1.out) HC0.out HF.out).mono ?_
  rintro e w2 ⟨rfl, ⟨nd, rfl⟩⟩
  go_wp2_with fail
  refine (storagebartermake_New.calls _ _ l0 l0 0 w _ (pw_below_drewN HB1.out _) HR0.out HC0.out HNW.out).mono ?_
  rintro e w3 ⟨g, rfl, hI3, hb3, _⟩
  have HI3 := Aside0.mk hI3
  have HB3 := Aside0.mk hb3
  clear hI3 hb3 HB1 d1
  go_wp2_with fail
  refine (storagebartermake_Code.calls g l0 0 n a p1 w _ HI3.out HB3.out HC.out).mono ?_
  rintro e w4 ⟨rfl, hI4, hb4, hk4⟩
  have HB4 := Aside0.mk hb4
  clear hI4 hb4 hk4 HB3 HI3
  have KB5 := Aside0.mk (blk_new w4 (.cells #[.int .i64 (n : Int), .int .i64 (a : Int)] 28))
  have HB5 := Aside0.mk (below_alloc HB4.out (.cells #[.int .i64 (n : Int), .int .i64 (a : Int)] 28))
  obtain ⟨w5, hw5⟩ : ∃ w5, w5 = w4.alloc (.cells #[.int .i64 (n : Int), .int .i64 (a : Int)] 28) := ⟨_, rfl⟩
  rw [← hw5] at KB5 HB5
  have HW5 := Aside0.mk hw5
  clear hw5 HB4
  go_upto_region 6 with (fail)
  rw [← HW5.out]
  go_cut [8] (fun v8 wc => v8 = .int .i64 (nn : Int) ∧ wc = w5)
  case first =>
    have hnn := HNN.out
    go_wp2_with fail
    all_goals
      go_meet
      case rel => exact ⟨by congr 1; omega, rfl⟩
  case rest =>
    obtain ⟨rfl, rfl⟩ := hcut
    have hn1 : nn ≤ a1.size := by rw [HNN.out]; exact Nat.min_le_left _ _
    have hn2 : nn ≤ a2.size := by rw [HNN.out]; exact Nat.min_le_right _ _
    go_upto_region 9 with (fail)
    go_loopw [9, 10] (fun v9 v10 wr => ∃ (j : Nat) (xs : List Int), v10 = .int .i64 (j : Int) ∧ j ≤ nn ∧ Aside0 (xs.length = j) ∧ Aside0 (xs = xorL a1 a2 j) ∧ Aside0 ((Kd.int .u8).R 5 wr wc.heap.size (fun _ => True) v9 xs) ∧ Aside0 (Below wc.heap.size wc wr)) (fun _ v10 _ => nn - (intOf v10).toNat)
    case atStart => exact ⟨0, [], rfl, Nat.zero_le _, ⟨rfl⟩, ⟨rfl⟩, ⟨Kd.R_nil _ _ _ _ _⟩, ⟨Below.refl _ _⟩⟩
    case round =>
      obtain ⟨j, xs, rfl, hj, HXL, HX, HO, HBB⟩ := hrel
      by_cases hjn : j < nn
      · have hjb : decide ((j : Int) < (nn : Int)) = true := decide_eq_true (by omega)
        obtain ⟨A9, c9, rfl⟩ := Kd.R_slice HO.out
        have hj1 : (j : Int) < (a1.size : Int) := by omega
        have hj2 : (j : Int) < (a2.size : Int) := by omega
        have hj1' : j < a1.size := by omega
        have hj2' : j < a2.size := by omega
        have hlen : (xs.length + 1) * 1 ≤ 140737488355328 := by have := HXL.out; omega
        go_upto_region 11 with (fail)
        go_region_held3 (fun w' => True) (exact trivial) (first | (refine Kd.R_append_rows_step (Kd.int .u8) (Rr := fun x cs => cs = [.int .u8 x]) (w0 := wc) wc.heap.size (by rfl) (.tmp 48) (.tmp 56) 43 5 (.int .u8 0) 1 rfl Try.underlying43 info5 rfl (by decide) (by decide) (.slice A9 xs.length c9) xs [_] _ 1 1 (fun _ => True) (fun _ => False) rfl rfl (Kd.R_drew (Kd.R_alloc HO.out _)) (reads_one (Value.int .u8) (blk_drew (blk_new wr _))) (fun _ _ h => h) (fun _ h => h.elim) (fun _ _ => trivial) (below_drew1 (below_alloc HBB.out _)) (below_size (below_drew1 (below_alloc HBB.out _))) hlen ?_; intro v6 w6 ho6 hb6 hg6 hat6))
        all_goals
          have HX2 := Aside0.mk (show xs ++ [Go.bits .xor .u8 ((a1[j]'hj1').toNat : Int) ((a2[j]'hj2').toNat : Int)] = xorL a1 a2 (j + 1) by rw [xorL_succ a1 a2 hj1' hj2', HX.out])
          have HO6 := Aside0.mk ho6
          have HXL2 := Aside0.mk ((congrArg List.length HX2.out).trans (xorL_length a1 a2 (j + 1)))
          have hj9 : (j : Int) ≤ 1200 := by omega
          clear ho6 hg6 hat6 HX HO HXL
          go_wp2_with fail
          exact ⟨⟨j + 1, _, rfl, hjn, HXL2, HX2, HO6, ⟨hb6⟩⟩, by simp [intOf]; omega⟩
      · have hjb : decide ((j : Int) < (nn : Int)) = false := decide_eq_false (by omega)
        obtain rfl : nn = j := by omega
        obtain ⟨A9, c9, rfl⟩ := Kd.R_slice HO.out
        have h5 := HB5.out.size
        have HBW := Aside0.mk (HB5.out.trans (HBB.out.mono h5))
        have KBW := Aside0.mk (blk_below KB5.out HBB.out)
        have HXC := Aside0.mk (Kd.R_reads' HO.out).2.2
        have y0 := (blk_cell KBW.out 0).trans (show _ = some (Value.int .i64 n) from rfl)
        have y1 := (blk_cell KBW.out 1).trans (show _ = some (Value.int .i64 a) from rfl)
        have hn1' : (nn : Int) ≤ (a1.size : Int) := by omega
        have hn2' : (nn : Int) ≤ (a2.size : Int) := by omega
        have hn0' : (0 : Int) ≤ (nn : Int) := Int.natCast_nonneg _
        clear HO HBB KB5 HB5 hj hjn
        have HBWD := Aside0.mk (below_drew1 HBW.out)
        go_upto_region 12 with (fail)
        go_region_held3 (fun w' => w'.cell? ⟨w4.heap.size, 0, none⟩ = some (.int .i64 (n : Int)) ∧ w'.cell? ⟨w4.heap.size, 1, none⟩ = some (.int .i64 (a : Int))) (first | exact ⟨y0, y1⟩ | exact ⟨z0, z1⟩) (first | ((with_reducible refine (erasure_Encode.calls k _ _ _ _ _ _ HE1.out).mono ?_); rintro e w6 ⟨v11, rfl, hO6, hb6⟩; have KB6 := Aside0.mk (blk_below (blk_drew KBW.out) hb6); have z0 := (blk_cell KB6.out 0).trans (show _ = some (Value.int .i64 n) from rfl); have z1 := (blk_cell KB6.out 1).trans (show _ = some (Value.int .i64 a) from rfl)))
        obtain ⟨A11, c11, rfl⟩ := Kd.R_slice hO6
        have HC6 := Aside0.mk (Kd.R_reads' hO6).2.2
        have HXC6 := Aside0.mk (Kd.C_below (Kd.C_drew HXC.out) hb6)
        have HB6 := Aside0.mk (HBWD.out.trans (hb6.mono HBWD.out.size))
        clear hO6 hb6 y0 y1 z0 z1 HXC HBWD HBW KBW
        have y0 := (blk_cell KB6.out 0).trans (show _ = some (Value.int .i64 n) from rfl)
        have y1 := (blk_cell KB6.out 1).trans (show _ = some (Value.int .i64 a) from rfl)
        have HBWD := Aside0.mk (below_drew1 HB6.out)
        go_upto_region 13 with (fail)
        go_region_held3 (fun w' => w'.cell? ⟨w4.heap.size, 0, none⟩ = some (.int .i64 (n : Int)) ∧ w'.cell? ⟨w4.heap.size, 1, none⟩ = some (.int .i64 (a : Int))) (first | exact ⟨y0, y1⟩ | exact ⟨z0, z1⟩) (first | ((with_reducible refine (erasure_Encode.calls k _ _ _ _ _ _ HE2.out).mono ?_); rintro e w7 ⟨v13, rfl, hO7, hb7⟩; have KB7 := Aside0.mk (blk_below (blk_drew KB6.out) hb7); have z0 := (blk_cell KB7.out 0).trans (show _ = some (Value.int .i64 n) from rfl); have z1 := (blk_cell KB7.out 1).trans (show _ = some (Value.int .i64 a) from rfl)))
        obtain ⟨A13, c13, rfl⟩ := Kd.R_slice hO7
        have HC7 := Aside0.mk (Kd.R_reads' hO7).2.2
        have HC67 := Aside0.mk (Kd.C_below (Kd.C_drew HC6.out) hb7)
        have HXC7 := Aside0.mk (Kd.C_below (Kd.C_drew HXC6.out) hb7)
        have HB7 := Aside0.mk (HBWD.out.trans (hb7.mono HBWD.out.size))
        clear hO7 hb7 y0 y1 z0 z1 HXC6 HBWD HB6 KB6 HC6
        have y0 := (blk_cell KB7.out 0).trans (show _ = some (Value.int .i64 n) from rfl)
        have y1 := (blk_cell KB7.out 1).trans (show _ = some (Value.int .i64 a) from rfl)
        have hcv := string_of_reads (P := Try.prog) (c := c9) Try.underlying43 Try.underlying5 Try.underlying9 (Kd.reads_of_C (enc := Value.int .u8) (d := (0 : Int)) (h1 := fun _ => rfl) HXC7.out)
        have HE3' := Aside0.mk (show erasure_Encode.f k n a (strOfNums xs) = some (lz, 0) by rw [HX.out]; exact HE3.out)
        go_wp2_with fail
        clear hcv y0 y1
        refine (erasure_Encode.calls k _ _ _ _ _ _ HE3'.out).mono ?_
        rintro e w8 ⟨v15, rfl, hO8, hb8⟩
        obtain ⟨A15, c15, rfl⟩ := Kd.R_slice hO8
        have HC8 := Aside0.mk (Kd.R_reads' hO8).2.2
        have HC68 := Aside0.mk (Kd.C_below HC67.out hb8)
        have HC78 := Aside0.mk (Kd.C_below HC7.out hb8)
        have HB8 := Aside0.mk (HB7.out.trans (hb8.mono HB7.out.size))
        have KB8 := Aside0.mk (blk_below KB7.out hb8)
        clear hO8 hb8 KB7 HB7 HXC7 HC67 HC7 HE3' HE1 HE2 HE3 HX HXL HS HF HC HNN HR0 HC0
        have y0 := (blk_cell KB8.out 0).trans (show _ = some (Value.int .i64 n) from rfl)
        have y1 := (blk_cell KB8.out 1).trans (show _ = some (Value.int .i64 a) from rfl)
        have hl1 : ((lx.length : Int) != (a : Int)) = false := by rw [HLX.out]; simp
        have hl2 : ((ly.length : Int) != (a : Int)) = false := by rw [HLY.out]; simp
        have hl3 : ((lz.length : Int) != (a : Int)) = false := by rw [HLZ.out]; simp
        go_upto_region 19 with (fail)
        clear hl1 hl2 hl3
        go_loopw [17, 18] (fun v17 v18 wr => ∃ j : Nat, v18 = .int .i64 (j : Int) ∧ v17 = .string (catS lx j) ∧ j ≤ n ∧ wr = w8) (fun _ v18 _ => n - (intOf v18).toNat)
        case atStart => exact ⟨0, rfl, rfl, Nat.zero_le _, rfl⟩
        case round =>
          obtain ⟨j, rfl, rfl, hj, rfl⟩ := hrel
          by_cases hjn : j < n
          · have hjb : decide ((j : Int) < (n : Int)) = true := decide_eq_true (by omega)
            obtain ⟨ad, e, hc0, hc1⟩ := at_T37 HC68.out (j : Int) (by omega) (by have := HLX.out; omega)
            subst e
            rw [Int.toNat_natCast] at hc0 hc1
            have hjx : (j : Int) < (lx.length : Int) := by have := HLX.out; omega
            have hj9 : (j : Int) ≤ 9 := by omega
            have HCJ := Aside0.mk (show catS lx j ++ (rd_T37 lx (j : Int)).f1 = catS lx (j + 1) from rfl)
            have hsz1 : (catS lx j).size + (rd_T37 lx (j : Int)).f1.size ≤ 10000 := by
              have := HK4.out (j + 1) hjn
              rw [← HCJ.out, ByteArray.size_append] at this
              exact this
            go_wp2_with fail
            exact ⟨⟨j + 1, rfl, congrArg Value.string HCJ.out, hjn, trivial⟩, by simp [intOf]; omega⟩
          · have hjb : decide ((j : Int) < (n : Int)) = false := decide_eq_false (by omega)
            obtain rfl : n = j := by omega
            have hS4 := HK4.out n (Nat.le_refl _)
            have hS1 := HK1.out
            generalize catS lx n = S at hS4 hS1 HK2 HK3
            have b1 : decide (S.size < nn) = false := decide_eq_false (by omega)
            have b1' : decide ((S.size : Int) < (nn : Int)) = false := decide_eq_false (by omega)
            have b2 : (nn : Int) ≤ (S.size : Int) := by omega
            have b3 : ((S.extract 0 nn).toList == (a1.extract 0 nn).toList) = true := by rw [HK2.out]; simp
            clear HK4 HK1
            go_upto_region 22 with (fail)
            go_region_held3 (fun w' => True) (exact trivial) (fail)
            go_upto_region 25 with (fail)
            clear b1 b1' b3
            go_loopw [19] (fun v19 wr2 => ∃ t : Nat, v19 = .int .i64 (t : Int) ∧ nn ≤ t ∧ t ≤ S.size ∧ wr2 = wr.drew) (fun v19 _ => S.size - (intOf v19).toNat)
            case atStart => exact ⟨nn, rfl, Nat.le_refl _, hS1, rfl⟩
            case round =>
              obtain ⟨t, rfl, ht1, ht2, rfl⟩ := hrel
              by_cases htn : t < S.size
              · have htb : decide ((t : Int) < (S.size : Int)) = true := decide_eq_true (by omega)
                have htb2 : (t : Int) < (S.size : Int) := by omega
                have hz : (((S[t]'htn).toNat : Int) != 0) = false := by
                  have := HK3.out t ht1 htn
                  rw [bt_get htn] at this
                  rw [this]
                  rfl
                go_wp2_with fail
                exact ⟨⟨t + 1, rfl, by omega, htn, trivial⟩, by simp [intOf]; omega⟩
              · have htb : decide ((t : Int) < (S.size : Int)) = false := decide_eq_false (by omega)
                clear HK3 HK2 hn1' hn2' hn0'
                go_upto_region 30 with (fail)
                obtain ⟨WB, hWB⟩ : ∃ WB, WB = wr := ⟨_, rfl⟩
                have HBW0 := Aside0.mk (show Below WB.heap.size WB wr.drew by rw [hWB]; exact below_drew1 (Below.refl _ _))
                rw [← hWB] at HC68 HC78 HC8 HB8
                clear hWB KB8 y0 y1
                go_loopw [151] (fun v151 wr3 => ∃ i : Nat, v151 = .int .i64 (i : Int) ∧ i ≤ lz.length ∧ Aside0 (Below WB.heap.size WB wr3)) (fun v151 _ => lz.length - (intOf v151).toNat)
                case atStart => exact ⟨0, rfl, Nat.zero_le _, HBW0⟩
                case round =>
                  obtain ⟨i, rfl, hi, HBB⟩ := hrel
                  by_cases hin : i < lz.length
                  · have hib : decide ((i : Int) < (lz.length : Int)) = true := decide_eq_true (by omega)
                    have hia : i < a := by have := HLZ.out; omega
                    have hix : (i : Int) < (lx.length : Int) := by have := HLX.out; omega
                    have hiy : (i : Int) < (ly.length : Int) := by have := HLY.out; omega
                    have hiz : (i : Int) < (lz.length : Int) := by omega
                    obtain ⟨ad, e, _, hx1⟩ := at_T37 HC68.out (i : Int) (by omega) hix
                    subst e
                    obtain ⟨ad2, e, _, hy1⟩ := at_T37 HC78.out (i : Int) (by omega) hiy
                    subst e
                    obtain ⟨ad3, e, _, hz1⟩ := at_T37 HC8.out (i : Int) (by omega) hiz
                    subst e
                    rw [Int.toNat_natCast] at hx1 hy1 hz1
                    have HSI := Aside0.mk (HS3.out i hia)
                    have HXI := Aside0.mk (HX3.out i hia)
                    generalize (rd_T37 lx (i : Int)).f1 = x at hx1 HSI HXI
                    generalize (rd_T37 ly (i : Int)).f1 = y at hy1 HSI HXI
                    generalize (rd_T37 lz (i : Int)).f1 = z at hz1 HSI HXI
                    have HX1 := Aside0.mk hx1
                    have HY1 := Aside0.mk hy1
                    have HZ1 := Aside0.mk hz1
                    replace hx1 := pw_cell_below HBB.out hx1
                    replace hy1 := pw_cell_below HBB.out hy1
                    replace hz1 := pw_cell_below HBB.out hz1
                    have g1 : ((x.size : Int) != (z.size : Int)) = false := by rw [HSI.out.1]; simp
                    have g2 : ((y.size : Int) != (z.size : Int)) = false := by rw [HSI.out.2.1]; simp
                    have hi9 : (i : Int) ≤ 9 := by omega
                    go_upto_region 32 with (fail)
                    go_region_held3 (fun w' => w'.cell? ⟨(ad.add (i * 2)).block, (ad.add (i * 2)).off + 1, none⟩ = some (.string x) ∧ w'.cell? ⟨(ad2.add (i * 2)).block, (ad2.add (i * 2)).off + 1, none⟩ = some (.string y) ∧ w'.cell? ⟨(ad3.add (i * 2)).block, (ad3.add (i * 2)).off + 1, none⟩ = some (.string z)) (first | go_keep) (fail)
                    clear g1 g2
                    obtain ⟨W3, hW3⟩ : ∃ W3, W3 = wr.drew := ⟨_, rfl⟩
                    have HX3' := Aside0.mk (show W3.cell? ⟨(ad.add (i * 2)).block, (ad.add (i * 2)).off + 1, none⟩ = some (.string x) by rw [hW3]; exact hx1)
                    have HY3' := Aside0.mk (show W3.cell? ⟨(ad2.add (i * 2)).block, (ad2.add (i * 2)).off + 1, none⟩ = some (.string y) by rw [hW3]; exact hy1)
                    have hz3 : W3.cell? ⟨(ad3.add (i * 2)).block, (ad3.add (i * 2)).off + 1, none⟩ = some (.string z) := by rw [hW3]; exact hz1
                    have HZ3' := Aside0.mk hz3
                    have HB3 := Aside0.mk (show Below WB.heap.size WB W3 by rw [hW3]; exact below_drew1 HBB.out)
                    have hu9 := Try.underlying9
                    rw [← hW3]
                    clear hW3 hx1 hy1 hz1 HX1 HY1 HZ1 HBB
                    go_upto_region 35 with (fail)
                    clear hz3
                    go_loopw [21] (fun v21 wr4 => ∃ (W' : World) (pos : Nat), wr4 = W'.iter z pos ∧ Aside0 (W'.heap.size = W3.heap.size) ∧ Aside0 (W'.cell? ⟨(ad.add (i * 2)).block, (ad.add (i * 2)).off + 1, none⟩ = some (.string x)) ∧ Aside0 (W'.cell? ⟨(ad2.add (i * 2)).block, (ad2.add (i * 2)).off + 1, none⟩ = some (.string y)) ∧ Aside0 (W'.cell? ⟨(ad3.add (i * 2)).block, (ad3.add (i * 2)).off + 1, none⟩ = some (.string z)) ∧ Aside0 (Below WB.heap.size WB W')) (fun _ wr4 => z.size - wr4.iterPos W3.heap.size)
                    case atStart => exact ⟨W3, 0, rfl, ⟨rfl⟩, HX3', HY3', HZ3', HB3⟩
                    case round =>
                      obtain ⟨W', pos, rfl, HG, HCX, HCY, HCZ, HBW'⟩ := hrel
                      by_cases hpz : pos < z.size
                      · obtain ⟨r, wd, hwd, hnext⟩ := iter_next (W := W') (g := W3.heap.size) HG.out hpz
                        have hpx' : pos < x.size := by rw [HSI.out.1]; exact hpz
                        have hpy' : pos < y.size := by rw [HSI.out.2.1]; exact hpz
                        have hpx : (pos : Int) < (x.size : Int) := by omega
                        have hpy : (pos : Int) < (y.size : Int) := by omega
                        have hpz2 : (pos : Int) < (z.size : Int) := by omega
                        have hxe : Go.bits .xor .u8 ((x[pos]'hpx').toNat : Int) ((y[pos]'hpy').toNat : Int) = ((z[pos]'hpz).toNat : Int) := by
                          have := HXI.out pos hpz
                          rw [bt_get hpx', bt_get hpy', bt_get hpz] at this
                          exact this
                        have q1 := pw_cell_below (iter_below (Below.refl W'.heap.size W') z (pos + wd)) HCX.out
                        have q2 := pw_cell_below (iter_below (Below.refl W'.heap.size W') z (pos + wd)) HCY.out
                        have q3 := pw_cell_below (iter_below (Below.refl W'.heap.size W') z (pos + wd)) HCZ.out
                        have it1 : ((W'.iter z (pos + wd)).drew).iterPos W3.heap.size = pos + wd := by
                          rw [← HG.out]
                          exact World.iterPos_iter W'.drew z (pos + wd)
                        have it2 : (W'.iter z pos).iterPos W3.heap.size = pos := by
                          rw [← HG.out]
                          exact World.iterPos_iter W' z pos
                        have HIT := Aside0.mk (show z.size - ((W'.iter z (pos + wd)).drew).iterPos W3.heap.size < z.size - (W'.iter z pos).iterPos W3.heap.size by rw [it1, it2]; omega)
                        clear it1 it2
                        go_upto_region 37 with (fail)
                        go_region_held3 (fun w' => w'.cell? ⟨(ad.add (i * 2)).block, (ad.add (i * 2)).off + 1, none⟩ = some (.string x) ∧ w'.cell? ⟨(ad2.add (i * 2)).block, (ad2.add (i * 2)).off + 1, none⟩ = some (.string y) ∧ w'.cell? ⟨(ad3.add (i * 2)).block, (ad3.add (i * 2)).off + 1, none⟩ = some (.string z)) (first | go_keep) (fail)
                        all_goals
                          clear q1 q2 q3
                          go_wp2_with fail
                          exact ⟨⟨W'.drew, pos + wd, rfl, HG, HCX, HCY, HCZ, ⟨below_drew1 HBW'.out⟩⟩, HIT.out⟩
                      · have hend := iter_end (W := W') (g := W3.heap.size) HG.out hpz
                        have HBE := Aside0.mk (iter_below HBW'.out z pos)
                        clear HX3 HS3 HXI HSI
                        go_wp2_with fail
                        exact ⟨⟨i + 1, rfl, hin, HBE⟩, by simp [intOf]; omega⟩
                  · have hib : decide ((i : Int) < (lz.length : Int)) = false := decide_eq_false (by omega)
                    have HBZ := Aside0.mk (HB8.out.trans (HBB.out.mono HB8.out.size))
                    go_wp2_with fail
                    go_ret
                    exact ⟨rfl, HBZ.out⟩
#print axioms storagebarterlaw07_ErasureSystem.main
end Go.Proofs.Ytgmadofbelhmeaa.L
end
section
/- law07's ErasureSystem: what is left to the plain law, and the walk of the whole. -/
namespace Go.Proofs.Ytgmadofbelhmeaa.L
open Go.RowKit Go.Proofs.YtgmadofbelhmeaaW.PrintWords Go.Proofs.YtgmadofbelhmeaaW.PrintLast Go.Proofs.YtgmadofbelhmeaaW.PrintMore
set_option linter.unusedVariables false
set_option linter.unusedSimpArgs false
def ErasureSystemMain (k : Nat) (l0 : List Int) (a1 a2 : ByteArray) : Prop :=
  ∃ (n a nn : Nat) (p1 : Int) (lx ly lz : List S37), 0 < a ∧ a ≤ 9 ∧ n ≤ a ∧ nn = min a1.size a2.size ∧ storagebartermake_Code.f l0 0 = some ((n : Int), (a : Int), p1) ∧
    erasure_Encode.f k n a (a1.extract 0 nn) = some (lx, 0) ∧ erasure_Encode.f k n a (a2.extract 0 nn) = some (ly, 0) ∧ erasure_Encode.f k n a (strOfNums (xorL a1 a2 nn)) = some (lz, 0) ∧
    lx.length = a ∧ ly.length = a ∧ lz.length = a ∧
    nn ≤ (catS lx n).size ∧ ((catS lx n).extract 0 nn).toList = (a1.extract 0 nn).toList ∧ (∀ t : Nat, nn ≤ t → t < (catS lx n).size → bt (catS lx n) (t : Int) = 0) ∧ (∀ j : Nat, j ≤ n → (catS lx j).size ≤ 10000) ∧
    (∀ i : Nat, i < a → (rd_T37 lx (i : Int)).f1.size = (rd_T37 lz (i : Int)).f1.size ∧ (rd_T37 ly (i : Int)).f1.size = (rd_T37 lz (i : Int)).f1.size ∧ (rd_T37 lz (i : Int)).f1.size ≤ 1000) ∧
    (∀ i : Nat, i < a → ∀ t : Nat, t < (rd_T37 lz (i : Int)).f1.size → x8 (bt (rd_T37 lx (i : Int)).f1 (t : Int)) (bt (rd_T37 ly (i : Int)).f1 (t : Int)) = bt (rd_T37 lz (i : Int)).f1 (t : Int))
def storagebarterlaw07_ErasureSystem.Pure : Prop := ∀ (l0 : List Int) (a1 a2 : ByteArray),
  ∃ k, storagebarterlaw07_sane.f k = some true ∧ (l0.length ≤ 500 → a1.size + a2.size ≤ 1200 → ErasureSystemMain k l0 a1 a2)
set_option maxHeartbeats 600000 in
set_option maxRecDepth 100000 in
theorem storagebarterlaw07_ErasureSystem.early (k : Nat) (A0 : Option Addr) (c0 : Nat) (l0 : List Int) (a1 : ByteArray) (a2 : ByteArray) (w : World)
    (hr0 : Kd.C (Kd.int .i64) w A0 l0.length l0) (hc0 : l0.length ≤ c0) (g1 : a1.size ≤ 140737488351232) (g2 : a2.size ≤ 140737488351232)
    (hS : storagebarterlaw07_sane.f k = some true) (hno : ¬ (l0.length ≤ 500 ∧ a1.size + a2.size ≤ 1200)) :
    Calls Try.prog 4 #[.slice A0 l0.length c0, .string a1, .string a2] w fun e w' => e = .returned (.bool true) ∧ Below w.heap.size w w' := by
  have HR0 := Aside0.mk hr0
  have HC0 := Aside0.mk hc0
  have HS := Aside0.mk hS
  clear hr0 hc0 hS
  by_cases hF : l0.length ≤ 500
  · have HF := Aside0.mk (show storagebartermake_Few.f l0 = some true by unfold storagebartermake_Few.f; rw [decide_eq_true (by omega)])
    have d1 : decide ((a1.size : Int) + (a2.size : Int) > 1200) = true := decide_eq_true (by omega)
    have b1 : (a1.size : Int) ≤ 140737488351232 := by omega
    have b2 : (a2.size : Int) ≤ 140737488351232 := by omega
    clear hF hno
    go_enter Try.func4, Try.ntmps4
    go_wp2_with fail
    refine (storagebarterlaw07_sane.calls k true _ HS.out).mono ?_
    rintro e w1 ⟨rfl, hb1⟩
    have HB1 := Aside0.mk hb1
    clear hb1
    go_wp2_with fail
    refine (storagebartermake_Few.calls _ _ l0 true _ (Kd.C_below HR0.out HB1.out) HC0.out HF.out).mono ?_
    rintro e w2 ⟨rfl, ⟨nd, rfl⟩⟩
    go_wp2_with fail
    go_ret
    exact ⟨rfl, pw_below_drewN HB1.out _⟩
  · have HF := Aside0.mk (show storagebartermake_Few.f l0 = some false by unfold storagebartermake_Few.f; rw [decide_eq_false (by omega)])
    clear hF hno
    go_enter Try.func4, Try.ntmps4
    go_wp2_with fail
    refine (storagebarterlaw07_sane.calls k true _ HS.out).mono ?_
    rintro e w1 ⟨rfl, hb1⟩
    have HB1 := Aside0.mk hb1
    clear hb1
    go_wp2_with fail
    refine (storagebartermake_Few.calls _ _ l0 false _ (Kd.C_below HR0.out HB1.out) HC0.out HF.out).mono ?_
    rintro e w2 ⟨rfl, ⟨nd, rfl⟩⟩
    go_wp2_with fail
    go_ret
    exact ⟨rfl, pw_below_drewN HB1.out _⟩
theorem storagebarterlaw07_ErasureSystem.walk (P : storagebarterlaw07_ErasureSystem.Pure) (a0 : Option Addr) (len0 cap0 : Nat) (z0 : List Int) (a1 : ByteArray) (a2 : ByteArray) (w : World) (w0 : (a0 = none ∧ len0 = 0 ∧ cap0 = 0 ∧ z0 = []) ∨ ∃ x, a0 = some x ∧ len0 ≤ cap0 ∧ cap0 ≤ maxLen ∧ z0.length = cap0 ∧ (∀ i, i < z0.length → w.cell? (x.add i) = some (.int .i64 (z0.getD i 0))) ∧ ∀ n ∈ z0, (Lit.int .i64 n).wf = true) (y0 : len0 * 8 ≤ 140737488351232) (w1 : a1.size ≤ 140737488351232) (w2 : a2.size ≤ 140737488351232) :
    Calls Try.prog 4 #[.slice a0 len0 cap0, .string a1, .string a2] w fun e w' => e = .returned (.bool true) ∧ Below w.heap.size w w' := by
  obtain ⟨l0, rfl, hr0, hm0, hw0, hc0⟩ := ReadsInt.ofRowC w0
  obtain ⟨k, hS, hM⟩ := P l0 a1 a2
  have hr := Kd.C_of_reads (d := (0 : Int)) (h1 := fun _ => rfl) hr0
  by_cases hno : l0.length ≤ 500 ∧ a1.size + a2.size ≤ 1200
  · obtain ⟨n, a, nn, p1, lx, ly, lz, g1, g2, g3, g4, g5, g6, g7, g8, g9, g10, g11, g12, g13, g14, g15, g16, g17⟩ := hM hno.1 hno.2
    exact storagebarterlaw07_ErasureSystem.main k _ _ l0 a1 a2 n a nn p1 lx ly lz w hr hc0 g1 g2 g3 hS (by unfold storagebartermake_Few.f; rw [decide_eq_true (by omega)]) hno.2 g4 g5 g6 g7 g8 g9 g10 g11 g12 g13 g14 g15 g16 g17
  · exact storagebarterlaw07_ErasureSystem.early k _ _ l0 a1 a2 w hr hc0 w1 w2 hS hno
#print axioms storagebarterlaw07_ErasureSystem.walk
end Go.Proofs.Ytgmadofbelhmeaa.L
end
section
/- The plain law of ErasureSystem: the way that the row's function takes is there at every input.
Conditions: those of the given statement alone. -/
namespace Go.Proofs.Ytgmadofbelhmeaa.Pure
open Go.RowKit Go.Proofs.Ytgmadofbelhmeaa.L Go.Proofs.YtgmadofbelhmeaaW.PrintWords Go.Proofs.YtgmadofbelhmeaaW.PrintLast Go.Proofs.YtgmadofbelhmeaaW.PrintMore
set_option linter.unusedVariables false
set_option linter.unusedSimpArgs false
/-- Byte t of shard i. -/
theorem shard_byte {n a L : Nat} {d : ByteArray} (hR : RowsOk n a) {i t : Nat} (ht : t < L) : bt (shardN n a L d i).f1 (t : Int) = accB (cut (rowsL n a) n i) (partsN n L d) t n := by
  have hby := accB_by (row := cut (rowsL n a) n i) (parts := partsN n L d) t n fun j _ => cut_el hR _ j
  show bt (strOfNums (accL (cut (rowsL n a) n i) (partsN n L d) L n)) (t : Int) = _
  rw [bt_strOfNums (by rw [accL_length]; exact ht) (by rw [accL_getD _ _ _ ht]; exact hby.1), accL_getD _ _ _ ht]
theorem shard_size (n a L : Nat) (d : ByteArray) (i : Nat) : (shardN n a L d i).f1.size = L := by
  show (strOfNums _).size = L
  rw [strOfNums_size, accL_length]
/-- The first n shards are the data. -/
theorem first_shard {n a L : Nat} {d : ByteArray} (hR : RowsOk n a) (hn : n ≤ a) (hd : d.size = L * n) {i : Nat} (hi : i < n) : (shardN n a L d i).f1 = partN L d i := by
  show strOfNums (accL (cut (rowsL n a) n i) (partsN n L d) L n) = _
  refine strOfNums_bt (partN_size hd hi) fun t ht => ?_
  have hby := accB_by (row := cut (rowsL n a) n i) (parts := partsN n L d) t n fun j _ => cut_el hR _ j
  refine nib_ext hby.1 (bt_by _ _) ?_ ?_
  · rw [hby.2.1]
    have e : (gsum n fun j => gm ((cut (rowsL n a) n i).getD j 0) (lo (bt ((partsN n L d).getD j ByteArray.empty) (t : Int)))) = gsum n fun j => gm (if i = j then 1 else 0) (lo (bt (partN L d j) (t : Int))) := by
      refine gsum_congr n fun j hj => ?_
      rw [cut_getD hi hj, hR.unit i j hi hj, partsN_getD hj]
    rw [e, gsum_unit n fun j hj => lo_el (bt_by _ _), if_pos hi]
  · rw [hby.2.2]
    have e : (gsum n fun j => gm ((cut (rowsL n a) n i).getD j 0) (Go.Proofs.Ytgmadofbelhmeaa.L.hi (bt ((partsN n L d).getD j ByteArray.empty) (t : Int)))) = gsum n fun j => gm (if i = j then 1 else 0) (Go.Proofs.Ytgmadofbelhmeaa.L.hi (bt (partN L d j) (t : Int))) := by
      refine gsum_congr n fun j hj => ?_
      rw [cut_getD hi hj, hR.unit i j hi hj, partsN_getD hj]
    rw [e, gsum_unit n fun j hj => hi_el (bt_by _ _), if_pos hi]
/-- The shards of a sum are the sums of the shards. -/
theorem xor_shard {n a L : Nat} {d1 d2 d3 : ByteArray} (hR : RowsOk n a) (hx : ∀ j t, j < n → t < L → bt (partN L d3 j) (t : Int) = x8 (bt (partN L d1 j) (t : Int)) (bt (partN L d2 j) (t : Int))) {i t : Nat} (ht : t < L) :
    x8 (bt (shardN n a L d1 i).f1 (t : Int)) (bt (shardN n a L d2 i).f1 (t : Int)) = bt (shardN n a L d3 i).f1 (t : Int) := by
  rw [shard_byte hR ht, shard_byte hR ht, shard_byte hR ht]
  have h1 := accB_by (row := cut (rowsL n a) n i) (parts := partsN n L d1) t n fun j _ => cut_el hR _ j
  have h2 := accB_by (row := cut (rowsL n a) n i) (parts := partsN n L d2) t n fun j _ => cut_el hR _ j
  have h3 := accB_by (row := cut (rowsL n a) n i) (parts := partsN n L d3) t n fun j _ => cut_el hR _ j
  have hs := b_x8 h1.1 h2.1
  have hp : ∀ j, j < n → (lo (bt ((partsN n L d3).getD j ByteArray.empty) (t : Int)) = gx (lo (bt ((partsN n L d1).getD j ByteArray.empty) (t : Int))) (lo (bt ((partsN n L d2).getD j ByteArray.empty) (t : Int)))) ∧ (Go.Proofs.Ytgmadofbelhmeaa.L.hi (bt ((partsN n L d3).getD j ByteArray.empty) (t : Int)) = gx (Go.Proofs.Ytgmadofbelhmeaa.L.hi (bt ((partsN n L d1).getD j ByteArray.empty) (t : Int))) (Go.Proofs.Ytgmadofbelhmeaa.L.hi (bt ((partsN n L d2).getD j ByteArray.empty) (t : Int)))) := by
    intro j hj
    rw [partsN_getD hj, partsN_getD hj, partsN_getD hj, hx j t hj ht]
    have hb := b_x8 (bt_by (partN L d1 j) (t : Int)) (bt_by (partN L d2 j) (t : Int))
    exact ⟨hb.2.1, hb.2.2⟩
  refine nib_ext hs.1 h3.1 ?_ ?_
  · rw [h3.2.1]
    refine hs.2.1.trans ?_
    rw [h1.2.1, h2.2.1]
    refine (gsum_add n (fun j _ => gm_el (cut_el hR _ _) (lo_el (bt_by _ _))) fun j _ => gm_el (cut_el hR _ _) (lo_el (bt_by _ _))).symm.trans ?_
    refine gsum_congr n fun j hj => ?_
    rw [(hp j hj).1, gm_gx (cut_el hR _ _) (lo_el (bt_by _ _)) (lo_el (bt_by _ _))]
  · rw [h3.2.2]
    refine hs.2.2.trans ?_
    rw [h1.2.2, h2.2.2]
    refine (gsum_add n (fun j _ => gm_el (cut_el hR _ _) (hi_el (bt_by _ _))) fun j _ => gm_el (cut_el hR _ _) (hi_el (bt_by _ _))).symm.trans ?_
    refine gsum_congr n fun j hj => ?_
    rw [(hp j hj).2, gm_gx (cut_el hR _ _) (hi_el (bt_by _ _)) (hi_el (bt_by _ _))]
theorem bt_list (s : ByteArray) (p : Nat) : bt s (p : Int) = ((s.data.toList[p]?).map fun b => (b.toNat : Int)).getD 0 := by
  unfold bt
  rw [Int.toNat_natCast]
  by_cases h : p < s.size
  · have h' : p < s.data.toList.length := by rw [data_length]; exact h
    rw [dif_pos h, List.getElem?_eq_getElem h']
    rfl
  · have h' : s.data.toList.length ≤ p := by rw [data_length]; omega
    rw [dif_neg h, List.getElem?_eq_none h']
    rfl
theorem bt_padded (n : Nat) (s : ByteArray) (p : Nat) : bt (padded n s) (p : Int) = bt s (p : Int) := by
  rw [bt_list, bt_list]
  unfold padded
  rw [ByteArray.data_append, Array.toList_append]
  by_cases h : p < s.data.toList.length
  · rw [List.getElem?_append_left h]
  · rw [List.getElem?_append_right (by omega), List.getElem?_eq_none (show s.data.toList.length ≤ p by omega)]
    show ((List.replicate _ (0 : UInt8))[p - s.data.toList.length]?.map fun b => (b.toNat : Int)).getD 0 = 0
    rw [List.getElem?_replicate]
    split <;> rfl
theorem bt_extract0 (s : ByteArray) (m p : Nat) : bt (s.extract 0 m) (p : Int) = if p < m then bt s (p : Int) else 0 := by
  rw [bt_list, bt_list, ByteArray.data_extract, Array.toList_extract, List.extract_eq_take_drop, List.drop_zero, Nat.sub_zero, List.getElem?_take]
  split <;> rfl
theorem bt_part {L : Nat} (d : ByteArray) (j : Nat) {t : Nat} (ht : t < L) : bt (partN L d j) (t : Int) = bt d ((j * L + t : Nat) : Int) := by
  unfold partN
  rw [bt_list, bt_list, ByteArray.data_extract, Array.toList_extract, List.extract_eq_take_drop, List.getElem?_take, if_pos (by rw [Nat.add_mul, Nat.one_mul]; omega), List.getElem?_drop]
theorem bt_xorL (a1 a2 : ByteArray) (m p : Nat) : bt (strOfNums (xorL a1 a2 m)) (p : Int) = if p < m then x8 (bt a1 (p : Int)) (bt a2 (p : Int)) else 0 := by
  by_cases h : p < m
  · have hg : (xorL a1 a2 m).getD p 0 = x8 (bt a1 (p : Int)) (bt a2 (p : Int)) := by
      unfold xorL
      rw [List.getD_eq_getElem?_getD, List.getElem?_map, List.getElem?_range h]
      rfl
    rw [if_pos h, bt_strOfNums (by rw [xorL_length]; exact h) (by rw [hg]; exact (b_x8 (bt_by _ _) (bt_by _ _)).1), hg]
  · rw [if_neg h, bt_list, List.getElem?_eq_none]
    · rfl
    · rw [data_length, strOfNums_size, xorL_length]
      omega
theorem catS_first {n a L : Nat} {d : ByteArray} (hR : RowsOk n a) (hn : n ≤ a) (hd : d.size = L * n) : ∀ j, j ≤ n → catS (shardsN n a L d) j = d.extract 0 (j * L)
  | 0, _ => by
    unfold catS
    apply ByteArray.ext
    rw [ByteArray.data_extract]
    simp
  | j + 1, hj => by
    unfold catS
    rw [catS_first hR hn hd j (by omega), shardsN_rd (by omega), first_shard hR hn hd (show j < n by omega)]
    unfold partN
    apply ByteArray.ext
    apply Array.ext'
    rw [ByteArray.data_append, Array.toList_append, ByteArray.data_extract, ByteArray.data_extract, ByteArray.data_extract, Array.toList_extract, Array.toList_extract, Array.toList_extract, List.extract_eq_take_drop, List.extract_eq_take_drop, List.extract_eq_take_drop, List.drop_zero, Nat.sub_zero, Nat.sub_zero, Nat.add_mul, Nat.one_mul, Nat.add_sub_cancel_left, List.take_add]
theorem extract_all {d : ByteArray} {m : Nat} (h : d.size = m) : d.extract 0 m = d := by
  apply ByteArray.ext
  apply Array.ext'
  rw [ByteArray.data_extract, Array.toList_extract, List.extract_eq_take_drop, List.drop_zero, Nat.sub_zero]
  exact List.take_of_length_le (by rw [data_length]; omega)
theorem ErasureSystem : storagebarterlaw07_ErasureSystem.Pure := by
  intro l0 a1 a2
  refine ⟨2000, sane_true (by omega), fun hf hs => ?_⟩
  obtain ⟨n, a, p1, n1, n5, na, a4, hp1, hC⟩ := code_some hf
  obtain ⟨nn, hnn⟩ : ∃ nn, nn = min a1.size a2.size := ⟨_, rfl⟩
  have hn8 : nn ≤ 800 := by omega
  have s1 : (a1.extract 0 nn).size = nn := by rw [ByteArray.size_extract]; omega
  have s2 : (a2.extract 0 nn).size = nn := by rw [ByteArray.size_extract]; omega
  have s3 : (strOfNums (xorL a1 a2 nn)).size = nn := by rw [strOfNums_size, xorL_length]
  have e1 := encode_some (n := n) (a := a) (s := a1.extract 0 nn) n1 n5 na a4 (by omega) (k := 2000) (by omega)
  have e2 := encode_some (n := n) (a := a) (s := a2.extract 0 nn) n1 n5 na a4 (by omega) (k := 2000) (by omega)
  have e3 := encode_some (n := n) (a := a) (s := strOfNums (xorL a1 a2 nn)) n1 n5 na a4 (by omega) (k := 2000) (by omega)
  rw [s1] at e1
  rw [s2] at e2
  rw [s3] at e3
  have hR := rowsM_ok n1 n5 na a4
  have hL := lenN_le n1 hn8
  have hge := lenN_ge (size := nn) n1
  have hd1 : (padded n (a1.extract 0 nn)).size = lenN n nn * n := by
    have := padded_size (n := n) (s := a1.extract 0 nn) n1
    rwa [s1] at this
  have hcat := catS_first (L := lenN n nn) hR na hd1
  have hcn : catS (shardsN n a (lenN n nn) (padded n (a1.extract 0 nn))) n = padded n (a1.extract 0 nn) := by
    rw [hcat n (Nat.le_refl _)]
    exact extract_all (by rw [hd1, Nat.mul_comm])
  refine ⟨n, a, nn, p1, _, _, _, by omega, by omega, na, hnn, hC, e1, e2, e3, shardsN_length _ _ _ _, shardsN_length _ _ _ _, shardsN_length _ _ _ _, ?_, ?_, ?_, ?_, ?_, ?_⟩
  · rw [hcn, hd1]
    exact hge
  · rw [hcn]
    have hb := padded_back n (a1.extract 0 nn)
    rw [s1] at hb
    have he : (⟨(padded n (a1.extract 0 nn)).data.toList.toArray⟩ : ByteArray) = padded n (a1.extract 0 nn) := rfl
    rw [he] at hb
    rw [hb]
  · intro t ht _
    rw [hcn, bt_padded, bt_extract0, if_neg (by omega)]
  · intro j hj
    rw [hcat j hj, ByteArray.size_extract]
    have : j * lenN n nn ≤ 5 * 801 := Nat.mul_le_mul (by omega) hL
    omega
  · intro i hi
    rw [shardsN_rd hi, shardsN_rd hi, shardsN_rd hi, shard_size, shard_size, shard_size]
    exact ⟨rfl, rfl, by omega⟩
  · intro i hi t ht
    rw [shardsN_rd hi, shardsN_rd hi, shardsN_rd hi] at *
    rw [shard_size] at ht
    refine xor_shard hR (fun j t hj ht => ?_) ht
    rw [bt_part _ j ht, bt_part _ j ht, bt_part _ j ht, bt_padded, bt_padded, bt_padded, bt_xorL, bt_extract0, bt_extract0]
    split
    · rfl
    · decide +kernel
end Go.Proofs.Ytgmadofbelhmeaa.Pure
end
