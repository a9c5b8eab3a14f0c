/- Texts of this claim, put together by a small program of the session's own: T0, F7, F9, F11, F14, F10, F19, F33, F34, F20, F52, F35, MBytes, MPutA, MPutB, MPutC, MPutD, MPut, F36, F21. -/
import Derived.Test.YthfddndmhjkeiaaProg
import Derived.Below
import Derived.Deep.Draws
import Derived.Deep.AppendLies
import Derived.Maps.AppendAt
import Derived.OwnWalk
import Derived.Laws.BytesArg
import Derived.Laws.MakeOwn
import Derived.Laws.OwnMore
import Derived.Deep.OwnRows
import Derived.Tactics
import Derived.Lib.ConvBytes
import Derived.Laws.Slices
import Derived.WalkKit
import Derived.KernelRfl
import Derived.RowKit3
import Derived.Deep.LoopGhost
import Derived.Deep.QuietTactic
import Derived.BigQuiet
import Derived.WideLaws
import Derived.Deep.DeepCutAuto
import Derived.Deep.CutBlock
import Derived.Deep.RegionHeld3
import Derived.Laws.Rows
import Derived.Lib.AppendStr
import Derived.ArgAppend
import Derived.Laws.IdiomCopy
import Derived.OrdersHeld
import Derived.Laws.BitsLemmas
import Derived.RowKit
import Derived.Test.YthfddndmhjkeiaaQV0
import Derived.Test.YthfddndmhjkeiaaQV1
import Derived.Lib.FrozenHead2
import Derived.RangeFuncBox
import Derived.RangeFuncWrites
import Derived.RangeFuncCalls
import Derived.RangeFuncLeaves
import Derived.Shelf.Abstract
import Derived.OwnWalkIn
import Derived.TacticsInMore
import Derived.LoopNIn
import Derived.LoopIn
import Derived.Laws.Closers25b
section
-- Printed for this claim by a small program of the session's own, drv.py, round the kit's print.py. Lean checks it.
namespace Go.Proofs.Ythfddndmhjkeiaa.L
open Go.RowKit Go.Proofs.YthfddndmhjkeiaaW.PrintWords Go.Proofs.YthfddndmhjkeiaaW.PrintLast Go.Proofs.YthfddndmhjkeiaaW.PrintMore
attribute [local go_sem] max2_int min2_int max_two min_two max_three min_three max_four min_four   -- for this text's walks alone
set_option linter.unusedVariables false
set_option linter.unusedSimpArgs false



def errW : Option Int → Value
  | none => .nilIface
  | some c => .iface 0 (.int .i64 c)
theorem errW_none : errW none = .nilIface := rfl
theorem errW_some (c : Int) : errW (some c) = .iface 0 (.int .i64 c) := rfl

theorem info3 : (Try.prog.info? 3).map (fun i => (i.zero, i.size, i.bytes)) = some (some (.int .i64 0), 1, 8) := by kernel_rfl
theorem info5 : (Try.prog.info? 5).map (fun i => (i.zero, i.size, i.bytes)) = some (some (.int .u8 0), 1, 1) := by kernel_rfl
theorem info9 : (Try.prog.info? 9).map (fun i => (i.zero, i.size, i.bytes)) = some (some (.string ⟨#[]⟩), 1, 16) := by kernel_rfl
theorem info22 : (Try.prog.info? 22).map (fun i => (i.zero, i.size, i.bytes)) = some (some (.slice none 0 0), 1, 24) := by kernel_rfl
theorem info41 : (Try.prog.info? 41).map (fun i => (i.zero, i.size, i.bytes)) = some (some (.agg #[(.int .i64 0), (.string ⟨#[]⟩)]), 2, 24) := by kernel_rfl
-- the values' own types
/-! #### struct type 41 -/
structure S41 where
  f0 : Int
  f1 : ByteArray
def z41 : S41 := ⟨(0 : Int), (⟨#[]⟩ : ByteArray)⟩
def k41 : Kd S41 := Kd.iso (Kd.pair (Kd.int .i64) Kd.string) (fun x : S41 => (x.f0, x.f1))
theorem k41_open {w : World} {x : S41} {cs : List Value} (h : k41.K w x cs) : cs = [.int .i64 x.f0, .string x.f1] := by
  obtain ⟨_, _, rfl, rfl, rfl⟩ := h
  exact rfl
theorem k41_openM {w : World} {base : Nat} {ok : Nat → Prop} {x : S41} {cs : List Value} (h : k41.M w base ok x cs) : cs = [.int .i64 x.f0, .string x.f1] := by
  obtain ⟨_, _, rfl, rfl, rfl⟩ := h
  exact rfl
theorem k41_mk (w : World) (x : S41)  : k41.K w x [.int .i64 x.f0, .string x.f1] := ⟨[.int .i64 x.f0], [.string x.f1], rfl, rfl, rfl⟩
theorem k41_mkM (w : World) (base : Nat) (ok : Nat → Prop) (x : S41)  : k41.M w base ok x [.int .i64 x.f0, .string x.f1] := ⟨[.int .i64 x.f0], [.string x.f1], rfl, rfl, rfl⟩
def rd_T41 (xs : List S41) (i : Int) : S41 := xs.getD i.toNat z41
theorem at_T41 {w : World} {A : Option Addr} {n : Nat} {xs : List S41} (h : Kd.C k41 w A n xs) (i : Int) (h0 : 0 ≤ i) (h1 : i < n) : ∃ ad , A = some ad ∧ w.cell? (ad.add (i.toNat * 2)) = some (.int .i64 (rd_T41 xs i).f0) ∧ w.cell? ⟨(ad.add (i.toNat * 2)).block, (ad.add (i.toNat * 2)).off + 1, none⟩ = some (.string (rd_T41 xs i).f1) := by
  obtain ⟨ad, c, e, _, hK, hc0⟩ := Kd.C_get h z41 i h0 h1
  have hc : ∀ j u, c[j]? = some u → w.cell? (ad.add (i.toNat * 2 + j)) = some u := hc0
  obtain rfl := k41_open hK
  exact ⟨ad, e, hc 0 _ rfl, by rw [← add_field _ _ 1 (by omega)]; exact hc 1 _ rfl⟩

def rd_L5 (xs : List (List S41)) (i : Int) : (List S41) := xs.getD i.toNat ([] : List S41)
theorem at_L5 {w : World} {A : Option Addr} {n : Nat} {xs : List (List S41)} (h : Kd.C (Kd.slice 41 k41) w A n xs) (i : Int) (h0 : 0 ≤ i) (h1 : i < n) : ∃ ad A0 c0, A = some ad ∧ w.cell? (ad.add i.toNat) = some (.slice A0 (rd_L5 xs i).length c0) ∧ (rd_L5 xs i).length ≤ c0 ∧ k41.C w A0 (rd_L5 xs i).length (rd_L5 xs i) := by
  obtain ⟨ad, c, e, _, hK, hc0⟩ := Kd.C_get h ([] : List S41) i h0 h1
  have hc : ∀ j u, c[j]? = some u → w.cell? (ad.add (i.toNat * 1 + j)) = some u := hc0
  obtain ⟨A0, c0, rfl, l0, g0⟩ := hK
  exact ⟨ad, A0, c0, e, by have hq := hc 0 _ rfl; rwa [Nat.mul_one, Nat.add_zero] at hq, l0, g0⟩

/-! #### struct type 30 -/
structure S30 where
  f0 : Int
  f1 : Int
def z30 : S30 := ⟨(0 : Int), (0 : Int)⟩
def k30 : Kd S30 := Kd.iso (Kd.pair (Kd.int .i64) (Kd.int .i64)) (fun x : S30 => (x.f0, x.f1))
theorem k30_open {w : World} {x : S30} {cs : List Value} (h : k30.K w x cs) : cs = [.int .i64 x.f0, .int .i64 x.f1] := by
  obtain ⟨_, _, rfl, rfl, rfl⟩ := h
  exact rfl
theorem k30_openM {w : World} {base : Nat} {ok : Nat → Prop} {x : S30} {cs : List Value} (h : k30.M w base ok x cs) : cs = [.int .i64 x.f0, .int .i64 x.f1] := by
  obtain ⟨_, _, rfl, rfl, rfl⟩ := h
  exact rfl
theorem k30_mk (w : World) (x : S30)  : k30.K w x [.int .i64 x.f0, .int .i64 x.f1] := ⟨[.int .i64 x.f0], [.int .i64 x.f1], rfl, rfl, rfl⟩
theorem k30_mkM (w : World) (base : Nat) (ok : Nat → Prop) (x : S30)  : k30.M w base ok x [.int .i64 x.f0, .int .i64 x.f1] := ⟨[.int .i64 x.f0], [.int .i64 x.f1], rfl, rfl, rfl⟩
def rd_T30 (xs : List S30) (i : Int) : S30 := xs.getD i.toNat z30
theorem at_T30 {w : World} {A : Option Addr} {n : Nat} {xs : List S30} (h : Kd.C k30 w A n xs) (i : Int) (h0 : 0 ≤ i) (h1 : i < n) : ∃ ad , A = some ad ∧ w.cell? (ad.add (i.toNat * 2)) = some (.int .i64 (rd_T30 xs i).f0) ∧ w.cell? ⟨(ad.add (i.toNat * 2)).block, (ad.add (i.toNat * 2)).off + 1, none⟩ = some (.int .i64 (rd_T30 xs i).f1) := by
  obtain ⟨ad, c, e, _, hK, hc0⟩ := Kd.C_get h z30 i h0 h1
  have hc : ∀ j u, c[j]? = some u → w.cell? (ad.add (i.toNat * 2 + j)) = some u := hc0
  obtain rfl := k30_open hK
  exact ⟨ad, e, hc 0 _ rfl, by rw [← add_field _ _ 1 (by omega)]; exact hc 1 _ rfl⟩

def rd_L7 (xs : List (List Int)) (i : Int) : (List Int) := xs.getD i.toNat ([] : List Int)
theorem at_L7 {w : World} {A : Option Addr} {n : Nat} {xs : List (List Int)} (h : Kd.C (Kd.slice 3 (Kd.int .i64)) w A n xs) (i : Int) (h0 : 0 ≤ i) (h1 : i < n) : ∃ ad A0 c0, A = some ad ∧ w.cell? (ad.add i.toNat) = some (.slice A0 (rd_L7 xs i).length c0) ∧ (rd_L7 xs i).length ≤ c0 ∧ (Kd.int .i64).C w A0 (rd_L7 xs i).length (rd_L7 xs i) := by
  obtain ⟨ad, c, e, _, hK, hc0⟩ := Kd.C_get h ([] : List Int) i h0 h1
  have hc : ∀ j u, c[j]? = some u → w.cell? (ad.add (i.toNat * 1 + j)) = some u := hc0
  obtain ⟨A0, c0, rfl, l0, g0⟩ := hK
  exact ⟨ad, A0, c0, e, by have hq := hc 0 _ rfl; rwa [Nat.mul_one, Nat.add_zero] at hq, l0, g0⟩

/-! #### struct type 34 -/
structure S34 where
  f0 : S30
  f1 : Int
  f2 : (List Int)
def z34 : S34 := ⟨z30, (0 : Int), ([] : List Int)⟩
def k34 : Kd S34 := Kd.iso (Kd.pair k30 (Kd.pair (Kd.int .i64) (Kd.slice 3 (Kd.int .i64)))) (fun x : S34 => (x.f0, x.f1, x.f2))
theorem k34_open {w : World} {x : S34} {cs : List Value} (h : k34.K w x cs) : ∃ A3 c3, cs = [.int .i64 x.f0.f0, .int .i64 x.f0.f1, .int .i64 x.f1, .slice A3 x.f2.length c3] ∧ x.f2.length ≤ c3 ∧ (Kd.int .i64).C w A3 x.f2.length x.f2 := by
  obtain ⟨_, _, rfl, s0, ⟨_, _, rfl, rfl, ⟨A3, c3, rfl, l3, g3⟩⟩⟩ := h
  obtain rfl := k30_open s0
  exact ⟨A3, c3, rfl, l3, g3⟩
theorem k34_openM {w : World} {base : Nat} {ok : Nat → Prop} {x : S34} {cs : List Value} (h : k34.M w base ok x cs) : ∃ v3, cs = [.int .i64 x.f0.f0, .int .i64 x.f0.f1, .int .i64 x.f1, v3] ∧ (Kd.int .i64).R 3 w base ok v3 x.f2 := by
  obtain ⟨_, _, rfl, s0, ⟨_, _, rfl, rfl, ⟨v3, rfl, g3⟩⟩⟩ := h
  obtain rfl := k30_openM s0
  exact ⟨v3, rfl, g3⟩
theorem k34_mk (w : World) (x : S34) {A3 : Option Addr} {c3 : Nat} (l3 : x.f2.length ≤ c3) (g3 : (Kd.int .i64).C w A3 x.f2.length x.f2) : k34.K w x [.int .i64 x.f0.f0, .int .i64 x.f0.f1, .int .i64 x.f1, .slice A3 x.f2.length c3] := ⟨[.int .i64 x.f0.f0, .int .i64 x.f0.f1], [.int .i64 x.f1, .slice A3 x.f2.length c3], rfl, (k30_mk w x.f0 ), ⟨[.int .i64 x.f1], [.slice A3 x.f2.length c3], rfl, rfl, ⟨A3, c3, rfl, l3, g3⟩⟩⟩
theorem k34_mkM (w : World) (base : Nat) (ok : Nat → Prop) (x : S34) {v3 : Value} (g3 : (Kd.int .i64).R 3 w base ok v3 x.f2) : k34.M w base ok x [.int .i64 x.f0.f0, .int .i64 x.f0.f1, .int .i64 x.f1, v3] := ⟨[.int .i64 x.f0.f0, .int .i64 x.f0.f1], [.int .i64 x.f1, v3], rfl, (k30_mkM w base ok x.f0 ), ⟨[.int .i64 x.f1], [v3], rfl, rfl, ⟨v3, rfl, g3⟩⟩⟩
def rd_T34 (xs : List S34) (i : Int) : S34 := xs.getD i.toNat z34
theorem at_T34 {w : World} {A : Option Addr} {n : Nat} {xs : List S34} (h : Kd.C k34 w A n xs) (i : Int) (h0 : 0 ≤ i) (h1 : i < n) : ∃ ad A3 c3, A = some ad ∧ w.cell? (ad.add (i.toNat * 4)) = some (.int .i64 (rd_T34 xs i).f0.f0) ∧ w.cell? ⟨(ad.add (i.toNat * 4)).block, (ad.add (i.toNat * 4)).off + 1, none⟩ = some (.int .i64 (rd_T34 xs i).f0.f1) ∧ w.cell? ⟨(ad.add (i.toNat * 4)).block, (ad.add (i.toNat * 4)).off + 2, none⟩ = some (.int .i64 (rd_T34 xs i).f1) ∧ w.cell? ⟨(ad.add (i.toNat * 4)).block, (ad.add (i.toNat * 4)).off + 3, none⟩ = some (.slice A3 (rd_T34 xs i).f2.length c3) ∧ (rd_T34 xs i).f2.length ≤ c3 ∧ (Kd.int .i64).C w A3 (rd_T34 xs i).f2.length (rd_T34 xs i).f2 := by
  obtain ⟨ad, c, e, _, hK, hc0⟩ := Kd.C_get h z34 i h0 h1
  have hc : ∀ j u, c[j]? = some u → w.cell? (ad.add (i.toNat * 4 + j)) = some u := hc0
  obtain ⟨A3, c3, rfl, l3, g3⟩ := k34_open hK
  exact ⟨ad, A3, c3, e, hc 0 _ rfl, by rw [← add_field _ _ 1 (by omega)]; exact hc 1 _ rfl, by rw [← add_field _ _ 2 (by omega)]; exact hc 2 _ rfl, by rw [← add_field _ _ 3 (by omega)]; exact hc 3 _ rfl, l3, g3⟩

/-! #### struct type 79 -/
structure S79 where
  f0 : Int
  f1 : Int
  f2 : (List Int)
def z79 : S79 := ⟨(0 : Int), (0 : Int), ([] : List Int)⟩
def k79 : Kd S79 := Kd.iso (Kd.pair (Kd.int .i64) (Kd.pair (Kd.int .i64) (Kd.slice 3 (Kd.int .i64)))) (fun x : S79 => (x.f0, x.f1, x.f2))
theorem k79_open {w : World} {x : S79} {cs : List Value} (h : k79.K w x cs) : ∃ A2 c2, cs = [.int .i64 x.f0, .int .i64 x.f1, .slice A2 x.f2.length c2] ∧ x.f2.length ≤ c2 ∧ (Kd.int .i64).C w A2 x.f2.length x.f2 := by
  obtain ⟨_, _, rfl, rfl, ⟨_, _, rfl, rfl, ⟨A2, c2, rfl, l2, g2⟩⟩⟩ := h
  exact ⟨A2, c2, rfl, l2, g2⟩
theorem k79_openM {w : World} {base : Nat} {ok : Nat → Prop} {x : S79} {cs : List Value} (h : k79.M w base ok x cs) : ∃ v2, cs = [.int .i64 x.f0, .int .i64 x.f1, v2] ∧ (Kd.int .i64).R 3 w base ok v2 x.f2 := by
  obtain ⟨_, _, rfl, rfl, ⟨_, _, rfl, rfl, ⟨v2, rfl, g2⟩⟩⟩ := h
  exact ⟨v2, rfl, g2⟩
theorem k79_mk (w : World) (x : S79) {A2 : Option Addr} {c2 : Nat} (l2 : x.f2.length ≤ c2) (g2 : (Kd.int .i64).C w A2 x.f2.length x.f2) : k79.K w x [.int .i64 x.f0, .int .i64 x.f1, .slice A2 x.f2.length c2] := ⟨[.int .i64 x.f0], [.int .i64 x.f1, .slice A2 x.f2.length c2], rfl, rfl, ⟨[.int .i64 x.f1], [.slice A2 x.f2.length c2], rfl, rfl, ⟨A2, c2, rfl, l2, g2⟩⟩⟩
theorem k79_mkM (w : World) (base : Nat) (ok : Nat → Prop) (x : S79) {v2 : Value} (g2 : (Kd.int .i64).R 3 w base ok v2 x.f2) : k79.M w base ok x [.int .i64 x.f0, .int .i64 x.f1, v2] := ⟨[.int .i64 x.f0], [.int .i64 x.f1, v2], rfl, rfl, ⟨[.int .i64 x.f1], [v2], rfl, rfl, ⟨v2, rfl, g2⟩⟩⟩
def rd_T79 (xs : List S79) (i : Int) : S79 := xs.getD i.toNat z79
theorem at_T79 {w : World} {A : Option Addr} {n : Nat} {xs : List S79} (h : Kd.C k79 w A n xs) (i : Int) (h0 : 0 ≤ i) (h1 : i < n) : ∃ ad A2 c2, A = some ad ∧ w.cell? (ad.add (i.toNat * 3)) = some (.int .i64 (rd_T79 xs i).f0) ∧ w.cell? ⟨(ad.add (i.toNat * 3)).block, (ad.add (i.toNat * 3)).off + 1, none⟩ = some (.int .i64 (rd_T79 xs i).f1) ∧ w.cell? ⟨(ad.add (i.toNat * 3)).block, (ad.add (i.toNat * 3)).off + 2, none⟩ = some (.slice A2 (rd_T79 xs i).f2.length c2) ∧ (rd_T79 xs i).f2.length ≤ c2 ∧ (Kd.int .i64).C w A2 (rd_T79 xs i).f2.length (rd_T79 xs i).f2 := by
  obtain ⟨ad, c, e, _, hK, hc0⟩ := Kd.C_get h z79 i h0 h1
  have hc : ∀ j u, c[j]? = some u → w.cell? (ad.add (i.toNat * 3 + j)) = some u := hc0
  obtain ⟨A2, c2, rfl, l2, g2⟩ := k79_open hK
  exact ⟨ad, A2, c2, e, hc 0 _ rfl, by rw [← add_field _ _ 1 (by omega)]; exact hc 1 _ rfl, by rw [← add_field _ _ 2 (by omega)]; exact hc 2 _ rfl, l2, g2⟩

end Go.Proofs.Ythfddndmhjkeiaa.L
end
section
-- Printed for this claim by a small program of the session's own, drv.py, round the kit's print.py. Lean checks it.
namespace Go.Proofs.Ythfddndmhjkeiaa.L
open Go.RowKit Go.Proofs.YthfddndmhjkeiaaW.PrintWords Go.Proofs.YthfddndmhjkeiaaW.PrintLast Go.Proofs.YthfddndmhjkeiaaW.PrintMore
attribute [local go_sem] max2_int min2_int max_two min_two max_three min_three max_four min_four   -- for this text's walks alone
set_option linter.unusedVariables false
set_option linter.unusedSimpArgs false

/-! ### storagebartermake_Few: function 7 -/
def storagebartermake_Few.f (l0 : List Int) : Option (Bool) := some (decide ((l0.length : Int) ≤ 500))
set_option maxHeartbeats 8000000 in
set_option maxRecDepth 100000 in
theorem storagebartermake_Few.calls (A0 : Option Addr) (c0 : Nat) (l0 : List Int) (r : Bool) (w : World) (hr0 : Kd.C (Kd.int .i64) w A0 l0.length l0) (hc0 : l0.length ≤ c0) (h : storagebartermake_Few.f l0 = some r) :
    Calls Try.prog 7 #[.slice A0 l0.length c0] w fun e w' => e = .returned (.bool r) ∧ Drawn0 w w' := by
  have HR0 := Aside0.mk hr0
  have HC0 := Aside0.mk hc0
  clear hr0 hc0
  have H : (some (decide ((l0.length : Int) ≤ 500))) = some r := h
  clear h
  obtain rfl := Option.some.inj H
  go_enter Try.func7, Try.ntmps7
  go_wp2
  go_ret
  exact ⟨by (rfl), by repeat ((exact Drawn0.refl _))⟩

end Go.Proofs.Ythfddndmhjkeiaa.L
end
section
-- Printed for this claim by a small program of the session's own, drv.py, round the kit's print.py. Lean checks it.
namespace Go.Proofs.Ythfddndmhjkeiaa.L
open Go.RowKit Go.Proofs.YthfddndmhjkeiaaW.PrintWords Go.Proofs.YthfddndmhjkeiaaW.PrintLast Go.Proofs.YthfddndmhjkeiaaW.PrintMore
attribute [local go_sem] max2_int min2_int max_two min_two max_three min_three max_four min_four   -- for this text's walks alone
set_option linter.unusedVariables false
set_option linter.unusedSimpArgs false

/-- A state of type 52 at block g of W; what its slices lead to came in by w0. -/
def IsS52 (w0 W : World) (g : Nat) (f0 : List Int) (f1 : Int) : Prop := ∃ A0 c0, W.heap[g]? = some (.cells #[.slice A0 f0.length c0, .int .i64 f1] 52 (0, 0)) ∧ w0.heap.size ≤ g ∧ Kd.C (Kd.int .i64) w0 A0 f0.length f0
theorem IsS52.grown {w0 W : World} {g : Nat} {f0 : List Int} {f1 : Int} {W1 : World} {row : Option Nat} (h : IsS52 w0 W g f0 f1) (hw : W.grownBy W1 row) (hne : some g ≠ row) : IsS52 w0 W1 g f0 f1 := by
  obtain ⟨A0, c0, hb, hg, hr0⟩ := h
  exact ⟨A0, c0, blk_grown hb hw hne, hg, hr0⟩
theorem IsS52.own_neN {w0 W : World} {g : Nat} {f0 : List Int} {f1 : Int} {α : Type} {d : Kd α} {e : Nat} {base : Nat} {ok : Nat → Prop} {v : Value} {xs : List α} (h : IsS52 w0 W g f0 f1) (ho : Kd.N d e W base ok v xs) (ht : e ≠ 52) : some g ≠ v.ownBlock := by
  obtain ⟨A0, c0, hb, hg, hr0⟩ := h
  exact Kd.N_ne ho hb ht
theorem IsS52.fresh {w0 W : World} {g : Nat} {f0 : List Int} {f1 : Int} (h : IsS52 w0 W g f0 f1) : ∀ k, W.heap.size ≤ k → k ≠ g := by
  obtain ⟨A0, c0, hb, hg, hr0⟩ := h
  exact Kd.freshB hb
theorem IsS52.kept {w0 W : World} {g : Nat} {f0 : List Int} {f1 : Int} {W1 : World} {S : Nat → Prop} (h : IsS52 w0 W g f0 f1) (hk : Kept W W1 S) (hne : ¬ S g) : IsS52 w0 W1 g f0 f1 := by
  obtain ⟨A0, c0, hb, hg, hr0⟩ := h
  exact ⟨A0, c0, blk_kept hb hk hne, hg, hr0⟩
theorem IsS52.below {w0 W : World} {g : Nat} {f0 : List Int} {f1 : Int} {W1 : World} (h : IsS52 w0 W g f0 f1) (hw : Below W.heap.size W W1) : IsS52 w0 W1 g f0 f1 := h.grown (grown_of_below hw none) (by simp)
theorem IsS52.alloc {w0 W : World} {g : Nat} {f0 : List Int} {f1 : Int} (h : IsS52 w0 W g f0 f1) (o : Obj) : IsS52 w0 (W.alloc o) g f0 f1 := h.below (below_alloc (Below.refl _ _) o)
theorem IsS52.drewN {w0 W : World} {g : Nat} {f0 : List Int} {f1 : Int} (h : IsS52 w0 W g f0 f1) (m : Nat) : IsS52 w0 (W.drewN m) g f0 f1 := h
theorem IsS52.drew {w0 W : World} {g : Nat} {f0 : List Int} {f1 : Int} (h : IsS52 w0 W g f0 f1) : IsS52 w0 W.drew g f0 f1 := h
theorem IsS52.at_ {w0 W : World} {g : Nat} {f0 : List Int} {f1 : Int} {w' : World} {m : Nat} (hq : W.drewN m = w') (h : IsS52 w0 W g f0 f1) : IsS52 w0 w' g f0 f1 := by subst hq; exact IsS52.drewN h m
theorem IsS52.apart {w0 W : World} {g : Nat} {f0 : List Int} {f1 : Int} {α : Type} {d : Kd α} {e : Nat} {base : Nat} {ok : Nat → Prop} {v : Value} {xs : List α} (h : IsS52 w0 W g f0 f1) (ho : d.R e W base ok v xs) (ht : ∀ q, q ∈ e :: d.E → q ≠ 52) : d.R e W base (fun k => ok k ∧ k ≠ g) v xs := by
  obtain ⟨A0, c0, hb, hg, hr0⟩ := h
  exact Kd.R_types ho hb ht
theorem IsS52.own_ne {w0 W : World} {g : Nat} {f0 : List Int} {f1 : Int} {α : Type} {d : Kd α} {e : Nat} {base : Nat} {ok : Nat → Prop} {v : Value} {xs : List α} (h : IsS52 w0 W g f0 f1) (ho : d.R e W base ok v xs) (ht : e ≠ 52) : some g ≠ v.ownBlock := by
  obtain ⟨A0, c0, hb, hg, hr0⟩ := h
  exact Kd.R_ne ho hb ht
theorem IsS52.apartQ {w0 W : World} {g : Nat} {f0 : List Int} {f1 : Int} {α : Type} {d : Kd α} {e : Nat} {base : Nat} {ok : Nat → Prop} {v : Value} {xs : List α} (h : IsS52 w0 W g f0 f1) (ho : d.Q e W base ok v xs) (ht : ∀ q, q ∈ e :: d.E → q ≠ 52) : d.Q e W base (fun k => ok k ∧ k ≠ g) v xs := by
  obtain ⟨A0, c0, hb, hg, hr0⟩ := h
  exact Kd.Q_types ho hb ht
theorem IsS52.own_neQ {w0 W : World} {g : Nat} {f0 : List Int} {f1 : Int} {α : Type} {d : Kd α} {e : Nat} {base : Nat} {ok : Nat → Prop} {v : Value} {xs : List α} (h : IsS52 w0 W g f0 f1) (ho : d.Q e W base ok v xs) (ht : e ≠ 52) : some g ≠ v.ownBlock := by
  obtain ⟨A0, c0, hb, hg, hr0⟩ := h
  exact Kd.Q_ne ho hb ht
theorem IsS52.apartS {w0 W : World} {g : Nat} {f0 : List Int} {f1 : Int} {α : Type} {d : Kd α} {e : Nat} {base : Nat} {ok : Nat → Prop} {v : Value} {xs : List α} (h : IsS52 w0 W g f0 f1) (ho : d.S e W base ok v xs) (ht : ∀ q, q ∈ e :: d.E → q ≠ 52) : d.S e W base (fun k => ok k ∧ k ≠ g) v xs := by
  obtain ⟨A0, c0, hb, hg, hr0⟩ := h
  exact Kd.S_types ho hb ht
theorem IsS52.own_neS {w0 W : World} {g : Nat} {f0 : List Int} {f1 : Int} {α : Type} {d : Kd α} {e : Nat} {base : Nat} {ok : Nat → Prop} {v : Value} {xs : List α} (h : IsS52 w0 W g f0 f1) (ho : d.S e W base ok v xs) (ht : e ≠ 52) : some g ≠ v.ownBlock := by
  obtain ⟨A0, c0, hb, hg, hr0⟩ := h
  exact Kd.S_ne ho hb ht
theorem IsS52.lt {w0 W : World} {g : Nat} {f0 : List Int} {f1 : Int} (h : IsS52 w0 W g f0 f1) : g < W.heap.size := by
  obtain ⟨A0, c0, hb, hg, hr0⟩ := h
  exact blk_lt hb
theorem IsS52.ge {w0 W : World} {g : Nat} {f0 : List Int} {f1 : Int} (h : IsS52 w0 W g f0 f1) : w0.heap.size ≤ g := by
  obtain ⟨A0, c0, hb, hg, hr0⟩ := h
  exact hg
theorem IsS52.ne_blk {w0 W : World} {g : Nat} {f0 : List Int} {f1 : Int} {a : Nat} {cs : Array Value} {t : TypeId} {fr : Nat × Nat} (h : IsS52 w0 W g f0 f1) (hb2 : W.heap[a]? = some (.cells cs t fr)) (ht : t ≠ 52) : g ≠ a := by
  obtain ⟨A0, c0, hb, hg, hr0⟩ := h
  rintro rfl
  rw [hb] at hb2
  injection hb2 with hb2
  injection hb2 with _ ht2
  exact ht ht2.symm
theorem IsS52.far {w0 W : World} {g : Nat} {f0 : List Int} {f1 : Int} {p : Addr} (h : IsS52 w0 W g f0 f1) (hne : g ≠ p.block) (u : Value) : IsS52 w0 (W.setCell p u) g f0 f1 := by
  obtain ⟨A0, c0, hb, hg, hr0⟩ := h
  exact ⟨A0, c0, blk_far hb hne u, hg, hr0⟩
theorem cellS52_0 {W : World} {g : Nat} {A0 : Option Addr} {c0 : Nat} {f0 : List Int} {f1 : Int} (h : W.heap[g]? = some (.cells #[.slice A0 f0.length c0, .int .i64 f1] 52 (0, 0))) : W.cell? ⟨g, 0, none⟩ = some (.slice A0 f0.length c0) := (blk_cell h 0).trans rfl
theorem cellS52_1 {W : World} {g : Nat} {A0 : Option Addr} {c0 : Nat} {f0 : List Int} {f1 : Int} (h : W.heap[g]? = some (.cells #[.slice A0 f0.length c0, .int .i64 f1] 52 (0, 0))) : W.cell? ⟨g, 1, none⟩ = some (.int .i64 f1) := (blk_cell h 1).trans rfl
theorem IsS52.set_1 {w0 W : World} {g : Nat} {f0 : List Int} {f1 : Int} (h : IsS52 w0 W g f0 f1) (x : Int) : IsS52 w0 (W.setCell ⟨g, 1, none⟩ (.int .i64 x)) g f0 x := by
  obtain ⟨A0, c0, hb, hg, hr0⟩ := h
  exact ⟨A0, c0, by simpa using blk_set hb 1 (.int .i64 x), hg, hr0⟩
theorem IsS52.new (w0 W : World) (A0 : Option Addr) (c0 : Nat) (f0 : List Int) (f1 : Int) (hB : Below w0.heap.size w0 W) (hr0 : Kd.C (Kd.int .i64) w0 A0 f0.length f0) : IsS52 w0 (W.alloc (.cells #[.slice A0 f0.length c0, .int .i64 f1] 52)) W.heap.size f0 f1 := ⟨A0, c0, by simpa using heap_alloc_new W _, hB.size, hr0⟩

/-! ### storagebartermake_New: function 9 -/
def storagebartermake_New.f (l0 : List Int) : Option (List Int × Int) := some (l0, 0)
set_option maxHeartbeats 8000000 in
set_option maxRecDepth 100000 in
theorem storagebartermake_New.calls (A0 : Option Addr) (c0 : Nat) (l0 : List Int) (r1 : List Int) (r2 : Int) (w0 w : World) (hB : Below w0.heap.size w0 w) (hr0 : Kd.C (Kd.int .i64) w0 A0 l0.length l0) (hc0 : l0.length ≤ c0) (h : storagebartermake_New.f l0 = some (r1, r2)) :
    Calls Try.prog 9 #[.slice A0 l0.length c0] w fun e w' => ∃ g_ : Nat, e = .returned (.pointer (some ⟨g_, 0, none⟩)) ∧ IsS52 w0 w' g_ r1 r2 ∧ Below w0.heap.size w0 w' ∧ Below w.heap.size w w' := by
  have hu52 := Try.underlying52
  have HR0 := Aside0.mk hr0
  have HC0 := Aside0.mk hc0
  clear hr0 hc0
  have HBW := Aside0.mk (Below.refl w.heap.size w)
  have HW0 := Aside0.mk hB.size
  have HB := Aside0.mk hB
  clear hB
  have H : (some (l0, 0)) = some (r1, r2) := h
  clear h
  simp only [Option.some.injEq, Prod.mk.injEq] at H
  obtain ⟨rfl, rfl⟩ := H
  go_enter Try.func9, Try.ntmps9
  go_wp2_with (((with_reducible refine gate_dst (N := 5) rfl ?_); refine box_event ?hg (N := 5) ?hd (cs := #[.slice A0 l0.length c0, .int .i64 0]) (t := 52) ?hr ?_; (case hd => rfl); (case hg => rfl); (case hr => (go_simp; done)); intro gb103 hg w2 hbox hb; have n0_ := Aside0.mk (below_step HBW.out hb); have n1_ := Aside0.mk (below_step HB.out hb); have n2_ := Aside0.mk (hbox); have n3_ := Aside0.mk ((by rw [hg]; exact (below_size (HBW.out)) : w.heap.size ≤ gb103)); have n4_ := Aside0.mk ((Nat.le_trans HW0.out (by rw [hg]; exact (below_size (HBW.out)) : w.heap.size ≤ gb103) : w0.heap.size ≤ gb103)); clear HBW HB; have HBW := n0_; have HB := n1_; have BK103 := n2_; have GW103 := n3_; have GE103 := n4_; clear n0_ n1_ n2_ n3_ n4_; clear hb hbox hg))
  go_ret
  exact ⟨_, rfl, (show IsS52 w0 _ gb103 l0 0 from ⟨_, _, by exact BK103.out, GE103.out, HR0.out⟩), HB.out, HBW.out⟩

end Go.Proofs.Ythfddndmhjkeiaa.L
end
section
-- Printed for this claim by a small program of the session's own, drv.py, round the kit's print.py. Lean checks it.
namespace Go.Proofs.Ythfddndmhjkeiaa.L
open Go.RowKit Go.Proofs.YthfddndmhjkeiaaW.PrintWords Go.Proofs.YthfddndmhjkeiaaW.PrintLast Go.Proofs.YthfddndmhjkeiaaW.PrintMore
attribute [local go_sem] max2_int min2_int max_two min_two max_three min_three max_four min_four   -- for this text's walks alone
set_option linter.unusedVariables false
set_option linter.unusedSimpArgs false

/-! ### storagebartermake_Mod: function 11 -/
def storagebartermake_Mod.f (a0 : Int) (a1 : Int) : Option (Int) := if a1 = 0 then (none) else (some (Int.tmod (wrap64 ((Int.tmod a0 a1) + a1)) a1))
set_option maxHeartbeats 8000000 in
set_option maxRecDepth 100000 in
theorem storagebartermake_Mod.calls (a0 : Int) (a1 : Int) (r : Int) (w : World) (h : storagebartermake_Mod.f a0 a1 = some r) :
    Calls Try.prog 11 #[.int .i64 a0, .int .i64 a1] w fun e w' => e = .returned (.int .i64 r) ∧ Drawn0 w w' := by
  have H : (if a1 = 0 then (none) else (some (Int.tmod (wrap64 ((Int.tmod a0 a1) + a1)) a1))) = some r := h
  clear h
  by_cases c3 : a1 = 0
  · rw [if_pos c3] at H
    exact absurd H (by simp)
  · rw [if_neg c3] at H
    have c3b0 : (a1 == 0) = false := beq_eq_false_iff_ne.mpr c3
    have c3b1 : (a1 != 0) = true := bne_iff_ne.mpr c3
    obtain rfl := Option.some.inj H
    go_enter Try.func11, Try.ntmps11
    go_wp2
    go_ret
    exact ⟨by (rfl), by repeat ((exact Drawn0.refl _))⟩

end Go.Proofs.Ythfddndmhjkeiaa.L
end
section
-- Printed for this claim by a small program of the session's own, drv.py, round the kit's print.py. Lean checks it.
namespace Go.Proofs.Ythfddndmhjkeiaa.L
open Go.RowKit Go.Proofs.YthfddndmhjkeiaaW.PrintWords Go.Proofs.YthfddndmhjkeiaaW.PrintLast Go.Proofs.YthfddndmhjkeiaaW.PrintMore
attribute [local go_sem] max2_int min2_int max_two min_two max_three min_three max_four min_four   -- for this text's walks alone
set_option linter.unusedVariables false
set_option linter.unusedSimpArgs false

/-! ### storagebartermake_Deck_Next: function 14 -/
def storagebartermake_Deck_Next.f (s0_0 : List Int) (s0_1 : Int) (a1 : Int) : Option (Int × Int) := if a1 < 1 then (some (0, s0_1)) else (if s0_1 ≥ (s0_0.length : Int) then (some (0, s0_1)) else (if 0 ≤ s0_1 then (if s0_1 < (s0_0.length : Int) then ((storagebartermake_Mod.f (rd s0_0 s0_1) a1).bind fun t105 => (some (t105, wrap64 (s0_1 + 1)))) else (none)) else (none)))
set_option maxHeartbeats 8000000 in
set_option maxRecDepth 100000 in
theorem storagebartermake_Deck_Next.calls (g : Nat) (s0_0 : List Int) (s0_1 : Int) (a1 : Int) (r1 : Int) (r2 : Int) (w0 w : World) (hI : IsS52 w0 w g s0_0 s0_1) (hB : Below w0.heap.size w0 w) (h : storagebartermake_Deck_Next.f s0_0 s0_1 a1 = some (r1, r2)) :
    Calls Try.prog 14 #[.pointer (some ⟨g, 0, none⟩), .int .i64 a1] w fun e w' => e = .returned (.int .i64 r1) ∧ IsS52 w0 w' g s0_0 r2 ∧ Below w0.heap.size w0 w' ∧ KeepBut w w' g none := by
  have HI0 := Aside0.mk hI
  have HK := Aside0.mk (KeepBut.refl w g none)
  have HL := Aside0.mk hB.size
  clear hI
  have HW0 := Aside0.mk hB.size
  have HB := Aside0.mk hB
  clear hB
  have H : (if a1 < 1 then (some (0, s0_1)) else (if s0_1 ≥ (s0_0.length : Int) then (some (0, s0_1)) else (if 0 ≤ s0_1 then (if s0_1 < (s0_0.length : Int) then ((storagebartermake_Mod.f (rd s0_0 s0_1) a1).bind fun t105 => (some (t105, wrap64 (s0_1 + 1)))) else (none)) else (none)))) = some (r1, r2) := h
  clear h
  by_cases c3 : a1 < 1
  · rw [if_pos c3] at H
    have c3b0 : decide (a1 < 1) = true := decide_eq_true c3
    clear c3
    simp only [Option.some.injEq, Prod.mk.injEq] at H
    obtain ⟨rfl, rfl⟩ := H
    go_enter Try.func14, Try.ntmps14
    go_wp2
    repeat (go_quiet (fail); (go_wp2))
    go_ret
    exact ⟨by (rfl), by repeat ((with_reducible first | exact HI0.out | apply IsS52.drewN)), by repeat ((with_reducible first | exact HB.out | apply pw_below_drewN)), by repeat ((with_reducible first | exact HK.out | apply keep_drewN))⟩
  · rw [if_neg c3] at H
    have c3b0 : decide (a1 < 1) = false := decide_eq_false c3
    clear c3
    by_cases c4 : s0_1 ≥ (s0_0.length : Int)
    · rw [if_pos c4] at H
      have c4b0 : decide ((s0_0.length : Int) ≤ s0_1) = true := decide_eq_true c4
      clear c4
      simp only [Option.some.injEq, Prod.mk.injEq] at H
      obtain ⟨rfl, rfl⟩ := H
      obtain ⟨ASz5_0, cSz5_0, HGz5, hgz5, HSz5_0⟩ := HI0.out
      have hcz5_0 := cellS52_0 HGz5
      have hcz5_1 := cellS52_1 HGz5
      have hfz5_1 := blk_frozen HGz5 1
      clear HGz5 hgz5
      go_enter Try.func14, Try.ntmps14
      go_wp2
      repeat (go_quiet (fail); (go_wp2))
      go_ret
      exact ⟨by (rfl), by repeat ((with_reducible first | exact HI0.out | apply IsS52.drewN)), by repeat ((with_reducible first | exact HB.out | apply pw_below_drewN)), by repeat ((with_reducible first | exact HK.out | apply keep_drewN))⟩
    · rw [if_neg c4] at H
      have c4b0 : decide ((s0_0.length : Int) ≤ s0_1) = false := decide_eq_false c4
      clear c4
      by_cases c6 : 0 ≤ s0_1
      · rw [if_pos c6] at H
        have c6b0 : decide (0 ≤ s0_1) = true := decide_eq_true c6
        clear c6
        by_cases c7 : s0_1 < (s0_0.length : Int)
        · rw [if_pos c7] at H
          have c7b0 : decide (s0_1 < (s0_0.length : Int)) = true := decide_eq_true c7
          clear c7
          replace H := Option.bind_eq_some_iff.mp H
          obtain ⟨t105, A80, H⟩ := H
          replace H : (some (t105, wrap64 (s0_1 + 1))) = some (r1, r2) := H
          have A8 := Aside0.mk A80
          clear A80
          simp only [Option.some.injEq, Prod.mk.injEq] at H
          obtain ⟨rfl, rfl⟩ := H
          obtain ⟨ASz9_0, cSz9_0, HGz9, hgz9, HSz9_0⟩ := HI0.out
          have hcz9_0 := cellS52_0 HGz9
          have hcz9_1 := cellS52_1 HGz9
          have hfz9_1 := blk_frozen HGz9 1
          clear HGz9 hgz9
          have p104 : 0 ≤ (s0_1 : Int) := of_decide_eq_true (by (with_reducible assumption))
          have q104 : s0_1 < (s0_0.length : Int) := of_decide_eq_true (by (with_reducible assumption))
          obtain ⟨ad104, e104, hx104_0⟩ := Kd.at_int HSz9_0 s0_1 p104 q104
          cases e104
          replace hx104_0 := pw_cell_below HB.out hx104_0
          replace p104 := eq_true p104
          replace q104 := eq_true q104
          go_enter Try.func14, Try.ntmps14
          go_wp2_with (fail)
          repeat (go_quiet (first | (go_at_call 11; (with_reducible refine (storagebartermake_Mod.calls (rd s0_0 s0_1) a1 t105 _ A8.out).mono ?_); rintro e w' ⟨rfl, ⟨nd, rfl⟩⟩; (try first | exact ⟨rfl, _, World.drewN_drewN _ _ _⟩ | exact ⟨rfl, _, Eq.trans (World.drewN_drewN _ _ _) (congrArg (World.drewN _) (Nat.add_assoc _ _ _))⟩))); (go_wp2_with ((go_at_call 11; (with_reducible refine (storagebartermake_Mod.calls (rd s0_0 s0_1) a1 t105 _ A8.out).mono ?_); rintro e w' ⟨rfl, ⟨nd, rfl⟩⟩))))
          go_ret
          exact ⟨by (rfl), by repeat ((with_reducible first | exact HI0.out | apply IsS52.drewN | apply IsS52.set_1)), by repeat ((with_reducible first | exact HB.out | apply pw_below_drewN | refine below_set ?_ (IsS52.ge HI0.out))), by repeat ((with_reducible first | exact HK.out | apply KeepBut.set_ | apply keep_drewN))⟩
        · rw [if_neg c7] at H
          exact absurd H (by simp)
      · rw [if_neg c6] at H
        exact absurd H (by simp)

end Go.Proofs.Ythfddndmhjkeiaa.L
end
section
-- Printed for this claim by a small program of the session's own, drv.py, round the kit's print.py. Lean checks it.
namespace Go.Proofs.Ythfddndmhjkeiaa.L
open Go.RowKit Go.Proofs.YthfddndmhjkeiaaW.PrintWords Go.Proofs.YthfddndmhjkeiaaW.PrintLast Go.Proofs.YthfddndmhjkeiaaW.PrintMore
attribute [local go_sem] max2_int min2_int max_two min_two max_three min_three max_four min_four   -- for this text's walks alone
set_option linter.unusedVariables false
set_option linter.unusedSimpArgs false

/-! ### storagebartermake_Code: function 10 -/
def storagebartermake_Code.f (s0_0 : List Int) (s0_1 : Int) : Option (Int × Int × Int) := (storagebartermake_Deck_Next.f s0_0 s0_1 5).bind fun bt107 => ((storagebartermake_Deck_Next.f s0_0 bt107.2 5).bind fun bt110 => (some (wrap64 (1 + bt107.1), wrap64 ((wrap64 (1 + bt107.1)) + bt110.1), bt110.2)))
set_option maxHeartbeats 8000000 in
set_option maxRecDepth 100000 in
theorem storagebartermake_Code.calls (g : Nat) (s0_0 : List Int) (s0_1 : Int) (r1 : Int) (r2 : Int) (r3 : Int) (w0 w : World) (hI : IsS52 w0 w g s0_0 s0_1) (hB : Below w0.heap.size w0 w) (h : storagebartermake_Code.f s0_0 s0_1 = some (r1, r2, r3)) :
    Calls Try.prog 10 #[.pointer (some ⟨g, 0, none⟩)] w fun e w' => e = .returned (.agg #[.int .i64 r1, .int .i64 r2]) ∧ IsS52 w0 w' g s0_0 r3 ∧ Below w0.heap.size w0 w' ∧ KeepBut w w' g none := by
  have hu30 := Try.underlying30
  have HI0 := Aside0.mk hI
  have HK := Aside0.mk (KeepBut.refl w g none)
  have HL := Aside0.mk hB.size
  clear hI
  have HW0 := Aside0.mk hB.size
  have HB := Aside0.mk hB
  clear hB
  have H : ((storagebartermake_Deck_Next.f s0_0 s0_1 5).bind fun bt107 => ((storagebartermake_Deck_Next.f s0_0 bt107.2 5).bind fun bt110 => (some (wrap64 (1 + bt107.1), wrap64 ((wrap64 (1 + bt107.1)) + bt110.1), bt110.2)))) = some (r1, r2, r3) := h
  clear h
  replace H := Option.bind_eq_some_iff.mp H
  obtain ⟨⟨t107, t108⟩, A20, H⟩ := H
  replace H : ((storagebartermake_Deck_Next.f s0_0 t108 5).bind fun bt110 => (some (wrap64 (1 + t107), wrap64 ((wrap64 (1 + t107)) + bt110.1), bt110.2))) = some (r1, r2, r3) := H
  have A2 := Aside0.mk A20
  clear A20
  replace H := Option.bind_eq_some_iff.mp H
  obtain ⟨⟨t110, t111⟩, A30, H⟩ := H
  replace H : (some (wrap64 (1 + t107), wrap64 ((wrap64 (1 + t107)) + t110), t111)) = some (r1, r2, r3) := H
  have A3 := Aside0.mk A30
  clear A30
  simp only [Option.some.injEq, Prod.mk.injEq] at H
  obtain ⟨rfl, rfl, rfl⟩ := H
  go_enter Try.func10, Try.ntmps10
  (go_wp2_with (first | ((with_reducible refine gate_dst (N := 2) rfl ?_); refine box_event ?hg (N := 2) ?hd (cs := #[.int .i64 0, .int .i64 0]) (t := 30) ?hr ?_; (case hd => rfl); (case hg => rfl); (case hr => (go_simp; done)); intro gb106 hg w4 hbox hb; have n0_ := Aside0.mk (IsS52.below HI0.out hb); have n1_ := Aside0.mk (KeepBut.trans HK.out (KeepBut.of_below hb g none) (.inl rfl)); have n2_ := Aside0.mk (below_step HB.out hb); have n3_ := Aside0.mk (hbox); have n4_ := Aside0.mk ((by rw [hg]; exact (keep_size (w := w) (g := g) (row := none) HK.out) : w.heap.size ≤ gb106)); have n5_ := Aside0.mk ((Nat.le_trans HW0.out (by rw [hg]; exact (keep_size (w := w) (g := g) (row := none) HK.out) : w.heap.size ≤ gb106) : w0.heap.size ≤ gb106)); have n6_ := Aside0.mk ((by rw [hg]; exact Nat.ne_of_lt (IsS52.lt (show IsS52 w0 _ g s0_0 s0_1 from HI0.out)) : g ≠ gb106)); have n7_ := Aside0.mk ((by rw [hg]; exact Nat.ne_of_gt (IsS52.lt (show IsS52 w0 _ g s0_0 s0_1 from HI0.out)) : gb106 ≠ g)); clear HI0 HK HB; have HI0 := n0_; have HK := n1_; have HB := n2_; have BK106 := n3_; have GW106 := n4_; have GE106 := n5_; have NB0_106 := n6_; have NB106_0 := n7_; clear n0_ n1_ n2_ n3_ n4_ n5_ n6_ n7_; clear hb hbox hg) | ((with_reducible refine gate_callee (f := 14) rfl ?_); refine goesL_ (some 5) rfl rfl Try.func14 (by kernel_rfl) rfl #[.pointer (some ⟨g, 0, none⟩), .int .i64 5] rfl (by ((simp only [List.map_toArray, List.map_cons, List.map_nil])); (rfl)) ?_; (with_reducible refine (storagebartermake_Deck_Next.calls g s0_0 s0_1 5 t107 t108 w0 _ ?side1 ?side2 A2.out).mono ?_); (case side1 => repeat ((with_reducible (exact HI0.out)))); (case side2 => repeat ((with_reducible (exact HB.out)))); rintro e w5 ⟨rfl, hi, hb, hk⟩; refine ⟨_, rfl, ?_⟩; have n0_ := Aside0.mk (KeepBut.blk hk (g' := gb106) (o := .cells #[.int .i64 0, .int .i64 0] 30 (0, 0)) (by exact BK106.out) NB106_0.out (by simp)); have n1_ := Aside0.mk (KeepBut.trans HK.out hk (.inl rfl)); have n2_ := Aside0.mk (hb); have n3_ := Aside0.mk (hi); clear BK106 HK HB HI0; have BK106 := n0_; have HK := n1_; have HB := n2_; have HI0 := n3_; clear n0_ n1_ n2_ n3_; clear hb; clear hk; clear hi) | ((with_reducible refine gate_dst (N := 3) rfl ?_); refine box_event ?hg (N := 3) ?hd (cs := #[.int .i64 0, .int .i64 0]) (t := 30) ?hr ?_; (case hd => rfl); (case hg => rfl); (case hr => (go_simp; done)); intro gb109 hg w6 hbox hb; have n0_ := Aside0.mk (IsS52.below HI0.out hb); have n1_ := Aside0.mk (blk_below (g := gb106) (o := .cells #[.int .i64 0, .int .i64 0] 30 (0, 0)) (by exact BK106.out) hb); have n2_ := Aside0.mk (KeepBut.trans HK.out (KeepBut.of_below hb g none) (.inl rfl)); have n3_ := Aside0.mk (below_step HB.out hb); have n4_ := Aside0.mk (hbox); have n5_ := Aside0.mk ((by rw [hg]; exact (keep_size (w := w) (g := g) (row := none) HK.out) : w.heap.size ≤ gb109)); have n6_ := Aside0.mk ((Nat.le_trans HW0.out (by rw [hg]; exact (keep_size (w := w) (g := g) (row := none) HK.out) : w.heap.size ≤ gb109) : w0.heap.size ≤ gb109)); have n7_ := Aside0.mk ((by rw [hg]; exact Nat.ne_of_lt (blk_lt (g := gb106) (o := .cells #[.int .i64 0, .int .i64 0] 30 (0, 0)) (by exact BK106.out)) : gb106 ≠ gb109)); have n8_ := Aside0.mk ((by rw [hg]; exact Nat.ne_of_gt (blk_lt (g := gb106) (o := .cells #[.int .i64 0, .int .i64 0] 30 (0, 0)) (by exact BK106.out)) : gb109 ≠ gb106)); have n9_ := Aside0.mk ((by rw [hg]; exact Nat.ne_of_lt (IsS52.lt (show IsS52 w0 _ g s0_0 t108 from HI0.out)) : g ≠ gb109)); have n10_ := Aside0.mk ((by rw [hg]; exact Nat.ne_of_gt (IsS52.lt (show IsS52 w0 _ g s0_0 t108 from HI0.out)) : gb109 ≠ g)); clear HI0 BK106 HK HB; have HI0 := n0_; have BK106 := n1_; have HK := n2_; have HB := n3_; have BK109 := n4_; have GW109 := n5_; have GE109 := n6_; have NB106_109 := n7_; have NB109_106 := n8_; have NB0_109 := n9_; have NB109_0 := n10_; clear n0_ n1_ n2_ n3_ n4_ n5_ n6_ n7_ n8_ n9_ n10_; clear hb hbox hg; have hnb7 := NB109_106.out; have hnc7 := NB106_109.out; have hnb8 := NB109_0.out; have hnc8 := NB0_109.out; have hcz9_0 : w6.cell? ⟨gb109, 0, none⟩ = some (.int .i64 0) := (blk_cell BK109.out 0).trans rfl; have hcz9_1 : w6.cell? ⟨gb109, 1, none⟩ = some (.int .i64 0) := (blk_cell BK109.out 1).trans rfl; have hfz9_0 := blk_frozen BK109.out 0; have hfz9_1 := blk_frozen BK109.out 1)))
  have n0_ : Aside0 (((w6.setCell ⟨gb109, 0, none⟩ (.int .i64 (wrap64 (1 + t107)))).setCell ⟨gb109, 1, none⟩ (.int .i64 0)).heap[gb106]? = some (.cells #[.int .i64 0, .int .i64 0] 30 (0, 0))) := ⟨by refine blk_far ?_ NB106_109.out _; refine blk_far ?_ NB106_109.out _; exact BK106.out⟩
  have n1_ : Aside0 (((w6.setCell ⟨gb109, 0, none⟩ (.int .i64 (wrap64 (1 + t107)))).setCell ⟨gb109, 1, none⟩ (.int .i64 0)).heap[gb109]? = some (.cells #[.int .i64 (wrap64 (1 + t107)), .int .i64 0] 30 (0, 0))) := ⟨by refine blk_put (cs := #[.int .i64 (wrap64 (1 + t107)), .int .i64 0]) ?_ 1 _ rfl; refine blk_put (cs := #[.int .i64 0, .int .i64 0]) ?_ 0 _ rfl; exact BK109.out⟩
  have n2_ : Aside0 (IsS52 w0 ((w6.setCell ⟨gb109, 0, none⟩ (.int .i64 (wrap64 (1 + t107)))).setCell ⟨gb109, 1, none⟩ (.int .i64 0)) g s0_0 t108) := ⟨by repeat ((with_reducible first | exact HI0.out | refine IsS52.far ?_ NB0_109.out _))⟩
  have n3_ : Aside0 (KeepBut w ((w6.setCell ⟨gb109, 0, none⟩ (.int .i64 (wrap64 (1 + t107)))).setCell ⟨gb109, 1, none⟩ (.int .i64 0)) g none) := ⟨by repeat ((with_reducible first | exact HK.out | refine keep_far ?_ GW109.out _))⟩
  have n4_ : Aside0 (Below w0.heap.size w0 ((w6.setCell ⟨gb109, 0, none⟩ (.int .i64 (wrap64 (1 + t107)))).setCell ⟨gb109, 1, none⟩ (.int .i64 0))) := ⟨by repeat ((with_reducible first | exact HB.out | refine below_set ?_ GE109.out))⟩
  ((clear BK106))
  ((clear BK109))
  ((clear HI0))
  ((clear HK))
  ((clear HB))
  generalize ((w6.setCell ⟨gb109, 0, none⟩ (.int .i64 (wrap64 (1 + t107)))).setCell ⟨gb109, 1, none⟩ (.int .i64 0)) = w10 at n0_ n1_ n2_ n3_ n4_ ⊢
  have BK106 := n0_
  have BK109 := n1_
  have HI0 := n2_
  have HK := n3_
  have HB := n4_
  clear n0_ n1_ n2_ n3_ n4_
  have n0_ := Aside0.mk (blk_drew BK106.out)
  have n1_ := Aside0.mk (blk_drew BK109.out)
  have n2_ := Aside0.mk (IsS52.drew HI0.out)
  have n3_ := Aside0.mk (keep_drew HK.out)
  have n4_ := Aside0.mk (below_drew1 HB.out)
  clear BK106 BK109 HI0 HK HB
  have BK106 := n0_
  have BK109 := n1_
  have HI0 := n2_
  have HK := n3_
  have HB := n4_
  clear n0_ n1_ n2_ n3_ n4_
  refine start_ (n := 7) (S := fun w' => w'.cell? ⟨gb109, 0, none⟩ = some (.int .i64 (wrap64 (1 + t107))) ∧ w'.cell? ⟨gb109, 1, none⟩ = some (.int .i64 0)) (ds := [6]) #[false, false, false, false, false, false, false] (by kernel_rfl) rfl rfl ⟨(blk_cell BK109.out 0).trans rfl, (blk_cell BK109.out 1).trans rfl⟩ (fun hHeld => ?_)
  generalize w10.drew = w11 at BK106 BK109 HI0 HK HB hHeld ⊢
  refine pure_ (i := 0) (N := some 8) (v := ?_) (a' := ?_) #[true, false, false, false, false, false, false] rfl rfl (by kernel_rfl) (fun _ _ _ h => h) (Or.inl ⟨by rfl, ?_⟩) ?_ ?_
  rotate_left
  · intro w'
    go_simp
    with_reducible rfl
  rotate_left
  · simp only [Act.put, List.setIfInBounds_toArray, List.set_cons_zero, List.set_cons_succ, i64_w, i32_w]
    rfl
  refine pure_ (i := 2) (N := some 10) (v := ?_) (a' := ?_) #[true, false, true, false, false, false, false] rfl rfl (by kernel_rfl) (fun _ _ _ h => h) (Or.inl ⟨by rfl, ?_⟩) ?_ ?_
  rotate_left
  · intro w'
    go_simp
    with_reducible rfl
  rotate_left
  · simp only [Act.put, List.setIfInBounds_toArray, List.set_cons_zero, List.set_cons_succ, i64_w, i32_w]
    rfl
  refine take_ (i := 1) (N := some 9) (v := ?_) (a' := ?_) #[true, true, true, false, false, false, false] rfl rfl (by kernel_rfl) (fun _ _ _ h => h) (Or.inl ⟨by rfl, ?_⟩) hHeld ?_ ?_
  rotate_left
  · rintro w' ⟨s0, s1⟩
    go_simp
    with_reducible rfl
  rotate_left
  · simp only [Act.put, List.setIfInBounds_toArray, List.set_cons_zero, List.set_cons_succ, i64_w, i32_w]
    rfl
  refine one_ (i := 3) (N := some 11) #[true, true, true, true, false, false, false] rfl rfl (by kernel_rfl) (by decide) (fun K hK => ?_)
  refine goes_ Try.func14 (by kernel_rfl) rfl #[.pointer (some ⟨g, 0, none⟩), .int .i64 5] (by rfl) rfl rfl (by ((simp only [List.map_toArray, List.map_cons, List.map_nil])); (rfl)) ?_
  with_reducible refine (storagebartermake_Deck_Next.calls g s0_0 t108 5 t110 t111 w0 _ ?side1 ?side2 A3.out).mono ?_
  (case side1 => repeat ((with_reducible (exact HI0.out))))
  (case side2 => repeat ((with_reducible (exact HB.out))))
  rintro e w12 ⟨rfl, hi, hb, hk⟩
  refine ⟨_, rfl, ?_⟩
  have n0_ := Aside0.mk (KeepBut.blk hk (g' := gb106) (o := .cells #[.int .i64 0, .int .i64 0] 30 (0, 0)) (by exact BK106.out) NB106_0.out (by simp))
  have n1_ := Aside0.mk (KeepBut.blk hk (g' := gb109) (o := .cells #[.int .i64 (wrap64 (1 + t107)), .int .i64 0] 30 (0, 0)) (by exact BK109.out) NB109_0.out (by simp))
  have n2_ := Aside0.mk (KeepBut.trans HK.out hk (.inl rfl))
  have n3_ := Aside0.mk (hb)
  have n4_ := Aside0.mk (hi)
  clear BK106 BK109 HK HB HI0
  have BK106 := n0_
  have BK109 := n1_
  have HK := n2_
  have HB := n3_
  have HI0 := n4_
  clear n0_ n1_ n2_ n3_ n4_
  ((clear hb))
  ((clear hk))
  ((clear hi))
  refine hK.out _ _ ⟨(blk_cell BK109.out 0).trans rfl, (blk_cell BK109.out 1).trans rfl⟩ (fun hHeld => ?_)
  clear hK K
  refine norm_ (a' := ?_) ?_ ?_
  rotate_left
  · show Act.put _ (some 11) _ = _
    simp only [Act.put, List.setIfInBounds_toArray, List.set_cons_zero, List.set_cons_succ, i64_w, i32_w]
    rfl
  refine pure_ (i := 4) (N := some 12) (v := ?_) (a' := ?_) #[true, true, true, true, true, false, false] rfl rfl (by kernel_rfl) (fun _ _ _ h => h) (Or.inl ⟨by rfl, ?_⟩) ?_ ?_
  rotate_left
  · intro w'
    go_simp
    with_reducible rfl
  rotate_left
  · simp only [Act.put, List.setIfInBounds_toArray, List.set_cons_zero, List.set_cons_succ, i64_w, i32_w]
    rfl
  refine pure_ (i := 5) (N := some 13) (v := ?_) (a' := ?_) #[true, true, true, true, true, true, false] rfl rfl (by kernel_rfl) (fun _ _ _ h => h) (Or.inl ⟨by rfl, ?_⟩) ?_ ?_
  rotate_left
  · intro w'
    go_simp
    with_reducible rfl
  rotate_left
  · simp only [Act.put, List.setIfInBounds_toArray, List.set_cons_zero, List.set_cons_succ, i64_w, i32_w]
    rfl
  refine last_ (i := 6) (N := none) #[true, true, true, true, true, true, true] rfl rfl (by kernel_rfl) (by decide) (fun K hK => ?_)
  have hs13 : w12.cell? ⟨gb109, 1, none⟩ = some (.int .i64 0) := (blk_cell BK109.out 1).trans rfl
  have hfs13 := blk_frozen BK109.out 1
  have hns13_0 := NB106_109.out
  have hms13_0 := NB109_106.out
  refine skip_ (w1 := ?_) (by rfl) rfl ?_ ?_
  rotate_left
  · go_simp
    rfl
  refine hK.out _ _ ?_
  clear hK K
  refine done_ (by kernel_rfl) ?_
  have hcz14_0 : w12.cell? ⟨gb109, 0, none⟩ = some (.int .i64 (wrap64 (1 + t107))) := (blk_cell BK109.out 0).trans rfl
  have hcz14_1 : w12.cell? ⟨gb109, 1, none⟩ = some (.int .i64 0) := (blk_cell BK109.out 1).trans rfl
  have hfz14_0 := blk_frozen BK109.out 0
  have hfz14_1 := blk_frozen BK109.out 1
  have hnb15 := NB106_0.out
  have hnc15 := NB0_106.out
  have hcz16_0 : w12.cell? ⟨gb106, 0, none⟩ = some (.int .i64 0) := (blk_cell BK106.out 0).trans rfl
  have hcz16_1 : w12.cell? ⟨gb106, 1, none⟩ = some (.int .i64 0) := (blk_cell BK106.out 1).trans rfl
  have hfz16_0 := blk_frozen BK106.out 0
  have hfz16_1 := blk_frozen BK106.out 1
  (go_wp2)
  refine bodyPost_ret (results_cell_row rfl _ _ gb106 30 #[.int .i64 (wrap64 (1 + t107)), .int .i64 (wrap64 ((wrap64 (1 + t107)) + t110))] (0, 0) _ rfl (by refine blk_put (cs := #[.int .i64 (wrap64 (1 + t107)), .int .i64 0]) ?_ 1 _ rfl; refine blk_put (cs := #[.int .i64 0, .int .i64 0]) ?_ 0 _ rfl; refine blk_far ?_ NB106_109.out _; exact BK106.out) Try.underlying30 rfl (by kernel_rfl)) rfl ?_
  exact ⟨by (rfl), by repeat ((with_reducible first | exact HI0.out | refine IsS52.far ?_ NB0_106.out _ | refine IsS52.far ?_ NB0_109.out _)), by repeat ((with_reducible first | exact HB.out | refine below_set ?_ GE106.out | refine below_set ?_ GE109.out)), by repeat ((with_reducible first | exact HK.out | refine keep_far ?_ GW106.out _ | refine keep_far ?_ GW109.out _))⟩

end Go.Proofs.Ythfddndmhjkeiaa.L
end
section
-- Printed for this claim by a small program of the session's own, drv.py, round the kit's print.py. Lean checks it.
namespace Go.Proofs.Ythfddndmhjkeiaa.L
open Go.RowKit Go.Proofs.YthfddndmhjkeiaaW.PrintWords Go.Proofs.YthfddndmhjkeiaaW.PrintLast Go.Proofs.YthfddndmhjkeiaaW.PrintMore
attribute [local go_sem] max2_int min2_int max_two min_two max_three min_three max_four min_four   -- for this text's walks alone
set_option linter.unusedVariables false
set_option linter.unusedSimpArgs false

/-! ### erasure_Check: function 19 -/
def erasure_Check.f (a0_0 : Int) (a0_1 : Int) : Option (Int) := if a0_0 < 1 then (some 1) else (if a0_0 > a0_1 then (some 1) else (if a0_1 > 16 then (some 1) else (some 0)))
set_option maxHeartbeats 8000000 in
set_option maxRecDepth 100000 in
theorem erasure_Check.calls (a0_0 : Int) (a0_1 : Int) (r : Int) (w : World) (h : erasure_Check.f a0_0 a0_1 = some r) :
    Calls Try.prog 19 #[.agg #[.int .i64 a0_0, .int .i64 a0_1]] w fun e w' => e = .returned (.int .i64 r) ∧ Below w.heap.size w w' := by
  have hu30 := Try.underlying30
  have HB := Aside0.mk (Below.refl w.heap.size w)
  have H : (if a0_0 < 1 then (some 1) else (if a0_0 > a0_1 then (some 1) else (if a0_1 > 16 then (some 1) else (some 0)))) = some r := h
  clear h
  by_cases c2 : a0_0 < 1
  · rw [if_pos c2] at H
    have c2b0 : decide (a0_0 < 1) = true := decide_eq_true c2
    clear c2
    obtain rfl := Option.some.inj H
    go_enter Try.func19, Try.ntmps19
    go_wp2_with (((with_reducible refine gate_dst (N := 1) rfl ?_); refine box_event ?hg (N := 1) ?hd (cs := #[.int .i64 a0_0, .int .i64 a0_1]) (t := 30) ?hr ?_; (case hd => rfl); (case hg => rfl); (case hr => (go_simp; done)); intro gb112 hg w3 hbox hb; have n0_ := Aside0.mk (below_step HB.out hb); have n1_ := Aside0.mk (hbox); have n2_ := Aside0.mk ((by rw [hg]; exact (below_size HB.out) : w.heap.size ≤ gb112)); have n3_ := Aside0.mk ((by rw [hg]; exact (below_size HB.out) : w.heap.size ≤ gb112)); clear HB; have HB := n0_; have BK112 := n1_; have GW112 := n2_; have GE112 := n3_; clear n0_ n1_ n2_ n3_; clear hb hbox hg; have hcz4_0 : w3.cell? ⟨gb112, 0, none⟩ = some (.int .i64 a0_0) := (blk_cell BK112.out 0).trans rfl; have hcz4_1 : w3.cell? ⟨gb112, 1, none⟩ = some (.int .i64 a0_1) := (blk_cell BK112.out 1).trans rfl; have hfz4_0 := blk_frozen BK112.out 0; have hfz4_1 := blk_frozen BK112.out 1))
    go_ret
    exact ⟨by (rfl), HB.out⟩
  · rw [if_neg c2] at H
    have c2b0 : decide (a0_0 < 1) = false := decide_eq_false c2
    clear c2
    by_cases c5 : a0_0 > a0_1
    · rw [if_pos c5] at H
      have c5b0 : decide (a0_1 < a0_0) = true := decide_eq_true c5
      clear c5
      obtain rfl := Option.some.inj H
      go_enter Try.func19, Try.ntmps19
      go_wp2_with (((with_reducible refine gate_dst (N := 1) rfl ?_); refine box_event ?hg (N := 1) ?hd (cs := #[.int .i64 a0_0, .int .i64 a0_1]) (t := 30) ?hr ?_; (case hd => rfl); (case hg => rfl); (case hr => (go_simp; done)); intro gb112 hg w6 hbox hb; have n0_ := Aside0.mk (below_step HB.out hb); have n1_ := Aside0.mk (hbox); have n2_ := Aside0.mk ((by rw [hg]; exact (below_size HB.out) : w.heap.size ≤ gb112)); have n3_ := Aside0.mk ((by rw [hg]; exact (below_size HB.out) : w.heap.size ≤ gb112)); clear HB; have HB := n0_; have BK112 := n1_; have GW112 := n2_; have GE112 := n3_; clear n0_ n1_ n2_ n3_; clear hb hbox hg; have hcz7_0 : w6.cell? ⟨gb112, 0, none⟩ = some (.int .i64 a0_0) := (blk_cell BK112.out 0).trans rfl; have hcz7_1 : w6.cell? ⟨gb112, 1, none⟩ = some (.int .i64 a0_1) := (blk_cell BK112.out 1).trans rfl; have hfz7_0 := blk_frozen BK112.out 0; have hfz7_1 := blk_frozen BK112.out 1))
      go_ret
      exact ⟨by (rfl), HB.out⟩
    · rw [if_neg c5] at H
      have c5b0 : decide (a0_1 < a0_0) = false := decide_eq_false c5
      clear c5
      by_cases c8 : a0_1 > 16
      · rw [if_pos c8] at H
        have c8b0 : decide (16 < a0_1) = true := decide_eq_true c8
        clear c8
        obtain rfl := Option.some.inj H
        go_enter Try.func19, Try.ntmps19
        go_wp2_with (((with_reducible refine gate_dst (N := 1) rfl ?_); refine box_event ?hg (N := 1) ?hd (cs := #[.int .i64 a0_0, .int .i64 a0_1]) (t := 30) ?hr ?_; (case hd => rfl); (case hg => rfl); (case hr => (go_simp; done)); intro gb112 hg w9 hbox hb; have n0_ := Aside0.mk (below_step HB.out hb); have n1_ := Aside0.mk (hbox); have n2_ := Aside0.mk ((by rw [hg]; exact (below_size HB.out) : w.heap.size ≤ gb112)); have n3_ := Aside0.mk ((by rw [hg]; exact (below_size HB.out) : w.heap.size ≤ gb112)); clear HB; have HB := n0_; have BK112 := n1_; have GW112 := n2_; have GE112 := n3_; clear n0_ n1_ n2_ n3_; clear hb hbox hg; have hcz10_0 : w9.cell? ⟨gb112, 0, none⟩ = some (.int .i64 a0_0) := (blk_cell BK112.out 0).trans rfl; have hcz10_1 : w9.cell? ⟨gb112, 1, none⟩ = some (.int .i64 a0_1) := (blk_cell BK112.out 1).trans rfl; have hfz10_0 := blk_frozen BK112.out 0; have hfz10_1 := blk_frozen BK112.out 1))
        go_ret
        exact ⟨by (rfl), HB.out⟩
      · rw [if_neg c8] at H
        have c8b0 : decide (16 < a0_1) = false := decide_eq_false c8
        clear c8
        obtain rfl := Option.some.inj H
        go_enter Try.func19, Try.ntmps19
        go_wp2_with (((with_reducible refine gate_dst (N := 1) rfl ?_); refine box_event ?hg (N := 1) ?hd (cs := #[.int .i64 a0_0, .int .i64 a0_1]) (t := 30) ?hr ?_; (case hd => rfl); (case hg => rfl); (case hr => (go_simp; done)); intro gb112 hg w11 hbox hb; have n0_ := Aside0.mk (below_step HB.out hb); have n1_ := Aside0.mk (hbox); have n2_ := Aside0.mk ((by rw [hg]; exact (below_size HB.out) : w.heap.size ≤ gb112)); have n3_ := Aside0.mk ((by rw [hg]; exact (below_size HB.out) : w.heap.size ≤ gb112)); clear HB; have HB := n0_; have BK112 := n1_; have GW112 := n2_; have GE112 := n3_; clear n0_ n1_ n2_ n3_; clear hb hbox hg; have hcz12_0 : w11.cell? ⟨gb112, 0, none⟩ = some (.int .i64 a0_0) := (blk_cell BK112.out 0).trans rfl; have hcz12_1 : w11.cell? ⟨gb112, 1, none⟩ = some (.int .i64 a0_1) := (blk_cell BK112.out 1).trans rfl; have hfz12_0 := blk_frozen BK112.out 0; have hfz12_1 := blk_frozen BK112.out 1))
        go_ret
        exact ⟨by (rfl), HB.out⟩

end Go.Proofs.Ythfddndmhjkeiaa.L
end
section
-- Printed for this claim by a small program of the session's own, drv.py, round the kit's print.py. Lean checks it.
namespace Go.Proofs.Ythfddndmhjkeiaa.L
open Go.RowKit Go.Proofs.YthfddndmhjkeiaaW.PrintWords Go.Proofs.YthfddndmhjkeiaaW.PrintLast Go.Proofs.YthfddndmhjkeiaaW.PrintMore
attribute [local go_sem] max2_int min2_int max_two min_two max_three min_three max_four min_four   -- for this text's walks alone
set_option linter.unusedVariables false
set_option linter.unusedSimpArgs false

/-! ### seal_key_valid: function 33 -/
def seal_key_valid.f (a0 : Int) : Option (Bool) := if a0 ≥ 0 then (some (decide (a0 < 4294967294))) else (some false)
set_option maxHeartbeats 8000000 in
set_option maxRecDepth 100000 in
theorem seal_key_valid.calls (a0 : Int) (r : Bool) (w : World) (h : seal_key_valid.f a0 = some r) :
    Calls Try.prog 33 #[.int .i64 a0] w fun e w' => e = .returned (.bool r) ∧ Drawn0 w w' := by
  have H : (if a0 ≥ 0 then (some (decide (a0 < 4294967294))) else (some false)) = some r := h
  clear h
  by_cases c2 : a0 ≥ 0
  · rw [if_pos c2] at H
    have c2b0 : decide (0 ≤ a0) = true := decide_eq_true c2
    clear c2
    obtain rfl := Option.some.inj H
    go_enter Try.func33, Try.ntmps33
    go_wp2
    go_ret
    exact ⟨by (rfl), by repeat ((exact Drawn0.refl _))⟩
  · rw [if_neg c2] at H
    have c2b0 : decide (0 ≤ a0) = false := decide_eq_false c2
    clear c2
    obtain rfl := Option.some.inj H
    go_enter Try.func33, Try.ntmps33
    go_wp2
    go_ret
    exact ⟨by (rfl), by repeat ((exact Drawn0.refl _))⟩

end Go.Proofs.Ythfddndmhjkeiaa.L
end
section
-- Printed for this claim by a small program of the session's own, drv.py, round the kit's print.py. Lean checks it.
namespace Go.Proofs.Ythfddndmhjkeiaa.L
open Go.RowKit Go.Proofs.YthfddndmhjkeiaaW.PrintWords Go.Proofs.YthfddndmhjkeiaaW.PrintLast Go.Proofs.YthfddndmhjkeiaaW.PrintMore
attribute [local go_sem] max2_int min2_int max_two min_two max_three min_three max_four min_four   -- for this text's walks alone
set_option linter.unusedVariables false
set_option linter.unusedSimpArgs false

/-! ### seal_key_lock: function 34 -/
def seal_key_lock.f (a0 : Int) : Option (Int) := some (wrap64 ((wrap64 (3 * a0)) + 1))
set_option maxHeartbeats 8000000 in
set_option maxRecDepth 100000 in
theorem seal_key_lock.calls (a0 : Int) (r : Int) (w : World) (h : seal_key_lock.f a0 = some r) :
    Calls Try.prog 34 #[.int .i64 a0] w fun e w' => e = .returned (.int .i64 r) ∧ Drawn0 w w' := by
  have H : (some (wrap64 ((wrap64 (3 * a0)) + 1))) = some r := h
  clear h
  obtain rfl := Option.some.inj H
  go_enter Try.func34, Try.ntmps34
  go_wp2
  go_ret
  exact ⟨by (rfl), by repeat ((exact Drawn0.refl _))⟩

end Go.Proofs.Ythfddndmhjkeiaa.L
end
section
-- Printed for this claim by a small program of the session's own, drv.py, round the kit's print.py. Lean checks it.
namespace Go.Proofs.Ythfddndmhjkeiaa.L
open Go.RowKit Go.Proofs.YthfddndmhjkeiaaW.PrintWords Go.Proofs.YthfddndmhjkeiaaW.PrintLast Go.Proofs.YthfddndmhjkeiaaW.PrintMore
attribute [local go_sem] max2_int min2_int max_two min_two max_three min_three max_four min_four   -- for this text's walks alone
set_option linter.unusedVariables false
set_option linter.unusedSimpArgs false

/-! ### seal_Seal: function 20 -/
def seal_Seal.f (a0 : ByteArray) (a1 : Int) : Option (Int × ByteArray × Int) := (seal_key_valid.f a1).bind fun t114 => (if t114 = true then (if (a0.size : Int) > 16384 then (none) else ((seal_key_lock.f a1).bind fun t115 => (some (t115, a0, 0)))) else (none))
set_option maxHeartbeats 8000000 in
set_option maxRecDepth 100000 in
theorem seal_Seal.calls (a0 : ByteArray) (a1 : Int) (r1 : Int) (r2 : ByteArray) (r3 : Int) (w : World) (h : seal_Seal.f a0 a1 = some (r1, r2, r3)) :
    Calls Try.prog 20 #[.string a0, .int .i64 a1] w fun e w' => e = .returned (.tuple #[.agg #[.int .i64 r1, .string r2], .int .i64 r3]) ∧ Below w.heap.size w w' := by
  have hu55 := Try.underlying55
  have HB := Aside0.mk (Below.refl w.heap.size w)
  have H : ((seal_key_valid.f a1).bind fun t114 => (if t114 = true then (if (a0.size : Int) > 16384 then (none) else ((seal_key_lock.f a1).bind fun t115 => (some (t115, a0, 0)))) else (none))) = some (r1, r2, r3) := h
  clear h
  replace H := Option.bind_eq_some_iff.mp H
  obtain ⟨t114, A30, H⟩ := H
  replace H : (if t114 = true then (if (a0.size : Int) > 16384 then (none) else ((seal_key_lock.f a1).bind fun t115 => (some (t115, a0, 0)))) else (none)) = some (r1, r2, r3) := H
  have A3 := Aside0.mk A30
  clear A30
  by_cases c4 : t114 = true
  · subst c4
    have H1 : (if (a0.size : Int) > 16384 then (none) else ((seal_key_lock.f a1).bind fun t115 => (some (t115, a0, 0)))) = some (r1, r2, r3) := by rw [if_pos rfl] at H; exact H
    clear H
    have H := H1
    clear H1
    by_cases c5 : (a0.size : Int) > 16384
    · rw [if_pos c5] at H
      have c5b0 : decide (16384 < (a0.size : Int)) = true := decide_eq_true c5
      have c5b1 : decide (16384 < a0.size) = true := decide_eq_true (by omega)
      clear c5
      exact absurd H (by simp)
    · rw [if_neg c5] at H
      have c5b0 : decide (16384 < (a0.size : Int)) = false := decide_eq_false c5
      have c5b1 : decide (16384 < a0.size) = false := decide_eq_false (by omega)
      clear c5
      replace H := Option.bind_eq_some_iff.mp H
      obtain ⟨t115, A60, H⟩ := H
      replace H : (some (t115, a0, 0)) = some (r1, r2, r3) := H
      have A6 := Aside0.mk A60
      clear A60
      simp only [Option.some.injEq, Prod.mk.injEq] at H
      obtain ⟨rfl, rfl, rfl⟩ := H
      go_enter Try.func20, Try.ntmps20
      go_wp2_with (first | ((with_reducible refine gate_dst (N := 4) rfl ?_); refine box_event ?hg (N := 4) ?hd (cs := #[.int .i64 0, .string (⟨#[]⟩ : ByteArray)]) (t := 55) ?hr ?_; (case hd => rfl); (case hg => rfl); (case hr => (go_simp; done)); intro gb113 hg w7 hbox hb; have n0_ := Aside0.mk (below_step HB.out hb); have n1_ := Aside0.mk (hbox); have n2_ := Aside0.mk ((by rw [hg]; exact (below_size HB.out) : w.heap.size ≤ gb113)); have n3_ := Aside0.mk ((by rw [hg]; exact (below_size HB.out) : w.heap.size ≤ gb113)); clear HB; have HB := n0_; have BK113 := n1_; have GW113 := n2_; have GE113 := n3_; clear n0_ n1_ n2_ n3_; clear hb hbox hg) | ((with_reducible refine gate_callee (f := 33) rfl ?_); refine goesL_ (some 7) rfl rfl Try.func33 (by kernel_rfl) rfl #[.int .i64 a1] rfl (by ((simp only [List.map_toArray, List.map_cons, List.map_nil])); (rfl)) ?_; (with_reducible refine (seal_key_valid.calls a1 true _ A3.out).mono ?_); rintro e w' ⟨rfl, ⟨nd, rfl⟩⟩; refine ⟨_, rfl, ?_⟩; ((rw [drewN_self w7]; generalize hq_ : World.drewN w7 _ = w7; have n0_ : Aside0 (w7.heap[gb113]? = some (.cells #[.int .i64 0, .string (⟨#[]⟩ : ByteArray)] 55 (0, 0))) := ⟨by rw [← hq_]; exact (by (with_reducible repeat ((refine blk_drewN ?_ _))); exact BK113.out)⟩; have n1_ : Aside0 (Below w.heap.size w w7) := ⟨by rw [← hq_]; exact (by repeat ((with_reducible first | exact HB.out | apply pw_below_drewN)))⟩; clear BK113 HB hq_; have BK113 := n0_; have HB := n1_; clear n0_ n1_))) | ((with_reducible refine gate_callee (f := 34) rfl ?_); refine goesL_ (some 15) rfl rfl Try.func34 (by kernel_rfl) rfl #[.int .i64 a1] rfl (by ((simp only [List.map_toArray, List.map_cons, List.map_nil])); (rfl)) ?_; (with_reducible refine (seal_key_lock.calls a1 t115 _ A6.out).mono ?_); rintro e w' ⟨rfl, ⟨nd, rfl⟩⟩; refine ⟨_, rfl, ?_⟩; ((rw [drewN_self w7]; generalize hq_ : World.drewN w7 _ = w7; have n0_ : Aside0 (w7.heap[gb113]? = some (.cells #[.int .i64 0, .string (⟨#[]⟩ : ByteArray)] 55 (0, 0))) := ⟨by rw [← hq_]; exact (by (with_reducible repeat ((refine blk_drewN ?_ _))); exact BK113.out)⟩; have n1_ : Aside0 (Below w.heap.size w w7) := ⟨by rw [← hq_]; exact (by repeat ((with_reducible first | exact HB.out | apply pw_below_drewN)))⟩; clear BK113 HB hq_; have BK113 := n0_; have HB := n1_; clear n0_ n1_)); have hcz8_0 : w7.cell? ⟨gb113, 0, none⟩ = some (.int .i64 0) := (blk_cell BK113.out 0).trans rfl; have hcz8_1 : w7.cell? ⟨gb113, 1, none⟩ = some (.string (⟨#[]⟩ : ByteArray)) := (blk_cell BK113.out 1).trans rfl; have hfz8_0 := blk_frozen BK113.out 0; have hfz8_1 := blk_frozen BK113.out 1))
      refine bodyPost_ret (results_ct rfl _ _ gb113 55 #[.int .i64 t115, .string a0] (0, 0) _ rfl (by refine blk_put (cs := #[.int .i64 t115, .string (⟨#[]⟩ : ByteArray)]) ?_ 1 _ rfl; refine blk_put (cs := #[.int .i64 0, .string (⟨#[]⟩ : ByteArray)]) ?_ 0 _ rfl; exact BK113.out) Try.underlying55 rfl (by kernel_rfl)) rfl ?_
      exact ⟨by (rfl), by repeat ((with_reducible first | exact HB.out | refine below_set ?_ GE113.out))⟩
  · replace c4 := Bool.eq_false_iff.mpr c4
    subst c4
    have H1 : (none) = some (r1, r2, r3) := by rw [if_neg (show ¬ (false = true) by decide)] at H; exact H
    clear H
    have H := H1
    clear H1
    exact absurd H (by simp)

end Go.Proofs.Ythfddndmhjkeiaa.L
end
section
-- Printed for this claim by a small program of the session's own, drv.py, round the kit's print.py. Lean checks it.
namespace Go.Proofs.Ythfddndmhjkeiaa.L
open Go.RowKit Go.Proofs.YthfddndmhjkeiaaW.PrintWords Go.Proofs.YthfddndmhjkeiaaW.PrintLast Go.Proofs.YthfddndmhjkeiaaW.PrintMore
attribute [local go_sem] max2_int min2_int max_two min_two max_three min_three max_four min_four   -- for this text's walks alone
set_option linter.unusedVariables false
set_option linter.unusedSimpArgs false

/-! ### seal_keyOf: function 52 -/
def seal_keyOf.f (a0 : Int) : Option (Int × Bool) := if a0 > 0 then (if (Int.tmod a0 3) = 1 then ((seal_key_valid.f (wrap64 (Int.tdiv a0 3))).bind fun t116 => (some (wrap64 (Int.tdiv a0 3), t116))) else (some (wrap64 (Int.tdiv a0 3), false))) else (some (wrap64 (Int.tdiv a0 3), false))
set_option maxHeartbeats 8000000 in
set_option maxRecDepth 100000 in
theorem seal_keyOf.calls (a0 : Int) (r1 : Int) (r2 : Bool) (w : World) (h : seal_keyOf.f a0 = some (r1, r2)) :
    Calls Try.prog 52 #[.int .i64 a0] w fun e w' => e = .returned (.tuple #[.int .i64 r1, .bool r2]) ∧ Drawn0 w w' := by
  have H : (if a0 > 0 then (if (Int.tmod a0 3) = 1 then ((seal_key_valid.f (wrap64 (Int.tdiv a0 3))).bind fun t116 => (some (wrap64 (Int.tdiv a0 3), t116))) else (some (wrap64 (Int.tdiv a0 3), false))) else (some (wrap64 (Int.tdiv a0 3), false))) = some (r1, r2) := h
  clear h
  by_cases c2 : a0 > 0
  · rw [if_pos c2] at H
    have c2b0 : decide (0 < a0) = true := decide_eq_true c2
    clear c2
    by_cases c3 : (Int.tmod a0 3) = 1
    · rw [if_pos c3] at H
      have c3b0 : ((Int.tmod a0 3) == 1) = true := beq_iff_eq.mpr c3
      have c3b1 : ((Int.tmod a0 3) != 1) = false := bne_eq_false_iff_eq.mpr c3
      clear c3
      replace H := Option.bind_eq_some_iff.mp H
      obtain ⟨t116, A40, H⟩ := H
      replace H : (some (wrap64 (Int.tdiv a0 3), t116)) = some (r1, r2) := H
      have A4 := Aside0.mk A40
      clear A40
      simp only [Option.some.injEq, Prod.mk.injEq] at H
      obtain ⟨rfl, rfl⟩ := H
      go_enter Try.func52, Try.ntmps52
      go_wp2_with ((go_at_call 33; (with_reducible refine (seal_key_valid.calls (wrap64 (Int.tdiv a0 3)) t116 _ A4.out).mono ?_); rintro e w' ⟨rfl, ⟨nd, rfl⟩⟩))
      go_ret2
      exact ⟨by (rfl), by repeat (first | exact Drawn0.refl _ | apply Drawn0.step)⟩
    · rw [if_neg c3] at H
      have c3b0 : ((Int.tmod a0 3) == 1) = false := beq_eq_false_iff_ne.mpr c3
      have c3b1 : ((Int.tmod a0 3) != 1) = true := bne_iff_ne.mpr c3
      simp only [Option.some.injEq, Prod.mk.injEq] at H
      obtain ⟨rfl, rfl⟩ := H
      go_enter Try.func52, Try.ntmps52
      go_wp2
      go_ret2
      exact ⟨by (rfl), by repeat ((exact Drawn0.refl _))⟩
  · rw [if_neg c2] at H
    have c2b0 : decide (0 < a0) = false := decide_eq_false c2
    clear c2
    simp only [Option.some.injEq, Prod.mk.injEq] at H
    obtain ⟨rfl, rfl⟩ := H
    go_enter Try.func52, Try.ntmps52
    go_wp2
    go_ret2
    exact ⟨by (rfl), by repeat ((exact Drawn0.refl _))⟩

end Go.Proofs.Ythfddndmhjkeiaa.L
end
section
-- Printed for this claim by a small program of the session's own, drv.py, round the kit's print.py. Lean checks it.
namespace Go.Proofs.Ythfddndmhjkeiaa.L
open Go.RowKit Go.Proofs.YthfddndmhjkeiaaW.PrintWords Go.Proofs.YthfddndmhjkeiaaW.PrintLast Go.Proofs.YthfddndmhjkeiaaW.PrintMore
attribute [local go_sem] max2_int min2_int max_two min_two max_three min_three max_four min_four   -- for this text's walks alone
set_option linter.unusedVariables false
set_option linter.unusedSimpArgs false

/-! ### seal_valid: function 35 -/
def seal_valid.f (a0_0 : Int) (a0_1 : ByteArray) : Option (Bool) := (seal_keyOf.f a0_0).bind fun bt118 => (if bt118.2 = true then (some (decide ((a0_1.size : Int) ≤ 16384))) else (some false))
set_option maxHeartbeats 8000000 in
set_option maxRecDepth 100000 in
theorem seal_valid.calls (a0_0 : Int) (a0_1 : ByteArray) (r : Bool) (w : World) (h : seal_valid.f a0_0 a0_1 = some r) :
    Calls Try.prog 35 #[.agg #[.int .i64 a0_0, .string a0_1]] w fun e w' => e = .returned (.bool r) ∧ Below w.heap.size w w' := by
  have hu55 := Try.underlying55
  have HB := Aside0.mk (Below.refl w.heap.size w)
  have H : ((seal_keyOf.f a0_0).bind fun bt118 => (if bt118.2 = true then (some (decide ((a0_1.size : Int) ≤ 16384))) else (some false))) = some r := h
  clear h
  replace H := Option.bind_eq_some_iff.mp H
  obtain ⟨⟨t118, t119⟩, A20, H⟩ := H
  replace H : (if t119 = true then (some (decide ((a0_1.size : Int) ≤ 16384))) else (some false)) = some r := H
  have A2 := Aside0.mk A20
  clear A20
  by_cases c3 : t119 = true
  · subst c3
    have H1 : (some (decide ((a0_1.size : Int) ≤ 16384))) = some r := by rw [if_pos rfl] at H; exact H
    clear H
    have H := H1
    clear H1
    obtain rfl := Option.some.inj H
    go_enter Try.func35, Try.ntmps35
    go_wp2_with (first | ((with_reducible refine gate_dst (N := 1) rfl ?_); ((refine gate_guard (by rfl) ?_; dsimp only)); refine box_event ?hg (N := 1) ?hd (cs := #[.int .i64 a0_0, .string a0_1]) (t := 55) ?hr ?_; (case hd => rfl); (case hg => rfl); (case hr => (go_simp; done)); intro gb117 hg w4 hbox hb; have n0_ := Aside0.mk (below_step HB.out hb); have n1_ := Aside0.mk (hbox); have n2_ := Aside0.mk ((by rw [hg]; exact (below_size HB.out) : w.heap.size ≤ gb117)); have n3_ := Aside0.mk ((by rw [hg]; exact (below_size HB.out) : w.heap.size ≤ gb117)); clear HB; have HB := n0_; have BK117 := n1_; have GW117 := n2_; have GE117 := n3_; clear n0_ n1_ n2_ n3_; clear hb hbox hg; have hcz5_0 : w4.cell? ⟨gb117, 0, none⟩ = some (.int .i64 a0_0) := (blk_cell BK117.out 0).trans rfl; have hcz5_1 : w4.cell? ⟨gb117, 1, none⟩ = some (.string a0_1) := (blk_cell BK117.out 1).trans rfl; have hfz5_0 := blk_frozen BK117.out 0; have hfz5_1 := blk_frozen BK117.out 1) | ((with_reducible refine gate_callee (f := 52) rfl ?_); refine goesL_ (some 8) rfl rfl Try.func52 (by kernel_rfl) rfl #[.int .i64 a0_0] rfl (by ((simp only [List.map_toArray, List.map_cons, List.map_nil])); (rfl)) ?_; (with_reducible refine (seal_keyOf.calls a0_0 t118 true _ A2.out).mono ?_); rintro e w' ⟨rfl, ⟨nd, rfl⟩⟩; refine ⟨_, rfl, ?_⟩))
    go_ret
    exact ⟨by (rfl), by repeat ((with_reducible first | exact HB.out | apply pw_below_drewN))⟩
  · replace c3 := Bool.eq_false_iff.mpr c3
    subst c3
    have H1 : (some false) = some r := by rw [if_neg (show ¬ (false = true) by decide)] at H; exact H
    clear H
    have H := H1
    clear H1
    obtain rfl := Option.some.inj H
    go_enter Try.func35, Try.ntmps35
    go_wp2_with (first | ((with_reducible refine gate_dst (N := 1) rfl ?_); ((refine gate_guard (by rfl) ?_; dsimp only)); refine box_event ?hg (N := 1) ?hd (cs := #[.int .i64 a0_0, .string a0_1]) (t := 55) ?hr ?_; (case hd => rfl); (case hg => rfl); (case hr => (go_simp; done)); intro gb117 hg w6 hbox hb; have n0_ := Aside0.mk (below_step HB.out hb); have n1_ := Aside0.mk (hbox); have n2_ := Aside0.mk ((by rw [hg]; exact (below_size HB.out) : w.heap.size ≤ gb117)); have n3_ := Aside0.mk ((by rw [hg]; exact (below_size HB.out) : w.heap.size ≤ gb117)); clear HB; have HB := n0_; have BK117 := n1_; have GW117 := n2_; have GE117 := n3_; clear n0_ n1_ n2_ n3_; clear hb hbox hg; have hcz7_0 : w6.cell? ⟨gb117, 0, none⟩ = some (.int .i64 a0_0) := (blk_cell BK117.out 0).trans rfl; have hcz7_1 : w6.cell? ⟨gb117, 1, none⟩ = some (.string a0_1) := (blk_cell BK117.out 1).trans rfl; have hfz7_0 := blk_frozen BK117.out 0; have hfz7_1 := blk_frozen BK117.out 1) | ((with_reducible refine gate_callee (f := 52) rfl ?_); refine goesL_ (some 8) rfl rfl Try.func52 (by kernel_rfl) rfl #[.int .i64 a0_0] rfl (by ((simp only [List.map_toArray, List.map_cons, List.map_nil])); (rfl)) ?_; (with_reducible refine (seal_keyOf.calls a0_0 t118 false _ A2.out).mono ?_); rintro e w' ⟨rfl, ⟨nd, rfl⟩⟩; refine ⟨_, rfl, ?_⟩))
    go_ret
    exact ⟨by (rfl), by repeat ((with_reducible first | exact HB.out | apply pw_below_drewN))⟩

end Go.Proofs.Ythfddndmhjkeiaa.L
end
section
/- A row of bytes that a conversion of a string has made: read, stored into, made a string again. -/
namespace Go.Proofs.Ythfddndmhjkeiaa.L
open Go.RowKit Go.Proofs.YthfddndmhjkeiaaW.PrintWords Go.Proofs.YthfddndmhjkeiaaW.PrintLast Go.Proofs.YthfddndmhjkeiaaW.PrintMore
set_option linter.unusedVariables false
set_option linter.unusedSimpArgs false
/-- The bytes xs lie ahead in block g, which a conversion made. -/
def BRow (w : World) (g c : Nat) (xs : List Int) : Prop := ∃ cur : Array Value, w.heap[g]? = some (.cells cur 5 (c, c + 1)) ∧ cur.size = c ∧ xs.length ≤ c ∧ xs.length ≤ 1000000 ∧ ∀ j, j < xs.length → cur[j]? = some (.int .u8 (xs.getD j 0))
theorem conv_bytes (W : World) (s : ByteArray) (hs : s.size ≤ 1000000) : ∃ c w', (convert 9 49 (.string s)).run Try.prog W = .ok (.slice (some ⟨W.heap.size, 0, none⟩) s.size c) w' ∧ BRow w' W.heap.size c (bytesOf s) ∧ Below W.heap.size W w' ∧ s.size ≤ c := by
  have hge := grownCap_ge W s.size 0 5
  have hsz : (Lib.bytesCells W 5 s).size = grownCap W s.size 0 5 := by
    unfold Lib.bytesCells
    rw [Array.size_append, Array.size_map, Array.size_replicate]
    show s.size + _ = _
    omega
  refine ⟨_, _, print_bytes (P := Try.prog) 9 49 5 Try.underlying9 Try.underlying49 Try.underlying5 s W, ⟨Lib.bytesCells W 5 s, ?_, hsz, ?_, ?_, fun j hj => ?_⟩, bytes_below (Below.refl _ _) (Nat.le_refl _) 5 s, hge⟩
  · have h := Lib.bytesWorld_at_new W 5 s
    rw [hsz] at h
    exact h
  · rw [bytesOf_length]; exact hge
  · rw [bytesOf_length]; exact hs
  · rw [bytesOf_length] at hj
    have h' : j < s.data.toList.length := by rw [data_length]; exact hj
    have h := Lib.bytesWorld_cell W 5 s j hj
    rw [cell_of_row _ _ j _ 5 _ (Lib.bytesWorld_at_new W 5 s)] at h
    rw [h]
    simp [bytesOf, List.getD_eq_getElem?_getD, List.getElem?_eq_getElem h']
theorem BRow.lt {w : World} {g c : Nat} {xs : List Int} (h : BRow w g c xs) : g < w.heap.size := by
  obtain ⟨cur, h1, _⟩ := h
  exact (Array.getElem?_eq_some_iff.1 h1).1
theorem BRow.cell {w : World} {g c : Nat} {xs : List Int} (h : BRow w g c xs) {j : Nat} (hj : j < xs.length) : w.cell? ⟨g, j, none⟩ = some (.int .u8 (xs.getD j 0)) := by
  obtain ⟨cur, h1, h2, h3, h4, h5⟩ := h
  rw [cell_of_row w g j cur 5 _ h1]
  exact h5 j hj
theorem BRow.frozen {w : World} {g c : Nat} {xs : List Int} (h : BRow w g c xs) {j : Nat} (hj : j < xs.length) : w.frozen? ⟨g, j, none⟩ = false := by
  obtain ⟨cur, h1, h2, h3, h4, h5⟩ := h
  simp only [World.frozen?, h1, Bool.and_eq_false_iff, decide_eq_false_iff_not]
  left
  omega
theorem BRow.set {w : World} {g c : Nat} {xs : List Int} (h : BRow w g c xs) (j : Nat) (v : Int) : BRow (w.setCell ⟨g, j, none⟩ (.int .u8 v)) g c (xs.set j v) := by
  obtain ⟨cur, h1, h2, h3, h4, h5⟩ := h
  refine ⟨cur.setIfInBounds j (.int .u8 v), by simp [World.setCell, Array.getElem?_modify, h1], by rw [Array.size_setIfInBounds, h2], by rw [List.length_set]; exact h3, by rw [List.length_set]; exact h4, fun t ht => ?_⟩
  rw [List.length_set] at ht
  by_cases e : j = t
  · subst e
    rw [Array.getElem?_setIfInBounds_self_of_lt (by omega), List.getD_eq_getElem?_getD, List.getElem?_set_self ht]
    rfl
  · rw [Array.getElem?_setIfInBounds_ne e, List.getD_eq_getElem?_getD, List.getElem?_set_ne e, ← List.getD_eq_getElem?_getD]
    exact h5 t ht
theorem BRow.block {w w' : World} {g c : Nat} {xs : List Int} (h : BRow w g c xs) (he : w'.heap[g]? = w.heap[g]?) : BRow w' g c xs := by
  obtain ⟨cur, h1, h2⟩ := h
  exact ⟨cur, he.trans h1, h2⟩
theorem BRow.below {w w' : World} {g c : Nat} {xs : List Int} (h : BRow w g c xs) (hb : Below w.heap.size w w') : BRow w' g c xs := h.block (hb.block g h.lt)
theorem BRow.alloc {w : World} {g c : Nat} {xs : List Int} (h : BRow w g c xs) (o : Obj) : BRow (w.alloc o) g c xs := h.below (below_alloc (Below.refl _ _) o)
theorem BRow.reads {w : World} {g c : Nat} {xs : List Int} (h : BRow w g c xs) : ReadsInt w .u8 (some ⟨g, 0, none⟩) xs.length xs :=
  ⟨rfl, by obtain ⟨_, _, _, _, h4, _⟩ := h; omega, fun _ => ⟨_, rfl, fun j hj => by rw [add_plain]; exact h.cell hj⟩⟩
theorem BRow.string {w : World} {g c : Nat} {xs : List Int} (h : BRow w g c xs) : (convert 49 9 (.slice (some ⟨g, 0, none⟩) xs.length c)).run Try.prog w = .ok (.string (strOfNums xs)) w :=
  string_of_reads Try.underlying49 Try.underlying5 Try.underlying9 h.reads
end Go.Proofs.Ythfddndmhjkeiaa.L
end
section
/- Rows of bytes that a conversion or an append has made: one byte appended. -/
namespace Go.Proofs.Ythfddndmhjkeiaa.L
open Go.RowKit Go.Proofs.YthfddndmhjkeiaaW.PrintWords Go.Proofs.YthfddndmhjkeiaaW.PrintLast Go.Proofs.YthfddndmhjkeiaaW.PrintMore
set_option linter.unusedVariables false
set_option linter.unusedSimpArgs false
/-- The bytes xs lie ahead in block g; its mark is none, or that of a conversion. -/
def BRowM (w : World) (g c : Nat) (xs : List Int) : Prop := ∃ (cur : Array Value) (m : Nat × Nat), w.heap[g]? = some (.cells cur 5 m) ∧ (m = (0, 0) ∨ m = (c, c + 1)) ∧ cur.size = c ∧ xs.length ≤ c ∧ ∀ j, j < xs.length → cur[j]? = some (.int .u8 (xs.getD j 0))
theorem BRow.toM {w : World} {g c : Nat} {xs : List Int} (h : BRow w g c xs) : BRowM w g c xs := by
  obtain ⟨cur, h1, h2, h3, h4, h5⟩ := h
  exact ⟨cur, _, h1, .inr rfl, h2, h3, h5⟩
theorem BRowM.lt {w : World} {g c : Nat} {xs : List Int} (h : BRowM w g c xs) : g < w.heap.size := by
  obtain ⟨cur, m, h1, _⟩ := h
  exact (Array.getElem?_eq_some_iff.1 h1).1
theorem BRowM.block {w w' : World} {g c : Nat} {xs : List Int} (h : BRowM w g c xs) (he : w'.heap[g]? = w.heap[g]?) : BRowM w' g c xs := by
  obtain ⟨cur, m, h1, h2⟩ := h
  exact ⟨cur, m, he.trans h1, h2⟩
theorem BRowM.cell {w : World} {g c : Nat} {xs : List Int} (h : BRowM w g c xs) {j : Nat} (hj : j < xs.length) : w.cell? ⟨g, j, none⟩ = some (.int .u8 (xs.getD j 0)) := by
  obtain ⟨cur, m, h1, h2, h3, h4, h5⟩ := h
  rw [cell_of_row w g j cur 5 _ h1]
  exact h5 j hj
theorem BRowM.reads {w : World} {g c : Nat} {xs : List Int} (h : BRowM w g c xs) (hl : xs.length ≤ 9223372036854775807) : ReadsInt w .u8 (some ⟨g, 0, none⟩) xs.length xs :=
  ⟨rfl, hl, fun _ => ⟨_, rfl, fun j hj => by rw [add_plain]; exact h.cell hj⟩⟩
theorem BRowM.string {w : World} {g c : Nat} {xs : List Int} (h : BRowM w g c xs) (hl : xs.length ≤ 9223372036854775807) : (convert 49 9 (.slice (some ⟨g, 0, none⟩) xs.length c)).run Try.prog w = .ok (.string (strOfNums xs)) w :=
  string_of_reads Try.underlying49 Try.underlying5 Try.underlying9 (h.reads hl)
/-- One byte appended: in place, or in a new row. -/
theorem append1 {w : World} {g c : Nat} {xs : List Int} (h : BRowM w g c xs) (hl : xs.length ≤ 1000000) {a : Addr} {v : Int} (ha : w.cell? (a.add 0) = some (.int .u8 v)) :
    ∃ g' c' w', (Builtin.append_ #[49, 49] 49 #[.slice (some ⟨g, 0, none⟩) xs.length c, .slice (some a) 1 1]).run Try.prog w = .ok (.slice (some ⟨g', 0, none⟩) (xs ++ [v]).length c') w' ∧ BRowM w' g' c' (xs ++ [v]) ∧ w.grownBy w' (some g) ∧ (g' = g ∨ w.heap.size ≤ g') := by
  obtain ⟨i0, hi, hzz⟩ := Option.map_eq_some_iff.1 info5
  simp only [Prod.mk.injEq] at hzz
  obtain ⟨hz0, hz1, hz2⟩ := hzz
  have hnews : ∀ j u, [Value.int .u8 v][j]? = some u → w.cell? (a.add j) = some u := by
    intro j u hj
    match j, hj with
    | 0, hj =>
      simp only [List.getElem?_cons_zero, Option.some.injEq] at hj
      subst hj
      exact ha
    | j + 1, hj => simp at hj
  obtain ⟨cur, m, h1, h2, h3, h4, h5⟩ := h
  have hlen : (xs ++ [v]).length = xs.length + 1 := by simp
  by_cases hroom : xs.length < c
  · have hcell : w.cell? ⟨g, xs.length, none⟩ = some cur[xs.length] := by simp [World.cell?, h1, h3, hroom]
    have hfro : w.frozen? ⟨g, xs.length, none⟩ = false := by
      rcases h2 with rfl | rfl
      · simp [World.frozen?, h1]
      · simp only [World.frozen?, h1, Bool.and_eq_false_iff, decide_eq_false_iff_not]
        left
        omega
    have hst : (store ((⟨g, 0, none⟩ : Addr).add xs.length) (.int .u8 v)).run Try.prog w = .ok () (w.setCell ⟨g, xs.length, none⟩ (.int .u8 v)) := by
      rw [add_plain, run_store Try.prog w _ _ _ rfl, hcell]
      simp [hfro]
    have hf := run_firstCells_some (P := Try.prog) w i0.size 1 a 1 1 [.int .u8 v] (by rw [hz1]; rfl) hnews
    refine ⟨g, c, w.setCell ⟨g, xs.length, none⟩ (.int .u8 v), ?_, ?_, ?_, .inl rfl⟩
    · rw [hlen]
      have hr1 : xs.length + 1 ≤ c := by omega
      rw [hz1] at hf
      simp only [storeCells, Sem.run_bind, add_plain] at hst
      have h00 : (⟨g, xs.length, none⟩ : Addr).add 0 = ⟨g, xs.length, none⟩ := by unfold Addr.add; split <;> simp_all
      simp [Builtin.append_, run_underlying Try.underlying49, sizeOf, typeInfo, hi, hz1, Builtin.lenOf, hr1, hf, storeCells, Sem.run_bind, add_plain, Result.andThen]
      rw [h00, hst]
    · refine ⟨cur.setIfInBounds xs.length (.int .u8 v), m, by simp [World.setCell, Array.getElem?_modify, h1], h2, by rw [Array.size_setIfInBounds, h3], by omega, fun j hj => ?_⟩
      rw [hlen] at hj
      by_cases e : xs.length = j
      · subst e
        rw [Array.getElem?_setIfInBounds_self_of_lt (by omega), List.getD_eq_getElem?_getD, List.getElem?_append_right (Nat.le_refl _)]
        simp
      · rw [Array.getElem?_setIfInBounds_ne e, h5 j (by omega), List.getD_eq_getElem?_getD, List.getD_eq_getElem?_getD, List.getElem?_append_left (by omega)]
    · exact ⟨rfl, rfl, rfl, by simp [World.setCell], fun k hk hne => by
        refine Below.heap_setCell w ⟨g, xs.length, none⟩ _ k ?_
        intro e
        exact hne (by rw [e])⟩
  · have holds : ∀ j u, (xs.map (Value.int .u8))[j]? = some u → w.cell? ((⟨g, 0, none⟩ : Addr).add j) = some u := by
      intro j u hj
      have hjl := (List.getElem?_eq_some_iff.1 hj).1
      rw [List.length_map] at hjl
      rw [add_plain, cell_of_row w g j cur 5 _ h1, h5 j hjl, ← hj, List.getElem?_map, List.getD_eq_getElem?_getD, List.getElem?_eq_getElem hjl]
      rfl
    have hr := run_append_grow (P := Try.prog) w 49 49 5 i0 (.int .u8 0) Try.underlying49 hi hz0 ⟨g, 0, none⟩ xs.length c (xs.map (Value.int .u8)) (by rw [List.length_map, hz1]; omega) holds a 1 1 [.int .u8 v] (by rw [hz1]; rfl) hnews (by omega) (by omega) (growslice_fits (by omega) (by rw [hz2]; omega))
    have hge := grownCap_ge w (xs.length + 1) c 5
    have hzc : (Value.int IntKind.u8 0).cells.size = 1 := rfl
    refine ⟨w.heap.size, _, _, by rw [hlen]; exact hr, ⟨_, (0, 0), heap_alloc_new w.drew _, .inl rfl, ?_, by omega, fun j hj => ?_⟩, ⟨rfl, rfl, rfl, by simp, fun k hk _ => heap_alloc_old w.drew _ hk⟩, .inr (Nat.le_refl _)⟩
    · simp only [Array.size_append, List.size_toArray, size_zeroCells, hzc, List.length_map, List.length_singleton]
      omega
    · rw [hlen] at hj
      rw [Array.getElem?_append_left (by simp; omega), List.append_toArray, List.getElem?_toArray]
      by_cases e : j < xs.length
      · rw [List.getElem?_append_left (by rw [List.length_map]; exact e), List.getElem?_map, List.getElem?_eq_getElem e, List.getD_eq_getElem?_getD, List.getElem?_append_left e, List.getElem?_eq_getElem e]
        rfl
      · obtain rfl : j = xs.length := by omega
        rw [List.getElem?_append_right (by rw [List.length_map]; exact Nat.le_refl _), List.length_map, List.getD_eq_getElem?_getD, List.getElem?_append_right (Nat.le_refl _)]
        simp
end Go.Proofs.Ythfddndmhjkeiaa.L
end
section
/- A loop over a function whose own captured box turns between two rounds, and whose body is never left but at its end. -/
namespace Go.Proofs.Ythfddndmhjkeiaa.L
open Go.RowKit
set_option linter.unusedVariables false
/-- What the function that yields is told: J holds between two rounds, a round keeps the function's own box, and J does not look at that box. -/
def YieldsBox {α : Type} (F : Fence) (n : Nat) (P : Program) (g : Nat) (lb : Array Value) (encs : α → Array Value) (Bu : Nat) (S : List α → Prop) (N : Nat) (w : World) : Prop :=
  ∀ (l : Nat) (J : List α → World → Prop) (W : World), W.heap[Bu]? = w.heap[Bu]? →
    (∀ pre A v, J pre A → J pre (A.setCell ⟨Bu, 0, none⟩ v)) →
    (∀ pre x A, J pre A → pre.length < N → YieldAt F (n - 1) P l (encs x) A fun e A' => e = .returned (.bool true) ∧ J (pre ++ [x]) A' ∧ A'.heap[Bu]? = A.heap[Bu]?) →
    J [] W →
    CallsIn F n P g (#[.func (.yield l) #[] #[]] ++ lb) W fun e W' => (∃ v, e = .returned v) ∧ ∃ xs, S xs ∧ J xs W'
def boxPost {α : Type} (B Bu : Nat) (I : List α → World → Prop) (xs : List α) (W : World) : Exit → Act → World → Prop
  | .normal, _, W' => KeepsFrom B W W' ∧ W'.heap[Bu]? = W.heap[Bu]? ∧ I xs W'
  | _, _, _ => False
theorem wpIn_rangeFunc_box {F : Fence} {n : Nat} {P : Program} {α : Type} {g : Operand} {ps : Array Tmp} {assign body : Code} {Q : Exit → Act → World → Prop} {a : Act} {w : World}
    (hro : F.round = none) (h1 : 1 ≤ n) {gf : Nat} {lb : Array Value} (hg : a.eval g = .func (.func gf) #[] lb) (hFg : F.fn gf) (eg : ∀ args w, (callFunc gf args).run P w = .ok (.enter gf args) w)
    {encs : α → Array Value} {Bu : Nat} (hBu : Bu < w.heap.size) {S : List α → Prop} {N : Nat} (hseq : YieldsBox F (n - 1) P gf lb encs Bu S N w) (hps : ∀ x, (encs x).size = ps.size)
    (I : List α → World → Prop) (hI : OwnFrom w.heap.size I) (hIB : ∀ pre A v, I pre A → I pre (A.setCell ⟨Bu, 0, none⟩ v)) (h0 : I [] w) (a₁ : α → Act)
    (hassign : ∀ (l : Nat) (x : α) (W : World) (K : Act → World → Prop), K (a₁ x) W →
      assign.wpIn (F.inRound l) (n - 1 - 1) P (Exit.then K (fun _ _ _ => False)) { tmps := (ps.zip (encs x)).foldl (fun t (p, v) => t.setIfInBounds p v) a.tmps, defers := [] } W)
    (hbody : ∀ (l : Nat) (pre : List α) (x : α) (W : World), I pre W → pre.length < N → body.wpIn (F.inRound l) (n - 1 - 1) P (boxPost w.heap.size Bu I (pre ++ [x]) W) (a₁ x) W)
    (hdone : ∀ (D : Nat) (xs : List α) (W : World), w.heap.size ≤ D → S xs → I xs W → W.heap[D]? = some (.deferred (some [])) → Q .normal { a with defers := { target := .collected D, args := #[] } :: a.defers } W) :
    (Code.rangeFunc g ps assign body).wpIn F n P Q a w := by
  refine wpIn_rangeFunc ?_
  intro fn hfn
  rw [hro]
  obtain ⟨rec, hrec⟩ : ∃ rec : LoopState → Option Code → Loop, rec = fun st pe => { state := st, pending := pe, fn, tmps := a.tmps, params := ps, assign, body, defers := w.heap.size } := ⟨_, rfl⟩
  obtain ⟨W1, hW1⟩ : ∃ W1, (w.alloc (.deferred (some []))).alloc (.loop (rec .ready none)) = W1 := ⟨_, rfl⟩
  have hL1 : W1.heap[w.heap.size + 1]? = some (.loop (rec .ready none)) := by
    rw [← hW1]; have := World.alloc_heap_new (w.alloc (.deferred (some []))) (.loop (rec .ready none)); rwa [World.size_alloc] at this
  have hK1 : W1.heap[w.heap.size]? = some (.deferred (some [])) := by
    rw [← hW1]; exact (Below.heap_alloc _ _ _ (by simp)).trans (World.alloc_heap_new w _)
  have hI1 : I [] W1 := by rw [← hW1]; exact hI.alloc _ (hI.alloc _ h0)
  have hU1 : W1.heap[Bu]? = w.heap[Bu]? := by
    rw [← hW1]; exact (Below.heap_alloc _ _ _ (by simp; omega)).trans (Below.heap_alloc _ _ _ hBu)
  refine ⟨w.heap.size + 1, [{ target := .collected w.heap.size, args := #[] }], W1, { target := .fn (.func gf) lb, args := #[.func (.yield (w.heap.size + 1)) #[] #[]] }, W1, gf,
    #[.func (.yield (w.heap.size + 1)) #[] #[]] ++ lb, W1, ?_, ?_, ?_, ?_, fun _ => h1, ?_⟩
  · rw [← hW1, hrec]; exact run_enterLoop_outer _ _ _ _ _
  · simp only [resolve, hg]
    simp [go_sem]
  · intro f' hf'; simp [Target.leads] at hf'; subst hf'; exact hFg
  · simp [invoke, go_sem, eg]
  · have hset : ∀ (A : World) (v : Value) (k : Nat), Bu ≠ k → (A.setCell ⟨Bu, 0, none⟩ v).heap[k]? = A.heap[k]? := fun A v k hk => Below.heap_setCell A ⟨Bu, 0, none⟩ v k (fun e => hk (by first | exact e | exact e.symm))
    refine (hseq (w.heap.size + 1)
      (fun pre W => I pre W ∧ W.heap[w.heap.size + 1]? = some (.loop (rec .ready none)) ∧ W.heap[w.heap.size]? = some (.deferred (some [])))
      W1 hU1
      (fun pre A v hs => ⟨hIB pre A v hs.1, (hset A v _ (by omega)).trans hs.2.1, (hset A v _ (by omega)).trans hs.2.2⟩)
      ?_ ⟨hI1, hL1, hK1⟩).mono ?_
    · rintro pre x W ⟨hi, hl, hk⟩ hlen
      have hlt : w.heap.size + 1 < W.heap.size := (Array.getElem?_eq_some_iff.1 hl).1
      have hy := run_yield (P := P) (args := encs x) hl (by rw [hrec]; exact hps x)
      rw [hrec] at hy
      refine ⟨fn, _, assign, body, hy, roundIn_of_wpIn hfn (hassign _ x W _ ⟨_, run_beginRound hl (by rw [hrec]), ?_⟩)⟩
      have hl2 : (W.putObj (w.heap.size + 1) (.loop { rec .ready none with state := .busy })).heap[w.heap.size + 1]? = some (.loop { rec .ready none with state := .busy }) := World.putObj_heap_same hlt
      have hk2 : (W.putObj (w.heap.size + 1) (.loop { rec .ready none with state := .busy })).heap[w.heap.size]? = some (.deferred (some [])) := (World.putObj_heap_other (by omega)).trans hk
      have hu2 : (W.putObj (w.heap.size + 1) (.loop { rec .ready none with state := .busy })).heap[Bu]? = W.heap[Bu]? := World.putObj_heap_other (by omega)
      refine wpIn_mono (hbody _ pre x _ (hI.putObj _ hi (by omega) hl rfl) hlen) ?_
      rintro e a3 W3 hp
      cases e with
      | normal =>
        obtain ⟨hk3, hu3, hi3⟩ := hp
        have hl3 := hk3.same _ _ (by omega) hl2 rfl
        have hr := run_endRound (P := P) none hl3
        rw [hrec] at hr
        refine ⟨_, _, hr, rfl, ⟨hI.putObj _ hi3 (by omega) hl3 rfl, ?_, ?_⟩, ?_⟩
        · rw [hrec]; exact World.putObj_heap_same (Array.getElem?_eq_some_iff.1 hl3).1
        · exact (World.putObj_heap_other (by omega)).trans (hk3.same _ _ (Nat.le_refl _) hk2 rfl)
        · exact (World.putObj_heap_other (by omega)).trans (hu3.trans hu2)
      | ret => exact hp.elim
      | exit id => exact hp.elim
      | goto t => exact hp.elim
      | panic ch => exact hp.elim
      | outgrown => exact hp.elim
    · rintro e W2 ⟨⟨v, rfl⟩, xs, hS, hi, hl, hk⟩
      exact ⟨none, _, by have := run_endLoop (P := P) hl (by rw [hrec]; simp); rw [hrec] at this; exact this, hdone _ xs _ (Nat.le_refl _) hS (hI.putObj _ hi (by omega) hl rfl) ((World.putObj_heap_other (by omega)).trans hk)⟩
end Go.Proofs.Ythfddndmhjkeiaa.L
end
section
/- wire.groups and the function that it hands back. -/
namespace Go.Proofs.Ythfddndmhjkeiaa.L
open Go.RowKit Go.Shelf Go.Proofs.YthfddndmhjkeiaaW.PrintWords Go.Proofs.YthfddndmhjkeiaaW.PrintLast Go.Proofs.YthfddndmhjkeiaaW.PrintMore
set_option linter.unusedVariables false
set_option linter.unusedSimpArgs false
attribute [local go_sem] Oper.semAt_some
def grp : Nat → Int → List Int
  | 0, u => [u]
  | k + 1, u => if 127 < u then bits BinOp.or IntKind.u8 (u % 256) 128 :: grp k (u / 128) else [u]
theorem groups_in (F : Fence) (n : Nat) (h6 : F.fn 89) (hro : F.round = none) (hn : 1 ≤ n) (l Bu : Nat) (u : Int) (hu0 : 0 ≤ u) (hu1 : u < 18446744073709551616) (J : List Int → World → Prop)
    (hJB : ∀ pre A v, J pre A → J pre (A.setCell ⟨Bu, 0, none⟩ v))
    (hY : ∀ pre x A, J pre A → pre.length < 10 → YieldAt F (n - 1) Try.prog l #[.int .u8 x] A fun e A' => e = .returned (.bool true) ∧ J (pre ++ [x]) A' ∧ A'.heap[Bu]? = A.heap[Bu]?)
    (W : World) (hBu : Boxed W Bu 124 (.int .u64 u)) (h0 : J [] W) :
    CallsIn F n Try.prog 89 #[.func (.yield l) #[] #[], .pointer (some ⟨Bu, 0, none⟩)] W fun e W' => (∃ v, e = .returned v) ∧ ∃ xs, xs = grp 9 u ∧ J xs W' := by
  refine callsIn_of_wp Try.func89 rfl h6 ?_ hro
  simp only [Try.ntmps89, List.size_toArray, List.length_cons, List.length_nil, Nat.reduceAdd, Nat.reduceSub, Array.replicate_succ, Array.replicate_zero, List.push_toArray, List.append_toArray, List.nil_append, List.cons_append]
  gi_wp2
  gi_loopw [] (fun wr => ∃ (pre : List Int) (k : Nat) (v : Int), pre.length + k = 9 ∧ pre ++ grp k v = grp 9 u ∧ 0 ≤ v ∧ v < 128 ^ (k + 1) ∧ v < 18446744073709551616 ∧ Boxed wr Bu 124 (.int .u64 v) ∧ J pre wr)
    (fun wr => match wr.cell? ⟨Bu, 0, none⟩ with | some (.int _ v) => v.toNat | _ => 0)
  case atStart => exact ⟨[], 9, u, rfl, rfl, hu0, Int.lt_of_lt_of_le hu1 (by decide), hu1, hBu, h0⟩
  case round =>
    obtain ⟨pre, k, v, hk, hg, hv0, hvk, hv1, hB, hJ⟩ := hrel
    have hc := hB.cell
    have hf := hB.frozen
    have hpl : pre.length < 10 := by omega
    obtain ⟨fn, tmps, assign, body, hy, hR⟩ := hY pre (bits BinOp.or IntKind.u8 (v % 256) 128) wr hJ hpl
    obtain ⟨fn', tmps', assign', body', hy', hR'⟩ := hY pre v wr hJ hpl
    gi_wp2
    · refine hR.mono ?_
      rintro e W3 ⟨rfl, hJ3, hk3⟩
      have hB3 : Boxed W3 Bu 124 (.int .u64 v) := hk3.trans hB
      have hc3 := hB3.cell
      have hf3 := hB3.frozen
      gi_wp2
      have hlt : 127 < v := by assumption
      have hs3 := hB3.set (.int .u64 (v / 128))
      refine ⟨?_, by rw [hs3.cell, hc]; show (v / 128).toNat < v.toNat; omega⟩
      cases k with
      | zero => exfalso; have : v < 128 := by simpa using hvk
                omega
      | succ k =>
        refine ⟨pre ++ [bits BinOp.or IntKind.u8 (v % 256) 128], k, v / 128, by simp; omega, ?_, by omega, ?_, by omega, hs3, hJB _ _ _ hJ3⟩
        · rw [← hg, grp, if_pos hlt, List.append_assoc]; rfl
        · have h128 : (128 : Int) ^ (k + 1 + 1) = 128 ^ (k + 1) * 128 := Int.pow_succ _ _
          rw [h128] at hvk
          exact Int.ediv_lt_of_lt_mul (by decide) hvk
    · have hle : v ≤ 127 := by assumption
      refine hR'.mono ?_
      rintro e W3 ⟨rfl, hJ3, hk3⟩
      gi_wp2
      have hgv : grp k v = [v] := by cases k with
        | zero => rfl
        | succ k => rw [grp, if_neg (by omega)]
      rw [hgv] at hg
      trace_state
      go_end0
      exact ⟨⟨_, rfl⟩, _, hg, hJ3⟩
end Go.Proofs.Ythfddndmhjkeiaa.L
end
section
namespace Go.Proofs.Ythfddndmhjkeiaa.L
open Go.RowKit Go.Shelf Go.Proofs.YthfddndmhjkeiaaW.PrintWords Go.Proofs.YthfddndmhjkeiaaW.PrintLast Go.Proofs.YthfddndmhjkeiaaW.PrintMore
set_option linter.unusedVariables false
set_option linter.unusedSimpArgs false
attribute [local go_sem] Oper.semAt_some
theorem groups_made (F : Fence) (n : Nat) (h5 : F.fn 68) (hro : F.round = none) (u : Int) (w : World) :
    CallsIn F n Try.prog 68 #[.int .u64 u] w fun e w' => e = .returned (.func (.func 89) #[] #[.pointer (some ⟨w.heap.size, 0, none⟩)]) ∧ w' = w.alloc (.cells #[.int .u64 u] 124) := by
  refine callsIn_of_wp Try.func68 rfl h5 ?_ hro
  simp only [Try.ntmps68, List.size_toArray, List.length_cons, List.length_nil, Nat.reduceAdd, Nat.reduceSub, Array.replicate_succ, Array.replicate_zero, List.push_toArray, List.append_toArray, List.nil_append, List.cons_append]
  gi_wp2
  go_ret
  exact ⟨rfl, rfl⟩
def zig (v : Int) : Int := bits BinOp.xor IntKind.u64 (IntKind.u64.wrap (IntKind.u64.wrap v * 2)) (IntKind.u64.wrap (v / 9223372036854775808))
theorem zig_lo (v : Int) : 0 ≤ zig v := bits_lo_u64 _ _ _
theorem zig_hi (v : Int) : zig v < 18446744073709551616 := by have := bits_hi_u64 .xor (IntKind.u64.wrap (IntKind.u64.wrap v * 2)) (IntKind.u64.wrap (v / 9223372036854775808)); unfold zig; omega
theorem wpListIn_append1 {F : Fence} {n : Nat} (w : World) {ops : Array Oper} {rest : List Oper} {o : Oper} {a : Act} {Q : Exit → Act → World → Prop}
    (hg : o.guard = none) (s x : Operand) (hop : o.op = Op.call { callee := Callee.builtin Builtin.append, args := #[s, x], argTypes := #[49, 49] }) (hty : o.type = 49)
    {g c : Nat} {xs : List Int} (hrow : BRowM w g c xs) (hl : xs.length ≤ 1000000) {k : Nat} (hk : k = xs.length) (hs : a.eval s = .slice (some ⟨g, 0, none⟩) k c) {ad : Addr} {v : Int} (hx : a.eval x = .slice (some ad) 1 1) (ha : w.cell? (ad.add 0) = some (.int .u8 v))
    (hK : ∀ g' c' w', BRowM w' g' c' (xs ++ [v]) → w.grownBy w' (some g) → (g' = g ∨ w.heap.size ≤ g') → wpListIn F n Try.prog ops Q rest (a.put o.dst (.slice (some ⟨g', 0, none⟩) (k + 1) c')) w') :
    wpListIn F n Try.prog ops Q (o :: rest) a w := by
  refine wpListIn_plain hg fun K hK' => ?_
  subst hk
  obtain ⟨g', c', w', hrun, r1, r2, r3⟩ := append1 hrow hl ha
  rw [show (xs ++ [v]).length = xs.length + 1 from by simp] at hrun
  unfold Oper.wpIn
  refine ⟨?_, ?_⟩
  · simp [Oper.about, hop, resolve, Target.leads, Sem.run_pure]
  · rw [Oper.semAt_plain F _ _ (by rw [hop]; intro c hc'; cases hc')]
    simp [execOp, hop, hty, resolve, invoke, builtin, hs, hx, hrun, Result.andThen]
    exact hK' _ _ (hK g' c' w' r1 r2 r3)
theorem grp_len : ∀ k u, (grp k u).length ≤ k + 1
  | 0, u => by simp [grp]
  | k + 1, u => by
    rw [grp]
    split
    · have := grp_len k (u / 128); simp; omega
    · simp
theorem BRowM.ne_box {W : World} {g c B : Nat} {xs : List Int} {t : TypeId} {u : Value} (h : BRowM W g c xs) (hb : Boxed W B t u) (ht : t ≠ 5) : g ≠ B := by
  rintro rfl
  obtain ⟨cur, m, h1, _⟩ := h
  rw [show W.heap[g]? = _ from hb] at h1
  simp only [Option.some.injEq, Obj.cells.injEq] at h1
  exact ht h1.2.1
def PutI (n₀ : Nat) (w : World) (xs : List Int) (pre : List Int) (W : World) : Prop :=
  (∃ g' c', n₀ ≤ g' ∧ g' ≠ w.heap.size + 1 ∧ Boxed W w.heap.size 49 (.slice (some ⟨g', 0, none⟩) (xs.length + pre.length) c') ∧ BRowM W g' c' (xs ++ pre)) ∧ Below n₀ w W ∧ w.heap.size + 2 ≤ W.heap.size
theorem PutI.own {n₀ : Nat} {w : World} {xs : List Int} {B : Nat} (hn : n₀ ≤ w.heap.size) (hB : n₀ ≤ B) : OwnFrom B (PutI n₀ w xs) := by
  intro pre A A' row hs hg hr
  obtain ⟨⟨g', c', h1, h2, h3, h4⟩, h5, h6⟩ := hs
  refine ⟨⟨g', c', h1, h2, h3.kept hg ?_, h4.block (hg.block g' h4.lt ?_)⟩, h5.grown hg (Nat.le_trans hn h5.size) (fun k e => by have := (hr k e).1; omega), Nat.le_trans h6 hg.size⟩
  · intro e
    obtain ⟨_, o, ho, hc⟩ := hr _ e.symm
    rw [show A.heap[w.heap.size]? = _ from h3] at ho
    cases ho
    cases hc
  · intro e
    obtain ⟨_, o, ho, hc⟩ := hr _ e.symm
    obtain ⟨cur, m, h1', _⟩ := h4
    rw [h1'] at ho
    cases ho
    cases hc
theorem PutI.box {n₀ : Nat} {w : World} {xs : List Int} (hn : n₀ ≤ w.heap.size) (pre : List Int) (A : World) (v : Value) (h : PutI n₀ w xs pre A) : PutI n₀ w xs pre (A.setCell ⟨w.heap.size + 1, 0, none⟩ v) := by
  obtain ⟨⟨g', c', h1, h2, h3, h4⟩, h5, h6⟩ := h
  exact ⟨⟨g', c', h1, h2, h3.kept (grownBy_setCell' A _ v) (by simp), h4.block (Below.heap_setCell A ⟨w.heap.size + 1, 0, none⟩ v g' h2)⟩, h5.setCell (p := ⟨w.heap.size + 1, 0, none⟩) (by show n₀ ≤ w.heap.size + 1; omega) _, by simpa [World.setCell] using h6⟩
theorem put_in (F : Fence) (n : Nat) (h3 : F.fn 53) (h4 : F.fn 68) (h5 : F.fn 89) (hro : F.round = none) (hn : 3 ≤ n) (n₀ g c : Nat) (xs : List Int) (v : Int) (w : World) (hrow : BRowM w g c xs) (hg : n₀ ≤ g) (hl : xs.length ≤ 999000) :
    CallsIn F n Try.prog 53 #[.slice (some ⟨g, 0, none⟩) xs.length c, .int .i64 v] w fun e W' => ∃ g' c', e = .returned (.slice (some ⟨g', 0, none⟩) (xs ++ grp 9 (zig v)).length c') ∧ BRowM W' g' c' (xs ++ grp 9 (zig v)) ∧ n₀ ≤ g' ∧ Below n₀ w W' := by
  have h1 : 1 ≤ n := by omega
  have hgl := hrow.lt
  have hn0 : n₀ ≤ w.heap.size := by omega
  have hz0 := zig_lo v
  have hz1 := zig_hi v
  generalize hz : zig v = z at hz0 hz1 ⊢
  refine callsIn_of_wp_marks Try.func53 rfl h3 ?_ hro
  simp only [Try.ntmps53, List.size_toArray, List.length_cons, List.length_nil, Nat.reduceAdd, Nat.reduceSub, Array.replicate_succ, Array.replicate_zero, List.push_toArray, List.append_toArray, List.nil_append, List.cons_append]
  gi_wp2_with (gi_at_call 68; refine (groups_made F (n - 1) h4 hro _ _).mono ?_; rintro e w' ⟨rfl, rfl⟩)
  simp only [show bits BinOp.xor IntKind.u64 (IntKind.u64.wrap (IntKind.u64.wrap v * 2)) (IntKind.u64.wrap (v / 9223372036854775808)) = z from hz]
  have bB := Boxed.new w 49 (.slice (some ⟨g, 0, none⟩) xs.length c)
  have bU := Boxed.new (w.alloc (.cells #[.slice (some ⟨g, 0, none⟩) xs.length c] 49)) 124 (.int .u64 z)
  rw [World.size_alloc] at bU
  have hB0 : Below n₀ w ((w.alloc (.cells #[.slice (some ⟨g, 0, none⟩) xs.length c] 49)).alloc (.cells #[.int .u64 z] 124)) := ((Below.refl _ w).alloc hn0 _).alloc (by simp; omega) _
  have hr0 : BRowM ((w.alloc (.cells #[.slice (some ⟨g, 0, none⟩) xs.length c] 49)).alloc (.cells #[.int .u64 z] 124)) g c xs := hrow.block ((Below.heap_alloc _ _ _ (by simp; omega)).trans (Below.heap_alloc _ _ _ hgl))
  refine wpIn_rangeFunc_box hro h1 (gf := 89) (lb := #[.pointer (some ⟨w.heap.size + 1, 0, none⟩)]) rfl h5 (enters_of Try.func89 (by kernel_rfl) rfl) (encs := fun x : Int => #[Value.int .u8 x]) (Bu := w.heap.size + 1) (by simp)
    (S := fun ys => ys = grp 9 z) (N := 10)
    (fun l J W hW hJ hY hj0 => groups_in F (n - 1) h5 hro (by omega) l (w.heap.size + 1) z hz0 hz1 J hJ hY W (hW.trans bU) hj0)
    (fun _ => rfl) (PutI n₀ w xs) (PutI.own hn0 (by simp; omega)) (PutI.box hn0)
    ⟨⟨g, c, hg, by omega, bB.alloc _, by rw [List.append_nil]; exact hr0⟩, hB0, by simp⟩
    (fun x => { tmps := #[Value.slice (some { block := g, off := 0 }) xs.length c, Value.int IntKind.i64 v,
          Value.pointer (some { block := w.heap.size, off := 0 }), undef, Value.slice none 0 0, .int .u8 x,
          Value.int IntKind.i64 v, Value.int IntKind.u64 (IntKind.u64.wrap v),
          Value.int IntKind.u64 (IntKind.u64.wrap (IntKind.u64.wrap v * 2)), Value.int IntKind.i64 v,
          Value.int IntKind.i64 (v / 9223372036854775808),
          Value.int IntKind.u64 (IntKind.u64.wrap (v / 9223372036854775808)),
          Value.int IntKind.u64 z,
          Value.func (Fn.func 89) #[] #[Value.pointer (some { block := w.heap.size + 1, off := 0 })], .int .u8 x, undef,
          undef, undef, undef, undef], defers := [] }) ?assign ?body ?done
  case assign =>
    intro l x W K hK
    gi_wp2
    exact hK
  case body =>
    rintro l pre x W ⟨⟨g', c', i1, i2, i3, i4⟩, i5, i6⟩ hlt
    have hc := i3.cell
    have hll : (xs ++ pre).length ≤ 1000000 := by rw [List.length_append]; omega
    have hsz := i5.size
    have hgl' := i4.lt
    have hbl' := i3.lt
    gi_wp2_with (gi_at_builtin; refine wpListIn_append1 _ rfl _ _ rfl rfl (i4.block (Below.heap_alloc W _ _ hgl')) hll (List.length_append).symm rfl (ad := ⟨W.heap.size, 0, none⟩) (v := x) rfl (cell_one_new _ _ _ 0 _ rfl) ?_; intro g2 c2 w2 r1 r2 r3; have b2 := (i3.alloc (.cells #[.int .u8 x] 5)).kept r2 (by intro e; exact i4.ne_box i3 (by decide) (Option.some.inj e).symm); have hc2 := b2.cell; have hf2 := b2.frozen)
    refine ⟨(((KeepsOthers.alloc W _).trans (KeepsOthers.of_grownBy r2 (fun j o ej hj => ?_))).trans (KeepsOthers.setCell _ _ _)).from _, ?_, ⟨g2, c2, ?_, ?_, by rw [List.length_append, ← Nat.add_assoc]; exact b2.set _, ?_⟩, ?_, ?_⟩
    · cases ej
      obtain ⟨cur, m, h1', _⟩ := i4
      rw [Below.heap_alloc W _ _ hgl', h1'] at hj
      cases hj
      rfl
    · refine (Below.heap_setCell w2 ⟨w.heap.size, 0, none⟩ _ _ (by simp)).trans ((r2.block _ (by simp; omega) (by intro e; exact i2 (Option.some.inj e).symm)).trans (Below.heap_alloc W _ _ (by omega)))
    · rcases r3 with rfl | r3
      · exact i1
      · simp at r3; omega
    · rcases r3 with rfl | r3
      · exact i2
      · simp at r3; omega
    · rw [← List.append_assoc]
      exact r1.block (Below.heap_setCell w2 ⟨w.heap.size, 0, none⟩ _ _ (r1.ne_box b2 (by decide)))
    · exact ((i5.alloc (by omega) _).grown r2 (by simp; omega) (fun k e => by cases e; exact i1)).setCell (p := ⟨w.heap.size, 0, none⟩) hn0 _
    · have := r2.size
      simp [World.setCell] at this ⊢
      omega
  case done =>
    rintro D ys W hD rfl ⟨⟨g', c', i1, i2, i3, i4⟩, i5, i6⟩ hK
    have hc := i3.cell
    gi_wp2
    refine ⟨by simp, .inl ⟨_, _, rfl, run_takeDeferred hK, ?_⟩⟩
    refine ⟨_, results_tmp rfl _ _ _, g', c', by show Ending.returned (Value.slice _ (xs.length + _) _) = _; rw [List.length_append], i4.block (World.putObj_heap_other ?_), i1, i5.trans (belowK_b (w := w) hn0 W D _ _ (by simp at hD; omega) hK rfl rfl)⟩
    rintro rfl
    obtain ⟨cur, m, h1', _⟩ := i4
    rw [hK] at h1'
    cases h1'
end Go.Proofs.Ythfddndmhjkeiaa.L
end
section
/- wire.PutInt. -/
namespace Go.Proofs.Ythfddndmhjkeiaa.L
open Go.RowKit Go.Shelf Go.Proofs.YthfddndmhjkeiaaW.PrintWords Go.Proofs.YthfddndmhjkeiaaW.PrintLast Go.Proofs.YthfddndmhjkeiaaW.PrintMore
set_option linter.unusedVariables false
set_option linter.unusedSimpArgs false
def wire_PutInt.f (a0 : ByteArray) (a1 : Int) : Option ByteArray := if a0.size ≤ 900000 then some (strOfNums (bytesOf a0 ++ grp 9 (zig a1))) else none
theorem put_calls (n₀ g c : Nat) (xs : List Int) (v : Int) (w : World) (hrow : BRowM w g c xs) (hg : n₀ ≤ g) (hl : xs.length ≤ 999000) :
    Calls Try.prog 53 #[.slice (some ⟨g, 0, none⟩) xs.length c, .int .i64 v] w fun e W' => ∃ g' c', e = .returned (.slice (some ⟨g', 0, none⟩) (xs ++ grp 9 (zig v)).length c') ∧ BRowM W' g' c' (xs ++ grp 9 (zig v)) ∧ n₀ ≤ g' ∧ Below n₀ w W' :=
  callsIn_wide.1 (put_in Fence.wide 3 trivial trivial trivial rfl (by omega) n₀ g c xs v w hrow hg hl)
theorem wire_PutInt.calls (a0 : ByteArray) (a1 : Int) (r : ByteArray) (w : World) (h : wire_PutInt.f a0 a1 = some r) :
    Calls Try.prog 37 #[.string a0, .int .i64 a1] w fun e w' => e = .returned (.string r) ∧ Below w.heap.size w w' := by
  unfold wire_PutInt.f at h
  split at h
  case isFalse => cases h
  case isTrue hs =>
  cases h
  obtain ⟨c, w1, hc, hr, hb, hcs⟩ := conv_bytes w a0 (by omega)
  have hlen : (bytesOf a0).length = a0.size := bytesOf_length a0
  have hput := put_calls w.heap.size w.heap.size c (bytesOf a0) a1 w1 hr.toM (Nat.le_refl _) (by omega)
  rw [hlen] at hput
  have hgl := grp_len 9 (zig a1)
  have hlen2 : (bytesOf a0 ++ grp 9 (zig a1)).length ≤ 9223372036854775807 := by rw [List.length_append]; omega
  generalize bytesOf a0 ++ grp 9 (zig a1) = ys at hput hlen2 ⊢
  go_enter Try.func37, Try.ntmps37
  go_wp2_with fail
  refine hput.mono ?_
  rintro e w2 ⟨g', c', rfl, i4, i1, i5⟩
  have hst := i4.string hlen2
  go_wp2_with fail
  go_ret
  exact ⟨rfl, (hb.trans i5)⟩
end Go.Proofs.Ythfddndmhjkeiaa.L
end
section
-- Printed for this claim by a small program of the session's own, drv.py, round the kit's print.py. Lean checks it.
namespace Go.Proofs.Ythfddndmhjkeiaa.L
open Go.RowKit Go.Proofs.YthfddndmhjkeiaaW.PrintWords Go.Proofs.YthfddndmhjkeiaaW.PrintLast Go.Proofs.YthfddndmhjkeiaaW.PrintMore
attribute [local go_sem] max2_int min2_int max_two min_two max_three min_three max_four min_four   -- for this text's walks alone
set_option linter.unusedVariables false
set_option linter.unusedSimpArgs false

/-! ### wire_PutText: function 36 -/
def wire_PutText.f (a0 : ByteArray) (a1 : ByteArray) : Option (ByteArray) := (wire_PutInt.f a0 (a1.size : Int)).bind fun t120 => (if t120.size + a1.size ≤ 9223372036854775807 then (some (t120 ++ a1)) else (none))
set_option maxHeartbeats 8000000 in
set_option maxRecDepth 100000 in
theorem wire_PutText.calls (a0 : ByteArray) (a1 : ByteArray) (r : ByteArray) (w : World) (h : wire_PutText.f a0 a1 = some r) :
    Calls Try.prog 36 #[.string a0, .string a1] w fun e w' => e = .returned (.string r) ∧ Below w.heap.size w w' := by
  have HB := Aside0.mk (Below.refl w.heap.size w)
  have H : ((wire_PutInt.f a0 (a1.size : Int)).bind fun t120 => (if t120.size + a1.size ≤ 9223372036854775807 then (some (t120 ++ a1)) else (none))) = some r := h
  clear h
  replace H := Option.bind_eq_some_iff.mp H
  obtain ⟨t120, A30, H⟩ := H
  replace H : (if t120.size + a1.size ≤ 9223372036854775807 then (some (t120 ++ a1)) else (none)) = some r := H
  have A3 := Aside0.mk A30
  clear A30
  by_cases c4 : t120.size + a1.size ≤ 9223372036854775807
  · rw [if_pos c4] at H
    have c4b0 := eq_true c4
    have c4b1 : decide (t120.size + a1.size ≤ 9223372036854775807) = true := decide_eq_true c4
    (have c4b2 : (9223372036854775807 < t120.size + a1.size) = False := eq_false (Nat.not_lt.2 c4))
    obtain rfl := Option.some.inj H
    go_enter Try.func36, Try.ntmps36
    go_wp2_with (((with_reducible refine gate_callee (f := 37) rfl ?_); refine goesL_ (some 8) rfl rfl Try.func37 (by kernel_rfl) rfl #[.string a0, .int .i64 (a1.size : Int)] rfl (by ((simp only [List.map_toArray, List.map_cons, List.map_nil])); (rfl)) ?_; (with_reducible refine (wire_PutInt.calls a0 (a1.size : Int) t120 _ A3.out).mono ?_); rintro e w5 ⟨rfl, hb⟩; refine ⟨_, rfl, ?_⟩; have n0_ := Aside0.mk (below_step HB.out hb); clear HB; have HB := n0_; clear n0_; clear hb))
    go_ret
    exact ⟨by (rfl), HB.out⟩
  · rw [if_neg c4] at H
    exact absurd H (by simp)

end Go.Proofs.Ythfddndmhjkeiaa.L
end
section
-- Printed for this claim by a small program of the session's own, drv.py, round the kit's print.py. Lean checks it.
namespace Go.Proofs.Ythfddndmhjkeiaa.L
open Go.RowKit Go.Proofs.YthfddndmhjkeiaaW.PrintWords Go.Proofs.YthfddndmhjkeiaaW.PrintLast Go.Proofs.YthfddndmhjkeiaaW.PrintMore
attribute [local go_sem] max2_int min2_int max_two min_two max_three min_three max_four min_four   -- for this text's walks alone
set_option linter.unusedVariables false
set_option linter.unusedSimpArgs false

/-! ### seal_Encode: function 21 -/
def seal_Encode.f (a0_0 : Int) (a0_1 : ByteArray) : Option (ByteArray × Int) := (seal_valid.f a0_0 a0_1).bind fun t122 => (if t122 = true then ((wire_PutInt.f (⟨#[]⟩ : ByteArray) a0_0).bind fun t123 => ((wire_PutText.f t123 a0_1).bind fun t124 => (some (t124, 0)))) else (none))
def seal_Encode.T3 : Bool × List (List Nat × List Nat) := (true, [([], []), ([0], [0]), ([1], [1]), ([], []), ([3], [3]), ([2, 4, 2], [2, 4]), ([5, 5, 0, 1, 2, 3, 4, 5], [5]), ([6, 0, 1, 2, 3, 4, 5, 6], [])])
def seal_Encode.B3 : List Nat := [0, 1, 3, 0, 8, 31, 63, 127]
theorem seal_Encode.tab3 : rtab .any (opsOf Try.f21 3) = seal_Encode.T3 := by kernel_rfl
theorem seal_Encode.bits3 : waitsOk seal_Encode.T3.2 seal_Encode.B3 = true := by kernel_rfl
set_option maxHeartbeats 8000000 in
set_option maxRecDepth 100000 in
theorem seal_Encode.calls (a0_0 : Int) (a0_1 : ByteArray) (r1 : ByteArray) (r2 : Int) (w : World) (h : seal_Encode.f a0_0 a0_1 = some (r1, r2)) :
    Calls Try.prog 21 #[.agg #[.int .i64 a0_0, .string a0_1]] w fun e w' => e = .returned (.tuple #[.string r1, .int .i64 r2]) ∧ Below w.heap.size w w' := by
  have hu55 := Try.underlying55
  have HB := Aside0.mk (Below.refl w.heap.size w)
  have H : ((seal_valid.f a0_0 a0_1).bind fun t122 => (if t122 = true then ((wire_PutInt.f (⟨#[]⟩ : ByteArray) a0_0).bind fun t123 => ((wire_PutText.f t123 a0_1).bind fun t124 => (some (t124, 0)))) else (none))) = some (r1, r2) := h
  clear h
  replace H := Option.bind_eq_some_iff.mp H
  obtain ⟨t122, A20, H⟩ := H
  replace H : (if t122 = true then ((wire_PutInt.f (⟨#[]⟩ : ByteArray) a0_0).bind fun t123 => ((wire_PutText.f t123 a0_1).bind fun t124 => (some (t124, 0)))) else (none)) = some (r1, r2) := H
  have A2 := Aside0.mk A20
  clear A20
  by_cases c3 : t122 = true
  · subst c3
    have H1 : ((wire_PutInt.f (⟨#[]⟩ : ByteArray) a0_0).bind fun t123 => ((wire_PutText.f t123 a0_1).bind fun t124 => (some (t124, 0)))) = some (r1, r2) := by rw [if_pos rfl] at H; exact H
    clear H
    have H := H1
    clear H1
    replace H := Option.bind_eq_some_iff.mp H
    obtain ⟨t123, A40, H⟩ := H
    replace H : ((wire_PutText.f t123 a0_1).bind fun t124 => (some (t124, 0))) = some (r1, r2) := H
    have A4 := Aside0.mk A40
    clear A40
    replace H := Option.bind_eq_some_iff.mp H
    obtain ⟨t124, A50, H⟩ := H
    replace H : (some (t124, 0)) = some (r1, r2) := H
    have A5 := Aside0.mk A50
    clear A50
    simp only [Option.some.injEq, Prod.mk.injEq] at H
    obtain ⟨rfl, rfl⟩ := H
    go_enter Try.func21, Try.ntmps21
    (go_wp2_with (first | ((with_reducible refine gate_dst (N := 1) rfl ?_); refine box_event ?hg (N := 1) ?hd (cs := #[.int .i64 a0_0, .string a0_1]) (t := 55) ?hr ?_; (case hd => rfl); (case hg => rfl); (case hr => (go_simp; done)); intro gb121 hg w6 hbox hb; have n0_ := Aside0.mk (below_step HB.out hb); have n1_ := Aside0.mk (hbox); have n2_ := Aside0.mk ((by rw [hg]; exact (below_size HB.out) : w.heap.size ≤ gb121)); have n3_ := Aside0.mk ((by rw [hg]; exact (below_size HB.out) : w.heap.size ≤ gb121)); clear HB; have HB := n0_; have BK121 := n1_; have GW121 := n2_; have GE121 := n3_; clear n0_ n1_ n2_ n3_; clear hb hbox hg; have hcz7_0 : w6.cell? ⟨gb121, 0, none⟩ = some (.int .i64 a0_0) := (blk_cell BK121.out 0).trans rfl; have hcz7_1 : w6.cell? ⟨gb121, 1, none⟩ = some (.string a0_1) := (blk_cell BK121.out 1).trans rfl; have hfz7_0 := blk_frozen BK121.out 0; have hfz7_1 := blk_frozen BK121.out 1) | ((with_reducible refine gate_callee (f := 35) rfl ?_); refine goesL_ (some 5) rfl rfl Try.func35 (by kernel_rfl) rfl #[.agg #[.int .i64 a0_0, .string a0_1]] rfl (by ((simp only [List.map_toArray, List.map_cons, List.map_nil])); (rfl)) ?_; (with_reducible refine (seal_valid.calls a0_0 a0_1 true _ A2.out).mono ?_); rintro e w8 ⟨rfl, hb⟩; refine ⟨_, rfl, ?_⟩; have n0_ := Aside0.mk (blk_below (g := gb121) (o := .cells #[.int .i64 a0_0, .string a0_1] 55 (0, 0)) (by exact BK121.out) hb); have n1_ := Aside0.mk (below_step HB.out hb); clear BK121 HB; have BK121 := n0_; have HB := n1_; clear n0_ n1_; clear hb)))
    have n0_ := Aside0.mk (blk_drew BK121.out)
    have n1_ := Aside0.mk (below_drew1 HB.out)
    clear BK121 HB
    have BK121 := n0_
    have HB := n1_
    clear n0_ n1_
    refine start_ (n := 8) (S := fun w' => w'.cell? ⟨gb121, 0, none⟩ = some (.int .i64 a0_0) ∧ w'.cell? ⟨gb121, 1, none⟩ = some (.string a0_1)) (ds := []) #[false, false, false, false, false, false, false, false] (by kernel_rfl) rfl rfl ⟨(blk_cell BK121.out 0).trans rfl, (blk_cell BK121.out 1).trans rfl⟩ (fun hHeld => ?_); refine with_tabW seal_Encode.tab3 seal_Encode.bits3 (fun HT_ HW_ => ?_)
    generalize w8.drew = w9 at BK121 HB hHeld ⊢
    refine pure_ (i := 0) (N := some 7) (v := ?_) (a' := ?_) #[true, false, false, false, false, false, false, false] rfl rfl (any_of HT_.out (by kernel_rfl)) (fun _ _ _ h => h) (Or.inl ⟨by rfl, ?_⟩) ?_ ?_
    rotate_left
    · intro w'
      go_simp
      with_reducible rfl
    rotate_left
    · simp only [Act.put, List.setIfInBounds_toArray, List.set_cons_zero, List.set_cons_succ, i64_w, i32_w]
      rfl
    refine pure_ (i := 3) (N := some 10) (v := ?_) (a' := ?_) #[true, false, false, true, false, false, false, false] rfl rfl (any_of HT_.out (by kernel_rfl)) (fun _ _ _ h => h) (Or.inl ⟨by rfl, ?_⟩) ?_ ?_
    rotate_left
    · intro w'
      go_simp
      with_reducible rfl
    rotate_left
    · simp only [Act.put, List.setIfInBounds_toArray, List.set_cons_zero, List.set_cons_succ, i64_w, i32_w]
      rfl
    refine take_ (i := 1) (N := some 8) (v := ?_) (a' := ?_) #[true, true, false, true, false, false, false, false] rfl rfl (take_ofW HT_.out HW_.out (by kernel_rfl)) (fun _ _ _ h => h) (Or.inl ⟨by rfl, ?_⟩) hHeld ?_ ?_
    rotate_left
    · rintro w' ⟨s0, s1⟩
      go_simp
      with_reducible rfl
    rotate_left
    · simp only [Act.put, List.setIfInBounds_toArray, List.set_cons_zero, List.set_cons_succ, i64_w, i32_w]
      rfl
    refine take_ (i := 4) (N := some 11) (v := ?_) (a' := ?_) #[true, true, false, true, true, false, false, false] rfl rfl (take_ofW HT_.out HW_.out (by kernel_rfl)) (fun _ _ _ h => h) (Or.inl ⟨by rfl, ?_⟩) hHeld ?_ ?_
    rotate_left
    · rintro w' ⟨s0, s1⟩
      go_simp
      with_reducible rfl
    rotate_left
    · simp only [Act.put, List.setIfInBounds_toArray, List.set_cons_zero, List.set_cons_succ, i64_w, i32_w]
      rfl
    refine one_ (i := 2) (N := some 9) #[true, true, true, true, true, false, false, false] rfl rfl (one_of HT_.out (by kernel_rfl)) (by decide) (fun K hK => ?_)
    refine goes_ Try.func37 (by kernel_rfl) rfl #[.string (⟨#[]⟩ : ByteArray), .int .i64 a0_0] (by rfl) rfl rfl (by ((simp only [List.map_toArray, List.map_cons, List.map_nil])); (rfl)) ?_
    with_reducible refine (wire_PutInt.calls (⟨#[]⟩ : ByteArray) a0_0 t123 _ A4.out).mono ?_
    rintro e w10 ⟨rfl, hb⟩
    refine ⟨_, rfl, ?_⟩
    have n0_ := Aside0.mk (blk_below (g := gb121) (o := .cells #[.int .i64 a0_0, .string a0_1] 55 (0, 0)) (by exact BK121.out) hb)
    have n1_ := Aside0.mk (below_step HB.out hb)
    clear BK121 HB
    have BK121 := n0_
    have HB := n1_
    clear n0_ n1_
    ((clear hb))
    refine hK.out _ _ ⟨(blk_cell BK121.out 0).trans rfl, (blk_cell BK121.out 1).trans rfl⟩ (fun hHeld => ?_)
    clear hK K
    refine norm_ (a' := ?_) ?_ ?_
    rotate_left
    · show Act.put _ (some 9) _ = _
      simp only [Act.put, List.setIfInBounds_toArray, List.set_cons_zero, List.set_cons_succ, i64_w, i32_w]
      rfl
    refine one_ (i := 5) (N := some 12) #[true, true, true, true, true, true, false, false] rfl rfl (one_of HT_.out (by kernel_rfl)) (by decide) (fun K hK => ?_)
    refine goes_ Try.func36 (by kernel_rfl) rfl #[.string t123, .string a0_1] (by rfl) rfl rfl (by ((simp only [List.map_toArray, List.map_cons, List.map_nil])); (rfl)) ?_
    with_reducible refine (wire_PutText.calls t123 a0_1 t124 _ A5.out).mono ?_
    rintro e w11 ⟨rfl, hb⟩
    refine ⟨_, rfl, ?_⟩
    have n0_ := Aside0.mk (blk_below (g := gb121) (o := .cells #[.int .i64 a0_0, .string a0_1] 55 (0, 0)) (by exact BK121.out) hb)
    have n1_ := Aside0.mk (below_step HB.out hb)
    clear BK121 HB
    have BK121 := n0_
    have HB := n1_
    clear n0_ n1_
    ((clear hb))
    refine hK.out _ _ ⟨(blk_cell BK121.out 0).trans rfl, (blk_cell BK121.out 1).trans rfl⟩ (fun hHeld => ?_)
    clear hK K
    refine norm_ (a' := ?_) ?_ ?_
    rotate_left
    · show Act.put _ (some 12) _ = _
      simp only [Act.put, List.setIfInBounds_toArray, List.set_cons_zero, List.set_cons_succ, i64_w, i32_w]
      rfl
    refine pure_ (i := 6) (N := some 2) (v := ?_) (a' := ?_) #[true, true, true, true, true, true, true, false] rfl rfl (any_of HT_.out (by kernel_rfl)) (fun _ _ _ h => h) (Or.inl ⟨by rfl, ?_⟩) ?_ ?_
    rotate_left
    · intro w'
      go_simp
      with_reducible rfl
    rotate_left
    · simp only [Act.put, List.setIfInBounds_toArray, List.set_cons_zero, List.set_cons_succ, i64_w, i32_w]
      rfl
    refine pure_ (i := 7) (N := some 3) (v := ?_) (a' := ?_) #[true, true, true, true, true, true, true, true] rfl rfl (any_of HT_.out (by kernel_rfl)) (fun _ _ _ h => h) (Or.inl ⟨by rfl, ?_⟩) ?_ ?_
    rotate_left
    · intro w'
      go_simp
      with_reducible rfl
    rotate_left
    · simp only [Act.put, List.setIfInBounds_toArray, List.set_cons_zero, List.set_cons_succ, i64_w, i32_w]
      rfl
    refine done_ (done_of HT_.out (by kernel_rfl)) ?_
    (go_wp2)
    go_ret2
    exact ⟨by (rfl), HB.out⟩
  · replace c3 := Bool.eq_false_iff.mpr c3
    subst c3
    have H1 : (none) = some (r1, r2) := by rw [if_neg (show ¬ (false = true) by decide)] at H; exact H
    clear H
    have H := H1
    clear H1
    exact absurd H (by simp)

end Go.Proofs.Ythfddndmhjkeiaa.L
end
