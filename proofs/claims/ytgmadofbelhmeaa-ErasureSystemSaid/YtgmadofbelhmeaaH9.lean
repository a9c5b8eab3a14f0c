/- Texts of this claim, put together by a small program of the session's own: PC, PD, PE, PF, PG, PH, PS, MBytes, MNotA, PS2. -/
import Derived.Test.YtgmadofbelhmeaaH6
import Derived.Test.YtgmadofbelhmeaaH7
import Derived.Test.YtgmadofbelhmeaaH8
import Derived.Test.YtgmadofbelhmeaaH2
import Derived.Test.YtgmadofbelhmeaaH5
import Derived.Test.YtgmadofbelhmeaaH4
import Derived.Test.YtgmadofbelhmeaaH0
import Derived.Lib.ConvBytes
section
/- The plain law of the erasure code, part C: the codes' matrices, looked through. -/
namespace Go.Proofs.Ytgmadofbelhmeaa.L
open Go.RowKit Go.Proofs.YtgmadofbelhmeaaW.PrintWords Go.Proofs.YtgmadofbelhmeaaW.PrintLast Go.Proofs.YtgmadofbelhmeaaW.PrintMore
set_option linter.unusedVariables false
set_option linter.unusedSimpArgs false

theorem all_cut {α : Type} {p : α → Bool} {l : List α} (k : Nat) (h1 : (l.take k).all p = true) (h2 : (l.drop k).all p = true) : l.all p = true := by
  rw [← List.take_append_drop k l, List.all_append, h1, h2]
  rfl
theorem chk54 : chk 5 9 = true := by
  unfold chk
  rw [chk54r, Bool.true_and]
  refine all_cut 32 chk54a (all_cut 32 chk54b ?_)
  rw [List.drop_drop]
  refine all_cut 32 chk54c ?_
  rw [List.drop_drop]
  exact chk54d
theorem chk_all {n a : Nat} (h1 : 1 ≤ n) (h5 : n ≤ 5) (ha : n ≤ a) (ha4 : a ≤ n + 4) : chk n a = true := by
  obtain ⟨d, rfl⟩ : ∃ d, a = n + d := ⟨a - n, by omega⟩
  have hd : d < 5 := by omega
  match n, h1, h5 with
  | 1, _, _ => exact chk1 ⟨d, hd⟩
  | 2, _, _ => exact chk2 ⟨d, hd⟩
  | 3, _, _ => exact chk3 ⟨d, hd⟩
  | 4, _, _ => exact chk4 ⟨d, hd⟩
  | 5, _, _ =>
    match d, hd with
    | 0, _ => exact chk50
    | 1, _ => exact chk51
    | 2, _ => exact chk52
    | 3, _ => exact chk53
    | 4, _ => exact chk54
theorem mem_subs {a : Nat} : ∀ (l : List Nat) (b : Nat), l.Pairwise (· < ·) → (∀ x, x ∈ l → b ≤ x ∧ x < a) → l ∈ subs a l.length b
  | [], b, _, _ => by simp [subs]
  | x :: l, b, hp, hl => by
    have hx := hl x (List.mem_cons_self ..)
    have hp' := List.pairwise_cons.1 hp
    have ih := mem_subs l (x + 1) hp'.2 fun y hy => ⟨hp'.1 y hy, (hl y (List.mem_cons_of_mem _ hy)).2⟩
    show x :: l ∈ (List.range a).flatMap _
    rw [List.mem_flatMap]
    refine ⟨x, List.mem_range.2 hx.2, ?_⟩
    rw [if_pos hx.1]
    exact List.mem_map.2 ⟨l, ih, rfl⟩
theorem elB_el {x : Int} (h : elB x = true) : El x := by
  unfold elB at h
  simp only [Bool.and_eq_true, decide_eq_true_eq] at h
  exact h
theorem all_el {l : List Int} (h : l.all elB = true) : ElL l := fun x hx => elB_el (List.all_eq_true.1 h x hx)
theorem elL_getD {l : List Int} (h : ElL l) (j : Nat) : El (l.getD j 0) := by
  rw [List.getD_eq_getElem?_getD]
  by_cases hj : j < l.length
  · rw [List.getElem?_eq_getElem hj]
    exact h _ (List.getElem_mem hj)
  · rw [List.getElem?_eq_none (by omega)]
    exact El0
structure RowsOk (n a : Nat) : Prop where
  rows : erasure_rowsOf.f 300 n a = some ((a : Int), (n : Int), rowsL n a)
  len : (rowsL n a).length = a * n
  el : ElL (rowsL n a)
  unit : ∀ i j, i < n → j < n → (rowsL n a).getD (i * n + j) 0 = if i = j then 1 else 0
structure InvOk (n a : Nat) (idx : List Nat) : Prop where
  full : (invRows (pickL n a idx) n).2 = n
  len : (invL n (pickL n a idx)).length = n * n
  el : ElL (invL n (pickL n a idx))
  one : ∀ i j, i < n → j < n → (gsum n fun l => gm ((invL n (pickL n a idx)).getD (i * n + l) 0) ((pickL n a idx).getD (l * n + j) 0)) = if i = j then 1 else 0
theorem rowsM_ok {n a : Nat} (h1 : 1 ≤ n) (h5 : n ≤ 5) (ha : n ≤ a) (ha4 : a ≤ n + 4) : RowsOk n a := by
  have h := chk_all h1 h5 ha ha4
  unfold chk okRows at h
  simp only [Bool.and_eq_true, decide_eq_true_eq, List.all_eq_true (p := fun i => (List.range n).all _), List.mem_range] at h
  obtain ⟨⟨⟨⟨a1, a2⟩, a3⟩, a4⟩, _⟩ := h
  refine ⟨a1, a2, all_el a3, fun i j hi hj => ?_⟩
  have := a4 i hi
  rw [List.all_eq_true] at this
  exact of_decide_eq_true (this j (List.mem_range.2 hj))
theorem inv_ok {n a : Nat} (h1 : 1 ≤ n) (h5 : n ≤ 5) (ha : n ≤ a) (ha4 : a ≤ n + 4) {idx : List Nat} (hl : idx.length = n) (hp : idx.Pairwise (· < ·)) (hx : ∀ x, x ∈ idx → x < a) : InvOk n a idx := by
  have h := chk_all h1 h5 ha ha4
  unfold chk at h
  simp only [Bool.and_eq_true] at h
  have hm := mem_subs idx 0 hp fun x hx' => ⟨Nat.zero_le _, hx x hx'⟩
  rw [hl] at hm
  have h2 := List.all_eq_true.1 h.2 idx hm
  unfold okIdx okQ at h2
  simp only [Bool.and_eq_true, decide_eq_true_eq] at h2
  obtain ⟨b1, ⟨b2, b3⟩, b4⟩ := h2
  refine ⟨b1, b2, all_el b3, fun i j hi hj => ?_⟩
  have := List.all_eq_true.1 b4 i (List.mem_range.2 hi)
  rw [List.all_eq_true] at this
  exact of_decide_eq_true (this j (List.mem_range.2 hj))
end Go.Proofs.Ytgmadofbelhmeaa.L
end
section
/- The plain law of the erasure code, part D: what Encode tells. -/
namespace Go.Proofs.Ytgmadofbelhmeaa.L
open Go.RowKit Go.Proofs.YtgmadofbelhmeaaW.PrintWords Go.Proofs.YtgmadofbelhmeaaW.PrintLast Go.Proofs.YtgmadofbelhmeaaW.PrintMore
set_option linter.unusedVariables false
set_option linter.unusedSimpArgs false

/-- The length of the shards of size bytes. -/
def lenN (n size : Nat) : Nat := if size % n > 0 then size / n + 1 else size / n
theorem lenN_le {n size : Nat} (hn : 1 ≤ n) (hs : size ≤ 800) : lenN n size ≤ 801 := by
  unfold lenN
  have := Nat.div_le_self size n
  split <;> omega
theorem lenN_ge {n size : Nat} (hn : 1 ≤ n) : size ≤ lenN n size * n := by
  unfold lenN
  have h := Nat.div_add_mod size n
  have hm := Nat.mod_lt size (show n > 0 by omega)
  rw [Nat.mul_comm] at h
  split
  · rw [Nat.add_mul, Nat.one_mul]
    omega
  · omega
theorem lenN_top {n size : Nat} (hn : 1 ≤ n) (hn5 : n ≤ 5) (hs : size ≤ 800) : lenN n size * n ≤ 5000 := by
  have := Nat.mul_le_mul (lenN_le hn hs) hn5
  omega
theorem check_some {n a : Nat} (h1 : 1 ≤ n) (ha : n ≤ a) (h16 : a ≤ 16) : erasure_Check.f n a = some 0 := by
  unfold erasure_Check.f
  rw [if_neg (by omega), if_neg (by omega), if_neg (by omega)]
theorem length_some {n a size : Nat} (h1 : 1 ≤ n) (ha : n ≤ a) (h16 : a ≤ 16) (hs : size ≤ 800) : erasure_Length.f n a size = some ((lenN n size : Int), 0) := by
  unfold erasure_Length.f
  rw [check_some h1 ha h16]
  simp only [Option.bind_some, if_true]
  have e1 : Int.tmod (size : Int) (n : Int) = ((size % n : Nat) : Int) := Int.ofNat_tmod size n
  have e2 : Int.tdiv (size : Int) (n : Int) = ((size / n : Nat) : Int) := Int.ofNat_tdiv size n
  have hd := Nat.div_le_self size n
  rw [if_neg (by omega), if_neg (by omega), e1, e2]
  unfold lenN
  generalize size / n = q at hd ⊢
  have w1 : wrap64 (q : Int) = (q : Int) := w64 (by omega) (by omega)
  have w2 : wrap64 ((q : Int) + 1) = (q : Int) + 1 := w64 (by omega) (by omega)
  rw [w1, w2]
  by_cases hm : size % n > 0
  · rw [if_pos (by omega), if_neg (by omega), if_pos hm]
    rfl
  · rw [if_neg (by omega), if_neg (by omega), if_neg hm]
theorem repeatL_replicate (x : UInt8) : ∀ c, Lib.repeatL [x] c = List.replicate c x
  | 0 => rfl
  | c + 1 => by
    show [x] ++ Lib.repeatL [x] c = _
    rw [repeatL_replicate x c]
    rfl
theorem size_rep (c : Nat) : (⟨(List.replicate c (0 : UInt8)).toArray⟩ : ByteArray).size = c := by
  show (List.replicate c (0 : UInt8)).toArray.size = c
  rw [List.size_toArray, List.length_replicate]
theorem repeat_some {c : Nat} (h : c ≤ 100000) : strings_Repeat.f (⟨#[0]⟩ : ByteArray) (c : Int) = some ⟨(List.replicate c (0 : UInt8)).toArray⟩ := by
  unfold strings_Repeat.f
  have h1 : (⟨#[0]⟩ : ByteArray).size = 1 := rfl
  have h2 : (⟨#[0]⟩ : ByteArray).data.toList = [0] := rfl
  rw [Int.toNat_natCast, h1, h2, repeatL_replicate, if_pos ⟨by omega, by omega, by omega⟩]
/-- The data, filled up with noughts. -/
def padded (n : Nat) (s : ByteArray) : ByteArray := s ++ ⟨(List.replicate (lenN n s.size * n - s.size) (0 : UInt8)).toArray⟩
theorem padded_size {n : Nat} {s : ByteArray} (hn : 1 ≤ n) : (padded n s).size = lenN n s.size * n := by
  unfold padded
  rw [ByteArray.size_append]
  have h := lenN_ge (size := s.size) hn
  rw [size_rep]
  omega
def partN (L : Nat) (d : ByteArray) (j : Nat) : ByteArray := d.extract (j * L) ((j + 1) * L)
def partsN (n L : Nat) (d : ByteArray) : List ByteArray := (List.range n).map (partN L d)
theorem partsN_length (n L : Nat) (d : ByteArray) : (partsN n L d).length = n := by simp [partsN]
theorem partsN_getD {n L : Nat} {d : ByteArray} {j : Nat} (h : j < n) : (partsN n L d).getD j ByteArray.empty = partN L d j := by
  unfold partsN
  rw [List.getD_eq_getElem?_getD, List.getElem?_map, List.getElem?_range h]
  rfl
theorem partN_size {n L : Nat} {d : ByteArray} (hd : d.size = L * n) {j : Nat} (h : j < n) : (partN L d j).size = L := by
  unfold partN
  have : (j + 1) * L ≤ L * n := by rw [Nat.mul_comm L n]; exact Nat.mul_le_mul_right _ h
  rw [ByteArray.size_extract, hd, Nat.min_eq_left this, Nat.add_mul, Nat.one_mul]
  omega
theorem mulw {i n : Nat} (h : i * n ≤ 1000000) : wrap64 ((i : Int) * (n : Int)) = ((i * n : Nat) : Int) := by
  rw [← Int.natCast_mul, w64] <;> omega
theorem incw {i : Nat} (h : i ≤ 1000000) : wrap64 ((i : Int) + 1) = ((i + 1 : Nat) : Int) := (w64 (by omega) (by omega)).trans rfl
/-- Shard i. -/
def shardN (n a L : Nat) (d : ByteArray) (i : Nat) : S37 := ⟨(i : Int), strOfNums (accL (cut (rowsL n a) n i) (partsN n L d) L n)⟩
def shardsN (n a L : Nat) (d : ByteArray) : List S37 := (List.range a).map (shardN n a L d)
section
variable {n a L : Nat} {d : ByteArray}
theorem cut_el (hR : RowsOk n a) (i : Nat) : ∀ j, El ((cut (rowsL n a) n i).getD j 0) := by
  intro j
  refine elL_getD (fun x hx => hR.el x ?_) j
  unfold cut at hx
  exact List.mem_of_mem_take (List.mem_of_mem_drop hx)
theorem cutR_length (hR : RowsOk n a) {i : Nat} (hi : i < a) : (cut (rowsL n a) n i).length = n := by
  unfold cut
  have : (i + 1) * n ≤ a * n := Nat.mul_le_mul_right _ hi
  rw [List.length_drop, List.length_take, hR.len, Nat.min_eq_left this, Nat.add_mul, Nat.one_mul]
  omega
theorem enc_shard (hR : RowsOk n a) (hn : n ≤ 5) (hL : L ≤ 801) (hd : d.size = L * n) {i : Nat} (hi : i < a) {k : Nat} (hk : 1000 ≤ k) : erasure_shard.f k (cut (rowsL n a) n i) (partsN n L d) (L : Int) = some (shardN n a L d i).f1 := by
  have hl := cutR_length hR hi
  have h := shard_some (row := cut (rowsL n a) n i) (parts := partsN n L d) (len := L) (fun j _ => cut_el hR i j) (by rw [hl, partsN_length]) (fun j hj => by rw [partsN_length] at hj; rw [partsN_getD hj, partN_size hd hj]) (by omega) (by omega) (k := k) (by omega)
  rw [hl] at h
  exact h
theorem enc_l1 (hR : RowsOk n a) (h1 : 1 ≤ n) (hn : n ≤ 5) (ha : a ≤ 9) (hL : L ≤ 801) (hd : d.size = L * n) : ∀ (m i k : Nat), i + m = a → m + 1001 ≤ k →
    erasure_Encode.l1 k (L : Int) (partsN n L d) ((List.range i).map (shardN n a L d)) (a : Int) (i : Int) (n : Int) (a : Int) (a : Int) (n : Int) (rowsL n a) = some (shardsN n a L d, 0)
  | 0, i, k, hi, hk => by
    obtain ⟨k, rfl⟩ : ∃ k', k = k' + 1 := ⟨k - 1, by omega⟩
    unfold erasure_Encode.l1
    obtain rfl : i = a := by omega
    rw [if_neg (by omega)]
    rfl
  | m + 1, i, k, hi, hk => by
    obtain ⟨k, rfl⟩ : ∃ k', k = k' + 1 := ⟨k - 1, by omega⟩
    have hb : (i + 1) * n ≤ a * n := Nat.mul_le_mul_right _ (by omega)
    have hb2 : a * n ≤ 9 * 5 := Nat.mul_le_mul ha hn
    have hb3 : i * n ≤ (i + 1) * n := Nat.mul_le_mul_right _ (by omega)
    unfold erasure_Encode.l1
    rw [if_pos (by omega), mulw (i := i) (n := n) (by omega), incw (by omega), mulw (i := i + 1) (n := n) (by omega), if_pos (by omega), if_pos (by omega), if_pos (by rw [hR.len]; omega), Int.toNat_natCast, Int.toNat_natCast]
    have hc : ((rowsL n a).take ((i + 1) * n)).drop (i * n) = cut (rowsL n a) n i := rfl
    rw [hc, enc_shard hR hn hL hd (show i < a by omega) (by omega)]
    simp only [Option.bind_some]
    rw [if_pos (by simp; omega)]
    have hs : (List.range i).map (shardN n a L d) ++ [(⟨(i : Int), (shardN n a L d i).f1⟩ : S37)] = (List.range (i + 1)).map (shardN n a L d) := by
      rw [List.range_succ, List.map_append]
      rfl
    rw [hs]
    exact enc_l1 hR h1 hn ha hL hd m (i + 1) k (by omega) (by omega)
theorem enc_l0 (hR : RowsOk n a) (h1 : 1 ≤ n) (hn : n ≤ 5) (ha : a ≤ 9) (hL : L ≤ 801) (hd : d.size = L * n) : ∀ (m j k : Nat), j + m = n → m + 1100 ≤ k →
    erasure_Encode.l0 k d (L : Int) ((List.range j).map (partN L d)) (n : Int) (j : Int) (n : Int) (a : Int) = some (shardsN n a L d, 0)
  | 0, j, k, hj, hk => by
    obtain ⟨k, rfl⟩ : ∃ k', k = k' + 1 := ⟨k - 1, by omega⟩
    unfold erasure_Encode.l0
    obtain rfl : j = n := by omega
    rw [if_neg (by omega), upk (fun k => erasure_rowsOf.mono _ _ k) (show 300 ≤ k by omega) hR.rows]
    simp only [Option.bind_some]
    exact enc_l1 hR h1 hn ha hL hd a 0 k (by omega) (by omega)
  | m + 1, j, k, hj, hk => by
    obtain ⟨k, rfl⟩ : ∃ k', k = k' + 1 := ⟨k - 1, by omega⟩
    have hb : (j + 1) * L ≤ L * n := by rw [Nat.mul_comm L n]; exact Nat.mul_le_mul_right _ (by omega)
    have hb2 : L * n ≤ 801 * 5 := Nat.mul_le_mul hL hn
    have hb3 : j * L ≤ (j + 1) * L := Nat.mul_le_mul_right _ (by omega)
    unfold erasure_Encode.l0
    rw [if_pos (by omega), mulw (i := j) (n := L) (by omega), incw (by omega), mulw (i := j + 1) (n := L) (by omega), if_pos (by omega), if_pos (by omega), if_pos (by rw [hd]; omega), if_pos (by simp; omega), Int.toNat_natCast, Int.toNat_natCast]
    have hs : (List.range j).map (partN L d) ++ [d.extract (j * L) ((j + 1) * L)] = (List.range (j + 1)).map (partN L d) := by
      rw [List.range_succ, List.map_append]
      rfl
    rw [hs]
    exact enc_l0 hR h1 hn ha hL hd m (j + 1) k (by omega) (by omega)
end
end Go.Proofs.Ytgmadofbelhmeaa.L
end
section
/- Encode as a whole. -/
namespace Go.Proofs.Ytgmadofbelhmeaa.L
open Go.RowKit Go.Proofs.YtgmadofbelhmeaaW.PrintWords Go.Proofs.YtgmadofbelhmeaaW.PrintLast Go.Proofs.YtgmadofbelhmeaaW.PrintMore
set_option linter.unusedVariables false
set_option linter.unusedSimpArgs false

theorem encode_some {n a : Nat} {s : ByteArray} (h1 : 1 ≤ n) (hn : n ≤ 5) (ha : n ≤ a) (ha4 : a ≤ n + 4) (hs : s.size ≤ 800) {k : Nat} (hk : 1200 ≤ k) : erasure_Encode.f k n a s = some (shardsN n a (lenN n s.size) (padded n s), 0) := by
  unfold erasure_Encode.f
  rw [length_some h1 ha (by omega) hs]
  rw [Option.bind_some, if_pos rfl]
  have hge := lenN_ge (size := s.size) h1
  have htop := lenN_top h1 hn hs
  have hw : wrap64 (wrap64 ((lenN n s.size : Int) * (n : Int)) - (s.size : Int)) = ((lenN n s.size * n - s.size : Nat) : Int) := by
    rw [mulw (by omega), w64 (by omega) (by omega)]
    omega
  rw [hw]
  rw [repeat_some (by omega), Option.bind_some, if_pos (by rw [size_rep]; omega)]
  have e := enc_l0 (rowsM_ok h1 hn ha ha4) h1 hn (by omega) (lenN_le h1 hs) (padded_size h1) n 0 k (by omega) (by omega)
  exact e
end Go.Proofs.Ytgmadofbelhmeaa.L
end
section
/- The plain law of the erasure code, part F: look, the sorted indices, Pick, Inverse. -/
namespace Go.Proofs.Ytgmadofbelhmeaa.L
open Go.RowKit Go.Proofs.YtgmadofbelhmeaaW.PrintWords Go.Proofs.YtgmadofbelhmeaaW.PrintLast Go.Proofs.YtgmadofbelhmeaaW.PrintMore
set_option linter.unusedVariables false
set_option linter.unusedSimpArgs false

/-- Shards of one code: in their bounds, all of one length, each once. -/
def Fit (a L : Nat) (l : List S37) : Prop := (∀ s, s ∈ l → 0 ≤ s.f0 ∧ s.f0 < (a : Int) ∧ s.f1.size = L) ∧ l.Pairwise (fun x y => x.f0 ≠ y.f0)
theorem lookAt_zero {a L : Nat} : ∀ (l : List S37) (seen : Nat → Bool), (∀ s, s ∈ l → 0 ≤ s.f0 ∧ s.f0 < (a : Int) ∧ s.f1.size = L ∧ seen s.f0.toNat = false) → l.Pairwise (fun x y => x.f0 ≠ y.f0) → lookAt a L l seen = 0
  | [], _, _, _ => rfl
  | x :: l, seen, h, hp => by
    obtain ⟨h1, h2, h3, h4⟩ := h x (List.mem_cons_self ..)
    have hp' := List.pairwise_cons.1 hp
    unfold lookAt
    rw [if_neg (by omega), if_neg (by omega), if_neg (by omega), if_neg (by rw [h4]; decide)]
    refine lookAt_zero l _ (fun s hs => ?_) hp'.2
    obtain ⟨b1, b2, b3, b4⟩ := h s (List.mem_cons_of_mem _ hs)
    have hne := hp'.1 s hs
    refine ⟨b1, b2, b3, ?_⟩
    rw [if_neg (by omega)]
    exact b4
theorem look_some {n a size : Nat} {l : List S37} (h1 : 1 ≤ n) (ha : n ≤ a) (h16 : a ≤ 16) (hs : size ≤ 800) (hf : Fit a (lenN n size) l) :
    erasure_look.f n a size l = if l.length < n then some (0, 14) else some ((lenN n size : Int), 0) := by
  unfold erasure_look.f
  rw [length_some h1 ha h16 hs, Option.bind_some, if_pos rfl, if_pos (lookAt_zero l _ (fun s hs => ⟨(hf.1 s hs).1, (hf.1 s hs).2.1, (hf.1 s hs).2.2, rfl⟩) hf.2)]
  by_cases h : l.length < n
  · rw [if_pos (by omega), if_pos h]
  · rw [if_neg (by omega), if_neg h]
theorem sortS_sorted (l : List S37) : (sortS l).Pairwise (fun x y => x.f0 ≤ y.f0) := by
  have h := List.pairwise_mergeSort (le := fun a b : S37 => decide (a.f0 ≤ b.f0)) (fun a b c h1 h2 => by simp only [decide_eq_true_eq] at *; omega) (fun a b => by simp only [Bool.or_eq_true, decide_eq_true_eq]; omega) l
  exact h.imp fun h => of_decide_eq_true h
def idxOf (l : List S37) (n : Nat) : List Nat := (usedS l n).map fun s => s.f0.toNat
theorem used_mem {l : List S37} {n : Nat} {s : S37} (h : s ∈ usedS l n) : s ∈ l := (sortS_perm l).mem_iff.1 (List.mem_of_mem_take h)
theorem used_length {l : List S37} {n : Nat} (h : n ≤ l.length) : (usedS l n).length = n := by
  unfold usedS
  rw [List.length_take, sortS_length]
  omega
theorem idx_facts {a L n : Nat} {l : List S37} (hf : Fit a L l) (hn : n ≤ l.length) : (idxOf l n).length = n ∧ (idxOf l n).Pairwise (· < ·) ∧ (∀ x, x ∈ idxOf l n → x < a) ∧ (usedS l n).map S37.f0 = (idxOf l n).map (fun i : Nat => (i : Int)) := by
  refine ⟨by unfold idxOf; rw [List.length_map, used_length hn], ?_, fun x hx => ?_, ?_⟩
  · unfold idxOf
    rw [List.pairwise_map]
    have h1 := sortS_sorted l
    have h2 : (sortS l).Pairwise (fun x y => x.f0 ≠ y.f0) := (List.Perm.pairwise_iff (fun {x y} (h : x.f0 ≠ y.f0) => Ne.symm h) (sortS_perm l)).2 hf.2
    have h3 := (h1.and h2).sublist (List.take_sublist n (sortS l))
    refine List.Pairwise.imp_of_mem ?_ h3
    intro x y hx hy hxy
    have e1 := hf.1 x (used_mem hx)
    have e2 := hf.1 y (used_mem hy)
    omega
  · unfold idxOf at hx
    obtain ⟨s, hs, rfl⟩ := List.mem_map.1 hx
    have := hf.1 s (used_mem hs)
    omega
  · unfold idxOf
    rw [List.map_map]
    refine List.map_congr_left fun s hs => ?_
    have := hf.1 s (used_mem hs)
    show s.f0 = ((s.f0.toNat : Nat) : Int)
    omega

/-! ### Pick -/
section
variable {n a : Nat}
theorem checkR (hR : RowsOk n a) (h1 : 1 ≤ n) (hn : n ≤ 5) (ha : n ≤ a) (ha4 : a ≤ n + 4) {k : Nat} (hk : 300 ≤ k) : matrix_Check.f k (a : Int) (n : Int) (rowsL n a) = some 0 := by
  have hb : a * n ≤ 9 * 5 := Nat.mul_le_mul (by omega) hn
  obtain ⟨k, rfl⟩ : ∃ k', k = k' + 1 := ⟨k - 1, by omega⟩
  unfold matrix_Check.f
  rw [if_neg (by omega), if_neg (by omega), if_neg (by omega)]
  have : decide ((n : Int) > 16) = false := decide_eq_false (by omega)
  rw [this]
  simp only [matrix_Check.j0, Bool.false_eq_true, if_false]
  rw [mulw (i := a) (n := n) (by omega), hR.len, if_pos rfl, ← hR.len]
  exact check_loop hR.el (by rw [hR.len]; omega) (a * n) k 0 (by omega) (by rw [hR.len]; omega) (by omega)
theorem pick_loop (hR : RowsOk n a) (h1 : 1 ≤ n) (hn : n ≤ 5) (ha : n ≤ a) (ha4 : a ≤ n + 4) {idx : List Nat} (hl : idx.length ≤ 16) (hx : ∀ x, x ∈ idx → x < a) : ∀ (m j k : Nat), j + m = idx.length → m + 1 ≤ k →
    matrix_Pick.l0 k (idx.map fun i : Nat => (i : Int)) (idx.length : Int) (j : Int) (a : Int) (n : Int) (rowsL n a) (idx.length : Int) (n : Int) (pickL n a (idx.take j)) = some ((idx.length : Int), (n : Int), pickL n a idx, 0)
  | 0, j, k, hj, hk => by
    obtain ⟨k, rfl⟩ : ∃ k', k = k' + 1 := ⟨k - 1, by omega⟩
    unfold matrix_Pick.l0
    rw [if_neg (by omega), List.take_of_length_le (by omega)]
  | m + 1, j, k, hj, hk => by
    obtain ⟨k, rfl⟩ : ∃ k', k = k' + 1 := ⟨k - 1, by omega⟩
    have hjl : j < idx.length := by omega
    have hxa := hx _ (List.getElem_mem hjl)
    have hrd : rd (idx.map fun i : Nat => (i : Int)) (j : Int) = ((idx[j] : Nat) : Int) := by
      unfold rd
      rw [Int.toNat_natCast, List.getD_eq_getElem?_getD, List.getElem?_map, List.getElem?_eq_getElem hjl]
      rfl
    have htk : idx.take (j + 1) = idx.take j ++ [idx[j]] := by
      rw [List.take_add_one, List.getElem?_eq_getElem hjl]
      rfl
    generalize idx[j] = q at hxa hrd htk
    have hb : (q + 1) * n ≤ a * n := Nat.mul_le_mul_right _ (by omega)
    have hb2 : a * n ≤ 9 * 5 := Nat.mul_le_mul (by omega) hn
    have hb3 : q * n ≤ (q + 1) * n := Nat.mul_le_mul_right _ (by omega)
    unfold matrix_Pick.l0
    rw [if_pos (by omega), if_pos (by omega), if_pos (by rw [List.length_map]; omega), hrd, if_neg (by omega), if_neg (by omega), mulw (i := q) (n := n) (by omega), incw (by omega), mulw (i := q + 1) (n := n) (by omega), if_pos (by omega), if_pos (by omega), if_pos (by rw [hR.len]; omega), Int.toNat_natCast, Int.toNat_natCast, incw (by omega)]
    have hc : ((rowsL n a).take ((q + 1) * n)).drop (q * n) = cut (rowsL n a) n q := rfl
    rw [hc, cutR_length hR hxa]
    have hpl : (pickL n a (idx.take j)).length ≤ 16 * n := by
      have : ∀ l : List Nat, (∀ x, x ∈ l → x < a) → (pickL n a l).length = l.length * n := by
        intro l
        induction l with
        | nil => intro _; simp [pickL]
        | cons y l ih =>
          intro h
          unfold pickL at ih ⊢
          rw [List.flatMap_cons, List.length_append, cutR_length hR (h y (List.mem_cons_self ..)), ih fun x hx' => h x (List.mem_cons_of_mem _ hx'), List.length_cons, Nat.add_mul, Nat.one_mul]
          omega
      rw [this _ fun x hx' => hx x (List.mem_of_mem_take hx'), List.length_take]
      exact Nat.mul_le_mul_right _ (by omega)
    rw [if_pos (by omega)]
    have hp : pickL n a (idx.take j) ++ cut (rowsL n a) n q = pickL n a (idx.take (j + 1)) := by
      rw [htk]
      unfold pickL
      rw [List.flatMap_append]
      simp
    rw [hp]
    exact pick_loop hR h1 hn ha ha4 hl hx m (j + 1) k (by omega) (by omega)
theorem pick_some (hR : RowsOk n a) (h1 : 1 ≤ n) (hn : n ≤ 5) (ha : n ≤ a) (ha4 : a ≤ n + 4) {idx : List Nat} (hl1 : 1 ≤ idx.length) (hl : idx.length ≤ 16) (hx : ∀ x, x ∈ idx → x < a) {k : Nat} (hk : 400 ≤ k) : matrix_Pick.f k (a : Int) (n : Int) (rowsL n a) (idx.map fun i : Nat => (i : Int)) = some ((idx.length : Int), (n : Int), pickL n a idx, 0) := by
  unfold matrix_Pick.f
  rw [checkR hR h1 hn ha ha4 (by omega), Option.bind_some, if_pos rfl, List.length_map, if_neg (by omega)]
  have : decide ((idx.length : Int) > 16) = false := decide_eq_false (by omega)
  rw [this]
  obtain ⟨k, rfl⟩ : ∃ k', k = k' + 1 := ⟨k - 1, by omega⟩
  simp only [matrix_Pick.j0, Bool.false_eq_true, if_false]
  rw [List.length_map]
  exact pick_loop hR h1 hn ha ha4 hl hx idx.length 0 k (by omega) (by omega)
end
theorem inverse_some {n a : Nat} {idx : List Nat} (h1 : 1 ≤ n) (hn : n ≤ 5) (hI : InvOk n a idx) (hp : (pickL n a idx).length = n * n) (hpe : ElL (pickL n a idx)) : matrix_Inverse.f (n : Int) (n : Int) (pickL n a idx) = some ((n : Int), (n : Int), invL n (pickL n a idx), 0) := by
  unfold matrix_Inverse.f
  rw [if_pos ⟨by omega, by omega, rfl, by rw [hp, Int.natCast_mul], hpe⟩, Int.toNat_natCast, hI.full, if_neg (by omega)]
  rfl
end Go.Proofs.Ytgmadofbelhmeaa.L
end
section
/- The plain law of the erasure code, part G: what Decode tells of the shards of one content. -/
namespace Go.Proofs.Ytgmadofbelhmeaa.L
open Go.RowKit Go.Proofs.YtgmadofbelhmeaaW.PrintWords Go.Proofs.YtgmadofbelhmeaaW.PrintLast Go.Proofs.YtgmadofbelhmeaaW.PrintMore
set_option linter.unusedVariables false
set_option linter.unusedSimpArgs false

theorem strOfNums_bt {s : ByteArray} {L : Nat} (h : s.size = L) {F : Nat → Int} (hF : ∀ t, t < L → F t = bt s (t : Int)) : strOfNums ((List.range L).map F) = s := by
  apply ByteArray.ext
  apply Array.ext'
  show ((List.range L).map F).map (fun n => UInt8.ofNat n.toNat) = s.data.toList
  apply List.ext_getElem?
  intro t
  have hs : s.data.toList.length = L := by rw [Array.length_toList]; exact h
  by_cases ht : t < L
  · rw [List.map_map, List.getElem?_map, List.getElem?_range ht, List.getElem?_eq_getElem (by omega)]
    simp only [Option.map_some, Function.comp]
    rw [hF t ht]
    unfold bt
    rw [dif_pos (by rw [Int.toNat_natCast, h]; exact ht), Int.toNat_natCast, UInt8.ofNat_toNat]
    rfl
  · rw [List.getElem?_eq_none (by simp; omega), List.getElem?_eq_none (by omega)]
theorem pickL_getD {n a : Nat} (hR : RowsOk n a) : ∀ (idx : List Nat) (l j : Nat), (∀ x, x ∈ idx → x < a) → (hl : l < idx.length) → j < n → (pickL n a idx).getD (l * n + j) 0 = (cut (rowsL n a) n idx[l]).getD j 0
  | x :: idx, 0, j, h, hl, hj => by
    have hc := cutR_length hR (h x (List.mem_cons_self ..))
    unfold pickL
    rw [List.flatMap_cons, List.getD_eq_getElem?_getD, List.getElem?_append_left (by omega), Nat.zero_mul, Nat.zero_add]
    rfl
  | x :: idx, l + 1, j, h, hl, hj => by
    have hc := cutR_length hR (h x (List.mem_cons_self ..))
    have ih := pickL_getD hR idx l j (fun y hy => h y (List.mem_cons_of_mem _ hy)) (by simpa using hl) hj
    unfold pickL at ih ⊢
    rw [List.flatMap_cons, List.getD_eq_getElem?_getD, List.getElem?_append_right (by rw [hc, Nat.add_mul]; omega), hc, show (l + 1) * n + j - n = l * n + j by rw [Nat.add_mul]; omega, ← List.getD_eq_getElem?_getD, ih]
    rfl
theorem pickL_length {n a : Nat} (hR : RowsOk n a) : ∀ idx : List Nat, (∀ x, x ∈ idx → x < a) → (pickL n a idx).length = idx.length * n
  | [], _ => by simp [pickL]
  | x :: idx, h => by
    have ih := pickL_length hR idx fun y hy => h y (List.mem_cons_of_mem _ hy)
    unfold pickL at ih ⊢
    rw [List.flatMap_cons, List.length_append, cutR_length hR (h x (List.mem_cons_self ..)), ih, List.length_cons, Nat.add_mul]
    omega
theorem pickL_el {n a : Nat} (hR : RowsOk n a) (idx : List Nat) : ElL (pickL n a idx) := by
  intro x hx
  unfold pickL at hx
  obtain ⟨i, _, hi⟩ := List.mem_flatMap.1 hx
  unfold cut at hi
  exact hR.el x (List.mem_of_mem_take (List.mem_of_mem_drop hi))
section
variable {n a L : Nat} {d : ByteArray} {part : List S37}
theorem shardN_fit (hmem : ∀ x, x ∈ part → ∃ i, i < a ∧ x = shardN n a L d i) (hd : part.Pairwise (fun x y => x.f0 ≠ y.f0)) : Fit a L part := by
  refine ⟨fun s hs => ?_, hd⟩
  obtain ⟨i, hi, rfl⟩ := hmem s hs
  refine ⟨by show 0 ≤ (i : Int); omega, by show (i : Int) < a; omega, ?_⟩
  show (strOfNums _).size = L
  rw [strOfNums_size, accL_length]
theorem used_eq (hmem : ∀ x, x ∈ part → ∃ i, i < a ∧ x = shardN n a L d i) : (usedS part n).map S37.f1 = (idxOf part n).map (fun i => (shardN n a L d i).f1) := by
  unfold idxOf
  rw [List.map_map]
  refine List.map_congr_left fun s hs => ?_
  obtain ⟨i, hi, rfl⟩ := hmem s (used_mem hs)
  rfl
theorem nib_back (hR : RowsOk n a) {idx : List Nat} (hl : idx.length = n) (hx : ∀ x, x ∈ idx → x < a) (hI : InvOk n a idx) (hn : n ≤ 5) (hL : L ≤ 801) (hd : d.size = L * n) (N : Int → Int) (hN : ∀ b, By b → El (N b)) (hacc : ∀ (row : List Int) (parts : List ByteArray) (t j : Nat), (∀ i, i < j → El (row.getD i 0)) → N (accB row parts t j) = gsum j (fun i => gm (row.getD i 0) (N (bt (parts.getD i ByteArray.empty) (t : Int)))))
    {i t : Nat} (hi : i < n) (ht : t < L) : N (accB (cut (invL n (pickL n a idx)) n i) (idx.map (fun i => (shardN n a L d i).f1)) t n) = N (bt (partN L d i) (t : Int)) := by
  have hq : ∀ l, El ((cut (invL n (pickL n a idx)) n i).getD l 0) := fun l => elL_getD (fun x hx' => hI.el x (by unfold cut at hx'; exact List.mem_of_mem_take (List.mem_of_mem_drop hx'))) l
  rw [hacc _ _ _ _ fun l _ => hq l]
  have e1 : (gsum n fun l => gm ((cut (invL n (pickL n a idx)) n i).getD l 0) (N (bt ((idx.map (fun i => (shardN n a L d i).f1)).getD l ByteArray.empty) (t : Int)))) =
      gsum n fun l => gm ((invL n (pickL n a idx)).getD (i * n + l) 0) (gsum n fun j => gm ((pickL n a idx).getD (l * n + j) 0) (N (bt (partN L d j) (t : Int)))) := by
    refine gsum_congr n fun l hll => ?_
    have hll' : l < idx.length := by omega
    rw [cut_getD hi hll]
    congr 1
    have hpart : (idx.map (fun i => (shardN n a L d i).f1)).getD l ByteArray.empty = strOfNums (accL (cut (rowsL n a) n idx[l]) (partsN n L d) L n) := by
      rw [List.getD_eq_getElem?_getD, List.getElem?_map, List.getElem?_eq_getElem hll']
      rfl
    have hby := accB_by (row := cut (rowsL n a) n idx[l]) (parts := partsN n L d) t n fun j _ => cut_el hR _ j
    rw [hpart, bt_strOfNums (by rw [accL_length]; exact ht) (by rw [accL_getD _ _ _ ht]; exact hby.1), accL_getD _ _ _ ht, hacc _ _ _ _ fun j _ => cut_el hR _ j]
    refine gsum_congr n fun j hj => ?_
    rw [pickL_getD hR idx l j hx hll' hj, partsN_getD hj]
  rw [e1]
  exact back (Q := fun i l => (invL n (pickL n a idx)).getD (i * n + l) 0) (P := fun l j => (pickL n a idx).getD (l * n + j) 0) (x := fun j => N (bt (partN L d j) (t : Int))) (fun i j _ _ => elL_getD hI.el _) (fun i j _ _ => elL_getD (pickL_el hR idx) _) (fun j _ => hN _ (bt_by _ _)) hI.one hi
theorem dec_shard (hR : RowsOk n a) {idx : List Nat} (hl : idx.length = n) (hx : ∀ x, x ∈ idx → x < a) (hI : InvOk n a idx) (hn : n ≤ 5) (hL : L ≤ 801) (hd : d.size = L * n) {i : Nat} (hi : i < n) : erasure_shard.f KK (cut (invL n (pickL n a idx)) n i) (idx.map (fun i => (shardN n a L d i).f1)) (L : Int) = some (partN L d i) := by
  have hc : (cut (invL n (pickL n a idx)) n i).length = n := cut_length hI.len hi
  have hq : ∀ l, El ((cut (invL n (pickL n a idx)) n i).getD l 0) := fun l => elL_getD (fun x hx' => hI.el x (by unfold cut at hx'; exact List.mem_of_mem_take (List.mem_of_mem_drop hx'))) l
  have h := shard_some (row := cut (invL n (pickL n a idx)) n i) (parts := idx.map (fun i => (shardN n a L d i).f1)) (len := L) (fun j _ => hq j) (by rw [hc, List.length_map, hl]) (fun j hj => by
    rw [List.length_map] at hj
    rw [List.getD_eq_getElem?_getD, List.getElem?_map, List.getElem?_eq_getElem hj]
    show (strOfNums _).size = L
    rw [strOfNums_size, accL_length]) (by omega) (by omega) (k := KK) (by unfold KK; omega)
  rw [h, hc]
  congr 1
  refine strOfNums_bt (partN_size hd hi) fun t ht => ?_
  have hby := accB_by (row := cut (invL n (pickL n a idx)) n i) (parts := idx.map (fun i => (shardN n a L d i).f1)) t n fun j _ => hq j
  refine nib_ext hby.1 (bt_by _ _) ?_ ?_
  · exact nib_back hR hl hx hI hn hL hd lo (fun b hb => lo_el hb) (fun row parts t j h => (accB_by t j h).2.1) hi ht
  · exact nib_back hR hl hx hI hn hL hd Go.Proofs.Ytgmadofbelhmeaa.L.hi (fun b hb => hi_el hb) (fun row parts t j h => (accB_by t j h).2.2) hi ht
theorem dec_to (hR : RowsOk n a) {idx : List Nat} (hl : idx.length = n) (hx : ∀ x, x ∈ idx → x < a) (hI : InvOk n a idx) (hn : n ≤ 5) (hL : L ≤ 801) (hd : d.size = L * n) : ∀ i, i ≤ n → decodeTo (invL n (pickL n a idx)) n (idx.map (fun i => (shardN n a L d i).f1)) (L : Int) i = some (d.data.toList.take (i * L))
  | 0, _ => by
    unfold decodeTo
    rw [Nat.zero_mul]
    rfl
  | i + 1, hi => by
    have hdl : d.data.toList.length = L * n := by rw [Array.length_toList]; exact hd
    have hb : (i + 1) * L ≤ L * n := by rw [Nat.mul_comm L n]; exact Nat.mul_le_mul_right _ hi
    have hb2 : L * n ≤ 801 * 5 := Nat.mul_le_mul hL hn
    unfold decodeTo
    rw [dec_to hR hl hx hI hn hL hd i (by omega), Option.bind_some, dec_shard hR hl hx hI hn hL hd (show i < n from hi), Option.bind_some, partN_size hd (show i < n from hi), if_pos (by rw [List.length_take]; omega)]
    congr 1
    have e : (partN L d i).data.toList = (d.data.toList.drop (i * L)).take L := by
      unfold partN
      rw [ByteArray.data_extract, Array.toList_extract, List.extract_eq_take_drop, Nat.add_mul, Nat.one_mul, Nat.add_sub_cancel_left]
    rw [e, Nat.add_mul, Nat.one_mul, List.take_add]
end
theorem padded_back (n : Nat) (s : ByteArray) : (⟨(padded n s).data.toList.toArray⟩ : ByteArray).extract 0 s.size = s := by
  apply ByteArray.ext
  apply Array.ext'
  rw [ByteArray.data_extract, Array.toList_extract, List.extract_eq_take_drop]
  unfold padded
  rw [ByteArray.data_append]
  simp
end Go.Proofs.Ytgmadofbelhmeaa.L
end
section
/- The plain law of the erasure code, part H: Decode as a whole; the deck. -/
namespace Go.Proofs.Ytgmadofbelhmeaa.L
open Go.RowKit Go.Proofs.YtgmadofbelhmeaaW.PrintWords Go.Proofs.YtgmadofbelhmeaaW.PrintLast Go.Proofs.YtgmadofbelhmeaaW.PrintMore
set_option linter.unusedVariables false
set_option linter.unusedSimpArgs false

theorem decode_some {n a : Nat} {s : ByteArray} (h1 : 1 ≤ n) (hn : n ≤ 5) (ha : n ≤ a) (ha4 : a ≤ n + 4) (hs : s.size ≤ 800) {part : List S37} (hmem : ∀ x, x ∈ part → ∃ i, i < a ∧ x = shardN n a (lenN n s.size) (padded n s) i) (hd : part.Pairwise (fun x y => x.f0 ≠ y.f0)) (hlen : n ≤ part.length) :
    erasure_Decode.f n a s.size part = some (s, 0) := by
  have hf := shardN_fit hmem hd
  obtain ⟨f1, f2, f3, f4⟩ := idx_facts hf hlen
  have hR := rowsM_ok h1 hn ha ha4
  have hI := inv_ok h1 hn ha ha4 f1 f2 f3
  have hpl : (pickL n a (idxOf part n)).length = n * n := by rw [pickL_length hR _ f3, f1]
  have hL := lenN_le h1 hs
  have hsz := padded_size (s := s) h1
  have hge := lenN_ge (size := s.size) h1
  have hpick := pick_some hR h1 hn ha ha4 (idx := idxOf part n) (by omega) (by omega) f3 (k := KK) (by unfold KK; omega)
  rw [f1] at hpick
  have hdec := dec_to (L := lenN n s.size) (d := padded n s) hR f1 f3 hI hn hL hsz n (Nat.le_refl _)
  have hdl : (padded n s).data.toList.length = lenN n s.size * n := by rw [Array.length_toList]; exact hsz
  rw [List.take_of_length_le (by rw [hdl, Nat.mul_comm]; exact Nat.le_refl _)] at hdec
  unfold erasure_Decode.f
  rw [look_some h1 ha (by omega) hs hf, if_neg (by omega), Option.bind_some, if_pos rfl, upk (fun k => erasure_rowsOf.mono _ _ k) (show 300 ≤ KK by unfold KK; omega) hR.rows, Option.bind_some, Int.toNat_natCast, f4, hpick, Option.bind_some, inverse_some h1 hn hI hpl (pickL_el hR _), Option.bind_some, if_pos hI.len, used_eq hmem, hdec, Option.bind_some, if_pos (by rw [hdl]; omega), Int.toNat_natCast, padded_back]
theorem decode_few {n a : Nat} {s : ByteArray} (h1 : 1 ≤ n) (hn : n ≤ 5) (ha : n ≤ a) (ha4 : a ≤ n + 4) (hs : s.size ≤ 800) {part : List S37} (hmem : ∀ x, x ∈ part → ∃ i, i < a ∧ x = shardN n a (lenN n s.size) (padded n s) i) (hd : part.Pairwise (fun x y => x.f0 ≠ y.f0)) (hlen : part.length < n) :
    erasure_Decode.f n a s.size part = some (⟨#[]⟩, 14) := by
  unfold erasure_Decode.f
  rw [look_some h1 ha (by omega) hs (shardN_fit hmem hd), if_pos hlen, Option.bind_some, if_neg (by decide)]

/-! ### the deck -/
theorem next_some {l : List Int} {s m : Int} (hl : l.length ≤ 1000000) (hs : 0 ≤ s) (hm : 1 ≤ m) (hm2 : m ≤ 1000000) : ∃ r s', storagebartermake_Deck_Next.f l s m = some (r, s') ∧ 0 ≤ r ∧ r < m ∧ 0 ≤ s' := by
  unfold storagebartermake_Deck_Next.f
  rw [if_neg (by omega)]
  by_cases h : s ≥ (l.length : Int)
  · rw [if_pos h]
    exact ⟨0, s, rfl, by omega, by omega, hs⟩
  · rw [if_neg h, if_pos hs, if_pos (by omega)]
    unfold storagebartermake_Mod.f
    rw [if_neg (by omega), Option.bind_some]
    have h1 := Int.tmod_lt_of_pos (rd l s) (show 0 < m by omega)
    have h2 : -m < Int.tmod (rd l s) m := by
      have := Int.lt_tmod_of_pos (rd l s) (show 0 < m by omega)
      omega
    rw [w64 (x := Int.tmod (rd l s) m + m) (by omega) (by omega), w64 (x := s + 1) (by omega) (by omega)]
    exact ⟨_, _, rfl, Int.tmod_nonneg _ (by omega), Int.tmod_lt_of_pos _ (by omega), by omega⟩
/-! ### some -/
theorem without_perm {l : List S37} {i : Nat} (h : i < l.length) : (l[i] :: without l i).Perm l := by
  unfold without
  have e : l = l.take i ++ l[i] :: l.drop (i + 1) := by
    rw [← List.drop_eq_getElem_cons h, List.take_append_drop]
  refine List.Perm.trans ?_ (List.Perm.of_eq e.symm)
  exact List.perm_middle.symm
theorem someAt_ok {deck : List Int} {n : Nat} (hdk : deck.length ≤ 1000000) : ∀ (k : Nat) (rest out : List S37) (s : Int), rest.length < k → rest.length ≤ 1000000 → 0 ≤ s → out.length ≤ n → (out ++ rest).Pairwise (fun x y => x.f0 ≠ y.f0) →
    ∃ out' s', someAt deck n k rest out s = some (out', s') ∧ (∀ x, x ∈ out' → x ∈ out ++ rest) ∧ out'.Pairwise (fun x y => x.f0 ≠ y.f0) ∧ out'.length = min n (out.length + rest.length)
  | 0, rest, out, s, h, _, _, _, _ => by omega
  | k + 1, rest, out, s, h, hr, hs, ho, hp => by
    unfold someAt
    by_cases hc : (out.length : Int) < (n : Int) ∧ 0 < rest.length
    · rw [if_pos hc]
      obtain ⟨r, s', e, h0, h1, h2⟩ := next_some (l := deck) (s := s) (m := (rest.length : Int)) hdk hs (by omega) (by omega)
      rw [e, Option.bind_some, if_pos ⟨h0, h1⟩]
      obtain ⟨i, rfl⟩ : ∃ i : Nat, r = (i : Int) := ⟨r.toNat, by omega⟩
      rw [Int.toNat_natCast]
      have hi : i < rest.length := by omega
      have hx : rd_T37 rest (i : Int) = rest[i] := by
        unfold rd_T37
        rw [Int.toNat_natCast, List.getD_eq_getElem?_getD, List.getElem?_eq_getElem hi]
        rfl
      rw [hx]
      have hperm : ((out ++ [rest[i]]) ++ without rest i).Perm (out ++ rest) := by
        rw [List.append_assoc]
        exact List.Perm.append_left out (without_perm hi)
      have hwl := without_length hi
      obtain ⟨out', s'', e2, a1, a2, a3⟩ := someAt_ok (n := n) hdk k (without rest i) (out ++ [rest[i]]) s' (by omega) (by omega) h2 (by rw [List.length_append, List.length_singleton]; omega) ((List.Perm.pairwise_iff (fun {x y} (h : x.f0 ≠ y.f0) => Ne.symm h) hperm).2 hp)
      refine ⟨out', s'', e2, fun x hx' => hperm.mem_iff.1 (a1 x hx'), a2, ?_⟩
      rw [a3, List.length_append, List.length_singleton, hwl]
      omega
    · rw [if_neg hc]
      refine ⟨out, s, rfl, fun x hx => List.mem_append_left _ hx, (List.pairwise_append.1 hp).1, ?_⟩
      omega
end Go.Proofs.Ytgmadofbelhmeaa.L
end
section
/- The plain law, part S: what the rows share: all shards, the sanity check, the code that is drawn. -/
namespace Go.Proofs.Ytgmadofbelhmeaa.Pure
open Go.RowKit Go.Proofs.Ytgmadofbelhmeaa.L Go.Proofs.YtgmadofbelhmeaaW.PrintWords Go.Proofs.YtgmadofbelhmeaaW.PrintLast Go.Proofs.YtgmadofbelhmeaaW.PrintMore
set_option linter.unusedVariables false
set_option linter.unusedSimpArgs false

theorem shardsN_length (n a L : Nat) (d : ByteArray) : (shardsN n a L d).length = a := by simp [shardsN]
theorem shardsN_mem {n a L : Nat} {d : ByteArray} {x : S37} (h : x ∈ shardsN n a L d) : ∃ i, i < a ∧ x = shardN n a L d i := by
  unfold shardsN at h
  obtain ⟨i, hi, rfl⟩ := List.mem_map.1 h
  exact ⟨i, List.mem_range.1 hi, rfl⟩
theorem shardsN_pw (n a L : Nat) (d : ByteArray) : (shardsN n a L d).Pairwise (fun x y => x.f0 ≠ y.f0) := by
  unfold shardsN
  rw [List.pairwise_map]
  refine List.pairwise_lt_range.imp ?_
  intro i j h
  show (i : Int) ≠ (j : Int)
  omega
theorem shardsN_rd {n a L : Nat} {d : ByteArray} {i : Nat} (h : i < a) : rd_T37 (shardsN n a L d) (i : Int) = shardN n a L d i := by
  unfold rd_T37 shardsN
  rw [Int.toNat_natCast, List.getD_eq_getElem?_getD, List.getElem?_map, List.getElem?_range h]
  rfl
def S3 : ByteArray := ⟨#[97, 98, 99]⟩
theorem S3_0 : ((shardN 2 3 (lenN 2 S3.size) (padded 2 S3) 0).f1).data.toList = [97, 98] := by decide +kernel
theorem S3_1 : ((shardN 2 3 (lenN 2 S3.size) (padded 2 S3) 1).f1).data.toList = [99, 0] := by decide +kernel
theorem sane_true {k : Nat} (hk : 1300 ≤ k) : storagebarterlaw07_sane.f k = some true := by
  unfold storagebarterlaw07_sane.f
  have e : erasure_Encode.f k 2 3 (⟨#[97, 98, 99]⟩ : ByteArray) = some (shardsN 2 3 (lenN 2 S3.size) (padded 2 S3), 0) := encode_some (n := 2) (a := 3) (s := S3) (by omega) (by omega) (by omega) (by omega) (by decide) (by omega)
  have hl : (shardsN 2 3 (lenN 2 S3.size) (padded 2 S3)).length = 3 := shardsN_length _ _ _ _
  have hd : erasure_Decode.f 2 3 3 ((shardsN 2 3 (lenN 2 S3.size) (padded 2 S3)).drop 1) = some (S3, 0) := decode_some (n := 2) (a := 3) (s := S3) (by omega) (by omega) (by omega) (by omega) (by decide) (fun x hx => shardsN_mem (List.mem_of_mem_drop hx)) ((shardsN_pw _ _ _ _).sublist (List.drop_sublist _ _)) (by rw [List.length_drop, hl]; omega)
  have hm : mx 0 (wrap64 (((3 : Nat) : Int) - 2)) = 1 := by decide +kernel
  have r0 : rd_T37 (shardsN 2 3 (lenN 2 S3.size) (padded 2 S3)) 0 = shardN 2 3 (lenN 2 S3.size) (padded 2 S3) 0 := shardsN_rd (i := 0) (by omega)
  have r1 : rd_T37 (shardsN 2 3 (lenN 2 S3.size) (padded 2 S3)) 1 = shardN 2 3 (lenN 2 S3.size) (padded 2 S3) 1 := shardsN_rd (i := 1) (by omega)
  rw [e, Option.bind_some]
  simp only
  rw [hl, hm, if_pos (by omega), if_pos (by omega), show (1 : Int).toNat = 1 from rfl, hd, Option.bind_some, if_pos rfl, if_pos trivial, if_pos (by omega), if_pos (by omega), r0, ByteArray.toList_eq, S3_0, if_pos rfl, if_pos (by omega), r1, ByteArray.toList_eq, S3_1, if_pos rfl, ByteArray.toList_eq]
  rfl
theorem code_some {l0 : List Int} (hf : l0.length ≤ 500) : ∃ (n a : Nat) (p : Int), 1 ≤ n ∧ n ≤ 5 ∧ n ≤ a ∧ a ≤ n + 4 ∧ 0 ≤ p ∧ storagebartermake_Code.f l0 0 = some ((n : Int), (a : Int), p) := by
  obtain ⟨x, p1, e1, x0, x1, hp1⟩ := next_some (l := l0) (s := 0) (m := 5) (by omega) (by omega) (by omega) (by omega)
  obtain ⟨y, p2, e2, y0, y1, hp2⟩ := next_some (l := l0) (s := p1) (m := 5) (by omega) hp1 (by omega) (by omega)
  obtain ⟨n, hn⟩ : ∃ n : Nat, 1 + x = (n : Int) := ⟨(1 + x).toNat, by omega⟩
  obtain ⟨a, ha⟩ : ∃ a : Nat, (n : Int) + y = (a : Int) := ⟨((n : Int) + y).toNat, by omega⟩
  have w1 : wrap64 (1 + x) = (n : Int) := (w64 (by omega) (by omega)).trans hn
  have w2 : wrap64 ((n : Int) + y) = (a : Int) := (w64 (by omega) (by omega)).trans ha
  refine ⟨n, a, p2, by omega, by omega, by omega, by omega, hp2, ?_⟩
  unfold storagebartermake_Code.f
  rw [e1, Option.bind_some]
  simp only
  rw [e2, Option.bind_some, w1, w2]
theorem some_some {deck : List Int} {pos : Int} {n : Nat} {l : List S37} (hdk : deck.length ≤ 500) (hpos : 0 ≤ pos) (hl : l.length ≤ 1000000) (hp : l.Pairwise (fun x y => x.f0 ≠ y.f0)) :
    ∃ part p', storagebarterlaw07_some.f deck pos l n = some (part, p') ∧ (∀ x, x ∈ part → x ∈ l) ∧ part.Pairwise (fun x y => x.f0 ≠ y.f0) ∧ part.length = min n l.length := by
  obtain ⟨part, p', e, q1, q2, q3⟩ := someAt_ok (deck := deck) (n := n) (by omega) (l.length + 1) l [] pos (by omega) hl hpos (by simp) hp
  refine ⟨part, p', ?_, fun x hx => ?_, q2, ?_⟩
  · unfold storagebarterlaw07_some.f
    rw [if_pos hl]
    exact e
  · have := q1 x hx
    simpa using this
  · rw [q3]
    simp
theorem without_sublist (l : List S37) (i : Nat) : (without l i).Sublist l := by
  unfold without
  have h : (l.take i ++ l.drop (i + 1)).Sublist (l.take i ++ l.drop i) := List.Sublist.append (List.Sublist.refl _) (by rw [← List.drop_drop]; exact List.drop_sublist _ _)
  rwa [List.take_append_drop] at h
theorem repair_some {n a i : Nat} {s : ByteArray} (h1 : 1 ≤ n) (hn : n ≤ 5) (ha : n ≤ a) (ha4 : a ≤ n + 4) (hs : s.size ≤ 800) {part : List S37} (hmem : ∀ x, x ∈ part → ∃ i, i < a ∧ x = shardN n a (lenN n s.size) (padded n s) i) (hd : part.Pairwise (fun x y => x.f0 ≠ y.f0)) (hlen : n ≤ part.length) (hi : i < a) {k : Nat} (hk : 1300 ≤ k) :
    erasure_Repair.f k n a s.size part i = some ((i : Int), (shardN n a (lenN n s.size) (padded n s) i).f1, 0) := by
  obtain ⟨k, rfl⟩ : ∃ k', k = k' + 1 := ⟨k - 1, by omega⟩
  unfold erasure_Repair.f
  rw [decode_some h1 hn ha ha4 hs hmem hd hlen, Option.bind_some, if_pos rfl, if_neg (by omega), erasure_Repair.j0, if_neg (by rw [decide_eq_false (by omega)]; decide), encode_some h1 hn ha ha4 hs (by omega), Option.bind_some, if_pos rfl, if_pos (by omega)]
  simp only
  rw [shardsN_length, if_pos (by omega), shardsN_rd hi]
  rfl
theorem agreeOne_shard {n a L i : Nat} {d : ByteArray} (hi : i < a) : agreeOne (shardsN n a L d) (shardN n a L d i) = true := by
  unfold agreeOne
  have h0 : (shardN n a L d i).f0 = (i : Int) := rfl
  rw [h0, shardsN_rd hi, h0]
  simp
theorem agree_all {n a : Nat} {s : ByteArray} (h1 : 1 ≤ n) (hn : n ≤ 5) (ha : n ≤ a) (ha4 : a ≤ n + 4) (hs : s.size ≤ 800) {k : Nat} (hk : 1300 ≤ k) {part : List S37} (hmem : ∀ x, x ∈ part → ∃ i, i < a ∧ x = shardN n a (lenN n s.size) (padded n s) i) (hd : part.Pairwise (fun x y => x.f0 ≠ y.f0)) (hlen : n ≤ part.length) :
    erasure_Agree.f k n a s.size part = some (true, 0) := by
  unfold erasure_Agree.f
  rw [decode_some h1 hn ha ha4 hs hmem hd hlen, Option.bind_some, if_pos rfl]
  simp only
  rw [encode_some h1 hn ha ha4 hs (by omega), Option.bind_some, if_pos rfl]
  simp only
  rw [if_pos, List.all_eq_true.2]
  · intro x hx
    obtain ⟨i, hi, rfl⟩ := hmem x hx
    exact agreeOne_shard hi
  · intro j hj
    obtain ⟨i, hi, e⟩ := hmem _ (rd_T37_mem hj)
    rw [e, shardsN_length]
    have h0 : (shardN n a (lenN n s.size) (padded n s) i).f0 = (i : Int) := rfl
    rw [h0]
    omega
end Go.Proofs.Ytgmadofbelhmeaa.Pure
end
section
/- A row of bytes that a conversion of a string has made: read, stored into, made a string again. -/
namespace Go.Proofs.Ytgmadofbelhmeaa.L
open Go.RowKit Go.Proofs.YtgmadofbelhmeaaW.PrintWords Go.Proofs.YtgmadofbelhmeaaW.PrintLast Go.Proofs.YtgmadofbelhmeaaW.PrintMore
set_option linter.unusedVariables false
set_option linter.unusedSimpArgs false
/-- The bytes xs lie ahead in block g, which a conversion made. -/
def BRow (w : World) (g c : Nat) (xs : List Int) : Prop := ∃ cur : Array Value, w.heap[g]? = some (.cells cur 5 (c, c + 1)) ∧ cur.size = c ∧ xs.length ≤ c ∧ xs.length ≤ 1000000 ∧ ∀ j, j < xs.length → cur[j]? = some (.int .u8 (xs.getD j 0))
theorem conv_bytes (W : World) (s : ByteArray) (hs : s.size ≤ 1000000) : ∃ c w', (convert 9 43 (.string s)).run Try.prog W = .ok (.slice (some ⟨W.heap.size, 0, none⟩) s.size c) w' ∧ BRow w' W.heap.size c (bytesOf s) ∧ Below W.heap.size W w' ∧ s.size ≤ c := by
  have hge := grownCap_ge W s.size 0 5
  have hsz : (Lib.bytesCells W 5 s).size = grownCap W s.size 0 5 := by
    unfold Lib.bytesCells
    rw [Array.size_append, Array.size_map, Array.size_replicate]
    show s.size + _ = _
    omega
  refine ⟨_, _, print_bytes (P := Try.prog) 9 43 5 Try.underlying9 Try.underlying43 Try.underlying5 s W, ⟨Lib.bytesCells W 5 s, ?_, hsz, ?_, ?_, fun j hj => ?_⟩, bytes_below (Below.refl _ _) (Nat.le_refl _) 5 s, hge⟩
  · have h := Lib.bytesWorld_at_new W 5 s
    rw [hsz] at h
    exact h
  · rw [bytesOf_length]; exact hge
  · rw [bytesOf_length]; exact hs
  · rw [bytesOf_length] at hj
    have h' : j < s.data.toList.length := by rw [data_length]; exact hj
    have h := Lib.bytesWorld_cell W 5 s j hj
    rw [cell_of_row _ _ j _ 5 _ (Lib.bytesWorld_at_new W 5 s)] at h
    rw [h]
    simp [bytesOf, List.getD_eq_getElem?_getD, List.getElem?_eq_getElem h']
theorem BRow.lt {w : World} {g c : Nat} {xs : List Int} (h : BRow w g c xs) : g < w.heap.size := by
  obtain ⟨cur, h1, _⟩ := h
  exact (Array.getElem?_eq_some_iff.1 h1).1
theorem BRow.cell {w : World} {g c : Nat} {xs : List Int} (h : BRow w g c xs) {j : Nat} (hj : j < xs.length) : w.cell? ⟨g, j, none⟩ = some (.int .u8 (xs.getD j 0)) := by
  obtain ⟨cur, h1, h2, h3, h4, h5⟩ := h
  rw [cell_of_row w g j cur 5 _ h1]
  exact h5 j hj
theorem BRow.frozen {w : World} {g c : Nat} {xs : List Int} (h : BRow w g c xs) {j : Nat} (hj : j < xs.length) : w.frozen? ⟨g, j, none⟩ = false := by
  obtain ⟨cur, h1, h2, h3, h4, h5⟩ := h
  simp only [World.frozen?, h1, Bool.and_eq_false_iff, decide_eq_false_iff_not]
  left
  omega
theorem BRow.set {w : World} {g c : Nat} {xs : List Int} (h : BRow w g c xs) (j : Nat) (v : Int) : BRow (w.setCell ⟨g, j, none⟩ (.int .u8 v)) g c (xs.set j v) := by
  obtain ⟨cur, h1, h2, h3, h4, h5⟩ := h
  refine ⟨cur.setIfInBounds j (.int .u8 v), by simp [World.setCell, Array.getElem?_modify, h1], by rw [Array.size_setIfInBounds, h2], by rw [List.length_set]; exact h3, by rw [List.length_set]; exact h4, fun t ht => ?_⟩
  rw [List.length_set] at ht
  by_cases e : j = t
  · subst e
    rw [Array.getElem?_setIfInBounds_self_of_lt (by omega), List.getD_eq_getElem?_getD, List.getElem?_set_self ht]
    rfl
  · rw [Array.getElem?_setIfInBounds_ne e, List.getD_eq_getElem?_getD, List.getElem?_set_ne e, ← List.getD_eq_getElem?_getD]
    exact h5 t ht
theorem BRow.block {w w' : World} {g c : Nat} {xs : List Int} (h : BRow w g c xs) (he : w'.heap[g]? = w.heap[g]?) : BRow w' g c xs := by
  obtain ⟨cur, h1, h2⟩ := h
  exact ⟨cur, he.trans h1, h2⟩
theorem BRow.below {w w' : World} {g c : Nat} {xs : List Int} (h : BRow w g c xs) (hb : Below w.heap.size w w') : BRow w' g c xs := h.block (hb.block g h.lt)
theorem BRow.alloc {w : World} {g c : Nat} {xs : List Int} (h : BRow w g c xs) (o : Obj) : BRow (w.alloc o) g c xs := h.below (below_alloc (Below.refl _ _) o)
theorem BRow.reads {w : World} {g c : Nat} {xs : List Int} (h : BRow w g c xs) : ReadsInt w .u8 (some ⟨g, 0, none⟩) xs.length xs :=
  ⟨rfl, by obtain ⟨_, _, _, _, h4, _⟩ := h; omega, fun _ => ⟨_, rfl, fun j hj => by rw [add_plain]; exact h.cell hj⟩⟩
theorem BRow.string {w : World} {g c : Nat} {xs : List Int} (h : BRow w g c xs) : (convert 43 9 (.slice (some ⟨g, 0, none⟩) xs.length c)).run Try.prog w = .ok (.string (strOfNums xs)) w :=
  string_of_reads Try.underlying43 Try.underlying5 Try.underlying9 h.reads
end Go.Proofs.Ytgmadofbelhmeaa.L
end
section
/- A shard's data stored anew in a row of shards. -/
namespace Go.Proofs.Ytgmadofbelhmeaa.L
open Go.RowKit Go.Proofs.YtgmadofbelhmeaaW.PrintWords Go.Proofs.YtgmadofbelhmeaaW.PrintLast Go.Proofs.YtgmadofbelhmeaaW.PrintMore
set_option linter.unusedVariables false
set_option linter.unusedSimpArgs false
/-- The row with the data of element k put anew. -/
def setData (l : List S37) (k : Nat) (s : ByteArray) : List S37 := l.set k ⟨(rd_T37 l (k : Int)).f0, s⟩
theorem setData_length (l : List S37) (k : Nat) (s : ByteArray) : (setData l k s).length = l.length := List.length_set ..
theorem rd_T37_get {l : List S37} {k : Nat} (h : k < l.length) : rd_T37 l (k : Int) = l[k] := by
  unfold rd_T37
  rw [Int.toNat_natCast, List.getD_eq_getElem?_getD, List.getElem?_eq_getElem h]
  rfl
theorem setData_get {l : List S37} {k j : Nat} {s : ByteArray} (hk : k < l.length) (hj : j < l.length) : rd_T37 (setData l k s) (j : Int) = if k = j then ⟨(rd_T37 l (k : Int)).f0, s⟩ else rd_T37 l (j : Int) := by
  rw [rd_T37_get (by rw [setData_length]; exact hj), rd_T37_get hj]
  unfold setData
  rw [List.getElem_set]
theorem C37_set {W : World} {g n k : Nat} {l : List S37} {t : TypeId} {cur : Array Value} {s : ByteArray} (hb : W.heap[g]? = some (.cells cur t (0, 0))) (h : Kd.C k37 W (some ⟨g, 0, none⟩) n l) (hl : l.length ≤ 1000000) (hk : k < l.length) :
    Kd.C k37 (W.setCell ⟨g, k * 2 + 1, none⟩ (.string s)) (some ⟨g, 0, none⟩) (setData l k s).length (setData l k s) := by
  have hc := cells_of_C37 h
  simp only [add_plain] at hc
  refine C37_of_cells (by rw [setData_length]; exact hl) fun j u hj => ?_
  rw [add_plain]
  have hq := cells37_get (setData l k s) (j / 2)
  have hq2 := cells37_get l (j / 2)
  have hjl := (List.getElem?_eq_some_iff.1 hj).1
  rw [cells37_length, setData_length] at hjl
  have hj2 : j / 2 < l.length := by omega
  have hset := blk_set hb (k * 2 + 1) (.string s)
  have hcur : ∀ j u, (cells37 l)[j]? = some u → cur[j]? = some u := fun j u h' => by
    have := hc j u h'
    rwa [blk_cell hb] at this
  rw [blk_cell hset]
  have hks : k * 2 + 1 < cur.size := by
    have h1 := (cells37_get l k).2
    rw [List.getElem?_eq_getElem hk] at h1
    have h2 := hcur _ _ h1
    exact (Array.getElem?_eq_some_iff.1 h2).1
  by_cases e : k * 2 + 1 = j
  · subst e
    rw [Array.getElem?_setIfInBounds_self_of_lt hks]
    have hd : (k * 2 + 1) / 2 = k := by omega
    rw [hd] at hq
    have h2 := hq.2
    rw [hj] at h2
    unfold setData at h2
    rw [List.getElem?_set_self hk] at h2
    exact h2.symm
  · rw [Array.getElem?_setIfInBounds_ne e]
    refine hcur j u ?_
    rw [← hj]
    rcases Nat.mod_two_eq_zero_or_one j with hm | hm
    · have e1 : j / 2 * 2 = j := by omega
      rw [e1] at hq hq2
      rw [hq.1, hq2.1]
      unfold setData
      by_cases ek : k = j / 2
      · rw [← ek, List.getElem?_set_self hk, List.getElem?_eq_getElem hk, ← rd_T37_get hk]
        rfl
      · rw [List.getElem?_set_ne ek]
    · have e1 : j / 2 * 2 + 1 = j := by omega
      rw [e1] at hq hq2
      rw [hq.2, hq2.2]
      unfold setData
      rw [List.getElem?_set_ne (by omega)]
end Go.Proofs.Ytgmadofbelhmeaa.L
end
section
/- The plain law, part S2: Decode of shards of which only those with the least indices are known; Decode always answers; equal shards. -/
namespace Go.Proofs.Ytgmadofbelhmeaa.Pure
open Go.RowKit Go.Proofs.Ytgmadofbelhmeaa.L Go.Proofs.YtgmadofbelhmeaaW.PrintWords Go.Proofs.YtgmadofbelhmeaaW.PrintLast Go.Proofs.YtgmadofbelhmeaaW.PrintMore
set_option linter.unusedVariables false
set_option linter.unusedSimpArgs false
theorem used_eq' {n a L : Nat} {d : ByteArray} {part : List S37} (hmem : ∀ x, x ∈ usedS part n → ∃ i, i < a ∧ x = shardN n a L d i) : (usedS part n).map S37.f1 = (idxOf part n).map (fun i => (shardN n a L d i).f1) := by
  unfold idxOf
  rw [List.map_map]
  refine List.map_congr_left fun s hs => ?_
  obtain ⟨i, hi, rfl⟩ := hmem s hs
  rfl
theorem decode_used {n a : Nat} {s : ByteArray} (h1 : 1 ≤ n) (hn : n ≤ 5) (ha : n ≤ a) (ha4 : a ≤ n + 4) (hs : s.size ≤ 800) {part : List S37} (hf : Fit a (lenN n s.size) part) (hmem : ∀ x, x ∈ usedS part n → ∃ i, i < a ∧ x = shardN n a (lenN n s.size) (padded n s) i) (hlen : n ≤ part.length) :
    erasure_Decode.f n a s.size part = some (s, 0) := by
  obtain ⟨f1, f2, f3, f4⟩ := idx_facts hf hlen
  have hR := rowsM_ok h1 hn ha ha4
  have hI := inv_ok h1 hn ha ha4 f1 f2 f3
  have hpl : (pickL n a (idxOf part n)).length = n * n := by rw [pickL_length hR _ f3, f1]
  have hL := lenN_le h1 hs
  have hsz := padded_size (s := s) h1
  have hge := lenN_ge (size := s.size) h1
  have hpick := pick_some hR h1 hn ha ha4 (idx := idxOf part n) (by omega) (by omega) f3 (k := KK) (by unfold KK; omega)
  rw [f1] at hpick
  have hdec := dec_to (L := lenN n s.size) (d := padded n s) hR f1 f3 hI hn hL hsz n (Nat.le_refl _)
  have hdl : (padded n s).data.toList.length = lenN n s.size * n := by rw [Array.length_toList]; exact hsz
  rw [List.take_of_length_le (by rw [hdl, Nat.mul_comm]; exact Nat.le_refl _)] at hdec
  unfold erasure_Decode.f
  rw [look_some h1 ha (by omega) hs hf, if_neg (by omega), Option.bind_some, if_pos rfl, upk (fun k => erasure_rowsOf.mono _ _ k) (show 300 ≤ KK by unfold KK; omega) hR.rows, Option.bind_some, Int.toNat_natCast, f4, hpick, Option.bind_some, inverse_some h1 hn hI hpl (pickL_el hR _), Option.bind_some, if_pos hI.len, used_eq' hmem, hdec, Option.bind_some, if_pos (by rw [hdl]; omega), Int.toNat_natCast, padded_back]
theorem decodeTo_tot {n L : Nat} {q : List Int} {P : List ByteArray} (hq : ElL q) (hql : q.length = n * n) (hP : P.length = n) (hPs : ∀ p, p ∈ P → p.size = L) (hn : n ≤ 5) (hL : L ≤ 801) : ∀ i, i ≤ n → ∃ b, decodeTo q n P (L : Int) i = some b ∧ b.length = i * L
  | 0, _ => ⟨[], rfl, by simp⟩
  | i + 1, hi => by
    obtain ⟨b, hb, hbl⟩ := decodeTo_tot hq hql hP hPs hn hL i (by omega)
    have hc : (cut q n i).length = n := cut_length hql hi
    have h := shard_some (row := cut q n i) (parts := P) (len := L) (fun j _ => elL_getD (fun x hx' => hq x (by unfold cut at hx'; exact List.mem_of_mem_take (List.mem_of_mem_drop hx'))) j) (by rw [hc, hP]) (fun j hj => by
      rw [List.getD_eq_getElem?_getD, List.getElem?_eq_getElem hj]
      exact hPs _ (List.getElem_mem hj)) (by omega) (by omega) (k := KK) (by unfold KK; omega)
    have hsz : (strOfNums (accL (cut q n i) P L (cut q n i).length)).size = L := by rw [strOfNums_size, accL_length]
    have hb2 : i * L ≤ 5 * 801 := Nat.mul_le_mul (by omega) hL
    refine ⟨b ++ (strOfNums (accL (cut q n i) P L (cut q n i).length)).data.toList, ?_, ?_⟩
    · unfold decodeTo
      rw [hb, Option.bind_some, h, Option.bind_some, if_pos (by rw [hbl, hsz]; omega)]
    · rw [List.length_append, hbl, Array.length_toList, Nat.add_mul, Nat.one_mul]
      congr 1
theorem decode_tot {n a size : Nat} (h1 : 1 ≤ n) (hn : n ≤ 5) (ha : n ≤ a) (ha4 : a ≤ n + 4) (hs : size ≤ 800) {part : List S37} (hf : Fit a (lenN n size) part) (hlen : n ≤ part.length) :
    ∃ d : ByteArray, d.size = size ∧ erasure_Decode.f n a size part = some (d, 0) := by
  obtain ⟨f1, f2, f3, f4⟩ := idx_facts hf hlen
  have hR := rowsM_ok h1 hn ha ha4
  have hI := inv_ok h1 hn ha ha4 f1 f2 f3
  have hpl : (pickL n a (idxOf part n)).length = n * n := by rw [pickL_length hR _ f3, f1]
  have hL := lenN_le h1 hs
  have hge := lenN_ge (size := size) h1
  have hpick := pick_some hR h1 hn ha ha4 (idx := idxOf part n) (by omega) (by omega) f3 (k := KK) (by unfold KK; omega)
  rw [f1] at hpick
  obtain ⟨b, hdec, hbl⟩ := decodeTo_tot (L := lenN n size) (P := (usedS part n).map S37.f1) hI.el hI.len (by rw [List.length_map, used_length hlen]) (fun p hp => by
    obtain ⟨s, hs', rfl⟩ := List.mem_map.1 hp
    exact (hf.1 s (used_mem hs')).2.2) hn hL n (Nat.le_refl _)
  have hbs : size ≤ b.length := by rw [hbl, Nat.mul_comm]; exact hge
  refine ⟨(⟨b.toArray⟩ : ByteArray).extract 0 size, ?_, ?_⟩
  · rw [ByteArray.size_extract]
    show min size b.toArray.size - 0 = size
    rw [List.size_toArray]
    omega
  · unfold erasure_Decode.f
    rw [look_some h1 ha (by omega) hs hf, if_neg (by omega), Option.bind_some, if_pos rfl, upk (fun k => erasure_rowsOf.mono _ _ k) (show 300 ≤ KK by unfold KK; omega) hR.rows, Option.bind_some, Int.toNat_natCast, f4, hpick, Option.bind_some, inverse_some h1 hn hI hpl (pickL_el hR _), Option.bind_some, if_pos hI.len, hdec, Option.bind_some, if_pos (by omega), Int.toNat_natCast]
theorem toList_inj {x y : ByteArray} (h : x.toList = y.toList) : x = y := by
  rw [ByteArray.toList_eq, ByteArray.toList_eq] at h
  exact ByteArray.ext (Array.ext' h)
theorem strOfNums_bytesOf (x : ByteArray) : strOfNums (bytesOf x) = x := by
  apply ByteArray.ext
  apply Array.ext'
  show (bytesOf x).map (fun n => UInt8.ofNat n.toNat) = x.data.toList
  unfold bytesOf
  rw [List.map_map]
  conv => rhs; rw [← List.map_id x.data.toList]
  refine List.map_congr_left fun b _ => ?_
  show UInt8.ofNat ((b.toNat : Int)).toNat = b
  rw [Int.toNat_natCast]
  exact UInt8.ofNat_toNat
/-- What agrees with the shards of d is a shard of d. -/
theorem agreeOne_is {n a L : Nat} {d : ByteArray} {x : S37} {t : Nat} (ht : t < a) (hx : x.f0 = (t : Int)) (h : agreeOne (shardsN n a L d) x = true) : x = shardN n a L d t := by
  unfold agreeOne at h
  rw [hx, shardsN_rd ht, Bool.and_eq_true] at h
  have h2 : (shardN n a L d t).f1.toList = x.f1.toList := by simpa using h.2
  have h3 := toList_inj h2
  cases x with
  | mk f0 f1 =>
    subst hx
    subst h3
    rfl
theorem next_pos {l : List Int} {s m r s' : Int} (hl : l.length ≤ 1000000) (hs : 0 ≤ s) (h : storagebartermake_Deck_Next.f l s m = some (r, s')) : 0 ≤ s' := by
  unfold storagebartermake_Deck_Next.f at h
  split at h
  · injection h with h
    injection h with _ h
    omega
  · split at h
    · injection h with h
      injection h with _ h
      omega
    · rw [if_pos (by omega)] at h
      obtain ⟨t, _, h⟩ := Option.bind_eq_some_iff.1 h
      injection h with h
      injection h with _ h
      rw [w64 (by omega) (by omega)] at h
      omega
theorem someAt_pos {deck : List Int} {n : Int} (hdk : deck.length ≤ 1000000) : ∀ (k : Nat) (rest out : List S37) (s : Int) (out' : List S37) (s' : Int), 0 ≤ s → someAt deck n k rest out s = some (out', s') → 0 ≤ s'
  | 0, rest, out, s, out', s', hs, h => by
    unfold someAt at h
    cases h
  | k + 1, rest, out, s, out', s', hs, h => by
    unfold someAt at h
    split at h
    · obtain ⟨t, ht, h⟩ := Option.bind_eq_some_iff.1 h
      split at h
      · exact someAt_pos hdk k _ _ _ _ _ (next_pos hdk hs ht) h
      · cases h
    · injection h with h
      injection h with _ h
      omega
end Go.Proofs.Ytgmadofbelhmeaa.Pure
end
