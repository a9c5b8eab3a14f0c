/- Texts of this claim, put together by a small program of the session's own: PA, PB, PC0, PC1, PC2, PC3, PC, PD, PE, PF, PG, PH, PureErasureAny. -/
import Derived.Test.YtgmadofbelhmeaaG2
import Derived.Test.YtgmadofbelhmeaaG1
import Derived.Test.YtgmadofbelhmeaaG3
import Derived.Test.YtgmadofbelhmeaaG4
import Derived.Test.YtgmadofbelhmeaaG5
section
/- The plain law of the erasure code, part A: the field, bytes, combine, shard. -/
namespace Go.Proofs.Ytgmadofbelhmeaa.L
open Go.RowKit Go.Proofs.YtgmadofbelhmeaaW.PrintWords Go.Proofs.YtgmadofbelhmeaaW.PrintLast Go.Proofs.YtgmadofbelhmeaaW.PrintMore
set_option linter.unusedVariables false
set_option linter.unusedSimpArgs false

/-! ### more rounds -/
theorem upk {α : Type} {g : Nat → Option α} (h : ∀ k, LeO (g k) (g (k + 1))) {k k' : Nat} (hk : k ≤ k') {r : α} (hr : g k = some r) : g k' = some r := by
  have := more_rounds h k (k' - k) r hr
  rwa [Nat.add_sub_cancel' hk] at this

/-! ### the field -/
theorem f_dist : ∀ a b c : Fin 16, gm a.1 (gx b.1 c.1) = gx (gm a.1 b.1) (gm a.1 c.1) ∧ gm (gx b.1 c.1) a.1 = gx (gm b.1 a.1) (gm c.1 a.1) := by decide +kernel
theorem f_assoc : ∀ a b c : Fin 16, gm a.1 (gm b.1 c.1) = gm (gm a.1 b.1) c.1 ∧ gx a.1 (gx b.1 c.1) = gx (gx a.1 b.1) c.1 := by decide +kernel
theorem f_comm : ∀ a b : Fin 16, gx a.1 b.1 = gx b.1 a.1 ∧ gx a.1 0 = a.1 ∧ gx 0 a.1 = a.1 ∧ gm a.1 0 = 0 ∧ gm 0 a.1 = 0 ∧ gm 1 a.1 = a.1 ∧ gm a.1 1 = a.1 := by decide +kernel
theorem gm_gx {a b c : Int} (ha : El a) (hb : El b) (hc : El c) : gm a (gx b c) = gx (gm a b) (gm a c) := by
  obtain ⟨i, rfl⟩ := ha.fin; obtain ⟨j, rfl⟩ := hb.fin; obtain ⟨k, rfl⟩ := hc.fin
  exact (f_dist i j k).1
theorem gx_gm {a b c : Int} (ha : El a) (hb : El b) (hc : El c) : gm (gx b c) a = gx (gm b a) (gm c a) := by
  obtain ⟨i, rfl⟩ := ha.fin; obtain ⟨j, rfl⟩ := hb.fin; obtain ⟨k, rfl⟩ := hc.fin
  exact (f_dist i j k).2
theorem gm_gm {a b c : Int} (ha : El a) (hb : El b) (hc : El c) : gm a (gm b c) = gm (gm a b) c := by
  obtain ⟨i, rfl⟩ := ha.fin; obtain ⟨j, rfl⟩ := hb.fin; obtain ⟨k, rfl⟩ := hc.fin
  exact (f_assoc i j k).1
theorem gx_gx {a b c : Int} (ha : El a) (hb : El b) (hc : El c) : gx a (gx b c) = gx (gx a b) c := by
  obtain ⟨i, rfl⟩ := ha.fin; obtain ⟨j, rfl⟩ := hb.fin; obtain ⟨k, rfl⟩ := hc.fin
  exact (f_assoc i j k).2
theorem gx_comm {a b : Int} (ha : El a) (hb : El b) : gx a b = gx b a := by
  obtain ⟨i, rfl⟩ := ha.fin; obtain ⟨j, rfl⟩ := hb.fin
  exact (f_comm i j).1
theorem gx_0 {a : Int} (ha : El a) : gx a 0 = a ∧ gx 0 a = a ∧ gm a 0 = 0 ∧ gm 0 a = 0 ∧ gm 1 a = a ∧ gm a 1 = a := by
  obtain ⟨i, rfl⟩ := ha.fin
  exact (f_comm i i).2
theorem El0 : El 0 := ⟨by decide, by decide⟩
theorem El1 : El 1 := ⟨by decide, by decide⟩
/-- The sum of n elements. -/
def gsum (n : Nat) (F : Nat → Int) : Int := match n with
  | 0 => 0
  | n + 1 => gx (gsum n F) (F n)
theorem gsum_el {F : Nat → Int} : ∀ n, (∀ j, j < n → El (F j)) → El (gsum n F)
  | 0, _ => El0
  | n + 1, h => gx_el (gsum_el n fun j hj => h j (by omega)) (h n (by omega))
theorem gsum_congr {F G : Nat → Int} : ∀ n, (∀ j, j < n → F j = G j) → gsum n F = gsum n G
  | 0, _ => rfl
  | n + 1, h => by
    show gx _ _ = gx _ _
    rw [gsum_congr n fun j hj => h j (by omega), h n (by omega)]
theorem gsum_zero : ∀ n, gsum n (fun _ => 0) = 0
  | 0 => rfl
  | n + 1 => by
    show gx _ _ = _
    rw [gsum_zero n]
    exact (gx_0 El0).1
theorem gsum_mul {F : Nat → Int} {c : Int} (hc : El c) : ∀ n, (∀ j, j < n → El (F j)) → gm c (gsum n F) = gsum n fun j => gm c (F j)
  | 0, _ => (gx_0 hc).2.2.1
  | n + 1, h => by
    show gm c (gx _ _) = gx _ _
    rw [gm_gx hc (gsum_el n fun j hj => h j (by omega)) (h n (by omega)), gsum_mul hc n fun j hj => h j (by omega)]
theorem gsum_mul' {F : Nat → Int} {c : Int} (hc : El c) : ∀ n, (∀ j, j < n → El (F j)) → gm (gsum n F) c = gsum n fun j => gm (F j) c
  | 0, _ => (gx_0 hc).2.2.2.1
  | n + 1, h => by
    show gm (gx _ _) c = gx _ _
    rw [gx_gm hc (gsum_el n fun j hj => h j (by omega)) (h n (by omega)), gsum_mul' hc n fun j hj => h j (by omega)]
theorem gsum_add {F G : Nat → Int} : ∀ n, (∀ j, j < n → El (F j)) → (∀ j, j < n → El (G j)) → (gsum n fun j => gx (F j) (G j)) = gx (gsum n F) (gsum n G)
  | 0, _, _ => ((gx_0 El0).1).symm
  | n + 1, hF, hG => by
    have e1 := gsum_el n fun j hj => hF j (Nat.lt_succ_of_lt hj)
    have e2 := gsum_el n fun j hj => hG j (Nat.lt_succ_of_lt hj)
    have e3 := hF n (Nat.lt_succ_self n)
    have e4 := hG n (Nat.lt_succ_self n)
    show gx _ (gx _ _) = gx (gx _ _) (gx _ _)
    rw [gsum_add n (fun j hj => hF j (Nat.lt_succ_of_lt hj)) (fun j hj => hG j (Nat.lt_succ_of_lt hj))]
    rw [← gx_gx e1 e2 (gx_el e3 e4), gx_gx e2 e3 e4, gx_comm e2 e3, ← gx_gx e3 e2 e4, gx_gx e1 e3 (gx_el e2 e4)]
theorem gsum_swap {F : Nat → Nat → Int} (m : Nat) : ∀ n, (∀ i j, i < n → j < m → El (F i j)) → (gsum n fun i => gsum m fun j => F i j) = gsum m fun j => gsum n fun i => F i j
  | 0, _ => (gsum_zero m).symm
  | n + 1, h => by
    show gx _ _ = gsum m fun j => gx _ _
    rw [gsum_swap m n fun i j hi hj => h i j (by omega) hj, gsum_add m (fun j hj => gsum_el n fun i hi => h i j (by omega) hj) (fun j hj => h n j (by omega) hj)]
/-- Only one element is not nought. -/
theorem gsum_unit {F : Nat → Int} {i : Nat} : ∀ n, (∀ j, j < n → El (F j)) → (gsum n fun j => gm (if i = j then 1 else 0) (F j)) = if i < n then F i else 0
  | 0, _ => by simp [gsum]
  | n + 1, h => by
    show gx _ (gm (if i = n then 1 else 0) (F n)) = _
    rw [gsum_unit n fun j hj => h j (by omega)]
    have hn := h n (by omega)
    by_cases e : i = n
    · subst e
      rw [if_neg (by omega), if_pos rfl, if_pos (by omega), (gx_0 hn).2.2.2.2.1, (gx_0 hn).2.1]
    · rw [if_neg e, (gx_0 hn).2.2.2.1]
      by_cases hi : i < n
      · rw [if_pos hi, if_pos (by omega), (gx_0 (h i (by omega))).1]
      · rw [if_neg hi, if_neg (by omega), (gx_0 El0).1]
/-- What was made by P and is taken back by Q. -/
theorem back {n : Nat} {Q P : Nat → Nat → Int} {x : Nat → Int} (hQ : ∀ i j, i < n → j < n → El (Q i j)) (hP : ∀ i j, i < n → j < n → El (P i j)) (hx : ∀ j, j < n → El (x j))
    (hI : ∀ i j, i < n → j < n → (gsum n fun l => gm (Q i l) (P l j)) = if i = j then 1 else 0) {i : Nat} (hi : i < n) : (gsum n fun l => gm (Q i l) (gsum n fun j => gm (P l j) (x j))) = x i := by
  have e1 : (gsum n fun l => gm (Q i l) (gsum n fun j => gm (P l j) (x j))) = gsum n fun l => gsum n fun j => gm (gm (Q i l) (P l j)) (x j) := by
    refine gsum_congr n fun l hl => ?_
    rw [gsum_mul (hQ i l hi hl) n fun j hj => gm_el (hP l j hl hj) (hx j hj)]
    exact gsum_congr n fun j hj => gm_gm (hQ i l hi hl) (hP l j hl hj) (hx j hj)
  rw [e1, gsum_swap n n fun l j hl hj => gm_el (gm_el (hQ i l hi hl) (hP l j hl hj)) (hx j hj)]
  have e2 : (gsum n fun j => gsum n fun l => gm (gm (Q i l) (P l j)) (x j)) = gsum n fun j => gm (if i = j then 1 else 0) (x j) := by
    refine gsum_congr n fun j hj => ?_
    rw [← gsum_mul' (hx j hj) n fun l hl => gm_el (hQ i l hi hl) (hP l j hl hj), hI i j hi hj]
  rw [e2, gsum_unit n hx, if_pos hi]

/-! ### bytes -/
def By (b : Int) : Prop := 0 ≤ b ∧ b ≤ 255
theorem By.fin {a : Int} (h : By a) : ∃ i : Fin 256, a = (i.1 : Int) := ⟨⟨a.toNat, by unfold By at h; omega⟩, by unfold By at h; simp; omega⟩
def lo (b : Int) : Int := Go.bits .and .i64 b 15
def hi (b : Int) : Int := Go.bits .and .i64 (b / 16) 15
def x8 (a b : Int) : Int := Go.bits .xor .u8 a b
def pack (l h : Int) : Int := (Go.bits .or .i64 l (wrap64 (h * 16))) % 256
def mulb (c b : Int) : Int := pack (gm c (lo b)) (gm c (hi b))
theorem b_nib : ∀ a : Fin 256, El (lo a.1) ∧ El (hi a.1) ∧ (a.1 : Int) = lo a.1 + 16 * hi a.1 := by
  unfold El
  decide +kernel
theorem b_pack : ∀ a b : Fin 16, By (pack a.1 b.1) ∧ lo (pack a.1 b.1) = a.1 ∧ hi (pack a.1 b.1) = b.1 := by
  unfold By
  decide +kernel
theorem b_nat : ∀ a : Fin 256, lo a.1 = ((a.1 % 16 : Nat) : Int) ∧ hi a.1 = ((a.1 / 16 : Nat) : Int) := by decide +kernel
theorem gx_nat : ∀ a b : Fin 16, gx a.1 b.1 = ((a.1 ^^^ b.1 : Nat) : Int) := by decide +kernel
theorem x8_nat {m n : Nat} (hm : m < 256) (hn : n < 256) : x8 m n = ((m ^^^ n : Nat) : Int) := by
  have hx : m ^^^ n < 256 := Nat.xor_lt_two_pow (n := 8) hm hn
  show IntKind.u8.wrap (((BitVec.ofInt 8 (m : Int) ^^^ BitVec.ofInt 8 (n : Int) : BitVec 8).toNat : Nat) : Int) = _
  rw [BitVec.toNat_xor, BitVec.ofInt_natCast, BitVec.ofInt_natCast, BitVec.toNat_ofNat, BitVec.toNat_ofNat, Nat.mod_eq_of_lt (show m < 2 ^ 8 from hm), Nat.mod_eq_of_lt (show n < 2 ^ 8 from hn)]
  generalize m ^^^ n = q at hx
  rw [IntKind.wrap_u8]
  omega
theorem b_x8 {a b : Int} (ha : By a) (hb : By b) : By (x8 a b) ∧ lo (x8 a b) = gx (lo a) (lo b) ∧ hi (x8 a b) = gx (hi a) (hi b) := by
  obtain ⟨i, rfl⟩ := ha.fin
  obtain ⟨j, rfl⟩ := hb.fin
  have hx : i.1 ^^^ j.1 < 256 := Nat.xor_lt_two_pow (n := 8) i.2 j.2
  rw [x8_nat i.2 j.2]
  have h1 := b_nat ⟨i.1 ^^^ j.1, hx⟩
  have h2 := b_nat i
  have h3 := b_nat j
  simp only at h1
  rw [h1.1, h1.2, h2.1, h2.2, h3.1, h3.2]
  have e1 := gx_nat ⟨i.1 % 16, by omega⟩ ⟨j.1 % 16, by omega⟩
  have e2 := gx_nat ⟨i.1 / 16, by omega⟩ ⟨j.1 / 16, by omega⟩
  simp only at e1 e2
  rw [e1, e2]
  refine ⟨⟨by omega, by omega⟩, ?_, ?_⟩
  · rw [Nat.xor_mod_two_pow (n := 4)]
  · rw [Nat.xor_div_two_pow (n := 4)]
end Go.Proofs.Ytgmadofbelhmeaa.L
end
section
/- The plain law of the erasure code, part B: combine and shard. -/
namespace Go.Proofs.Ytgmadofbelhmeaa.L
open Go.RowKit Go.Proofs.YtgmadofbelhmeaaW.PrintWords Go.Proofs.YtgmadofbelhmeaaW.PrintLast Go.Proofs.YtgmadofbelhmeaaW.PrintMore
set_option linter.unusedVariables false
set_option linter.unusedSimpArgs false

theorem bt_by (s : ByteArray) (i : Int) : By (bt s i) := bt_range s i
theorem lo_el {b : Int} (h : By b) : El (lo b) := by
  obtain ⟨i, rfl⟩ := h.fin
  exact (b_nib i).1
theorem hi_el {b : Int} (h : By b) : El (hi b) := by
  obtain ⟨i, rfl⟩ := h.fin
  exact (b_nib i).2.1
theorem nib_ext {a b : Int} (ha : By a) (hb : By b) (h1 : lo a = lo b) (h2 : hi a = hi b) : a = b := by
  obtain ⟨i, rfl⟩ := ha.fin
  obtain ⟨j, rfl⟩ := hb.fin
  have e1 := (b_nib i).2.2
  have e2 := (b_nib j).2.2
  rw [e1, e2, h1, h2]
theorem mulb_by {c b : Int} (hc : El c) (hb : By b) : By (mulb c b) ∧ lo (mulb c b) = gm c (lo b) ∧ hi (mulb c b) = gm c (hi b) := by
  unfold mulb
  obtain ⟨i, hi'⟩ := (gm_el hc (lo_el hb)).fin
  obtain ⟨j, hj'⟩ := (gm_el hc (hi_el hb)).fin
  rw [hi', hj']
  exact b_pack i j
theorem halves_eq {b : Int} (hb : By b) : erasure_halves_int.f (wrap64 b) = some (lo b, hi b) := by
  have h1 : wrap64 b = b := w64 (by have := hb.1; omega) (by have := hb.2; omega)
  rw [h1]
  rfl
theorem emul_some {k : Nat} (hk : 40 ≤ k) {a b : Int} (ha : El a) (hb : El b) : erasure_mul.f k a b = some (gm a b) := by
  have h : erasure_mul.f 40 a b = some (gm a b) := gm_some ha hb
  exact upk (fun k => erasure_mul.mono a b k) hk h
/-- What combine leaves, having gone over the first t bytes. -/
def comb (acc : List Int) (c : Int) (s : ByteArray) (t : Nat) : List Int := mid acc (fun i => x8 (acc.getD i 0) (mulb c (bt s (i : Int)))) t
theorem combine_loop {acc : List Int} {c : Int} {s : ByteArray} (hc : El c) (hl : s.size = acc.length) (hs : s.size ≤ 1000000) : ∀ (m t k : Nat), t + m = s.size → m + 41 ≤ k →
    erasure_combine.l0 k (comb acc c s t) c s (s.size : Int) (t : Int) = some (comb acc c s s.size)
  | 0, t, k, ht, hk => by
    obtain ⟨k, rfl⟩ : ∃ k', k = k' + 1 := ⟨k - 1, by omega⟩
    unfold erasure_combine.l0
    rw [if_neg (by omega)]
    obtain rfl : t = s.size := by omega
    rfl
  | m + 1, t, k, ht, hk => by
    obtain ⟨k, rfl⟩ : ∃ k', k = k' + 1 := ⟨k - 1, by omega⟩
    have hlen : (comb acc c s t).length = acc.length := mid_length _ _ _
    unfold erasure_combine.l0
    have hb := bt_by s (t : Int)
    rw [if_pos (by omega), if_pos (by omega), if_pos (by omega), halves_eq hb]
    simp only [Option.bind_some]
    rw [if_pos (by omega), emul_some (by omega) hc (lo_el hb)]
    simp only [Option.bind_some]
    rw [emul_some (by omega) hc (hi_el hb)]
    simp only [Option.bind_some]
    rw [show wrap64 ((t : Int) + 1) = ((t + 1 : Nat) : Int) from (w64 (by omega) (by omega)).trans rfl]
    have hrd : rd (comb acc c s t) (t : Int) = acc.getD t 0 := by
      unfold rd
      rw [Int.toNat_natCast]
      unfold comb
      rw [mid_getD _ _ _ _ (by omega), if_neg (Nat.lt_irrefl _)]
    rw [hrd, Int.toNat_natCast]
    have hset : (comb acc c s t).set t (Go.bits .xor .u8 (acc.getD t 0) ((Go.bits .or .i64 (gm c (lo (bt s (t : Int)))) (wrap64 (gm c (hi (bt s (t : Int))) * 16))) % 256)) = comb acc c s (t + 1) := mid_set acc (fun i => x8 (acc.getD i 0) (mulb c (bt s (i : Int)))) t
    rw [hset]
    exact combine_loop hc hl hs m (t + 1) k (by omega) (by omega)
theorem combine_some {acc : List Int} {c : Int} {s : ByteArray} (hc : El c) (hl : s.size = acc.length) (hs : s.size ≤ 1000000) {k : Nat} (hk : s.size + 41 ≤ k) : erasure_combine.f k acc c s = some (comb acc c s s.size) := by
  have h := combine_loop hc hl hs s.size 0 k (by omega) hk
  unfold comb at h
  rw [mid_zero] at h
  exact h
/-- Byte t of the combination of the first j parts. -/
def accB (row : List Int) (parts : List ByteArray) (t : Nat) : Nat → Int
  | 0 => 0
  | j + 1 => x8 (accB row parts t j) (mulb (row.getD j 0) (bt (parts.getD j ByteArray.empty) (t : Int)))
def accL (row : List Int) (parts : List ByteArray) (len j : Nat) : List Int := (List.range len).map fun t => accB row parts t j
theorem accL_length (row : List Int) (parts : List ByteArray) (len j : Nat) : (accL row parts len j).length = len := by simp [accL]
theorem accL_getD (row : List Int) (parts : List ByteArray) {len t : Nat} (j : Nat) (h : t < len) : (accL row parts len j).getD t 0 = accB row parts t j := by
  unfold accL
  rw [List.getD_eq_getElem?_getD, List.getElem?_map, List.getElem?_range h]
  rfl
theorem comb_accL {row : List Int} {parts : List ByteArray} {len : Nat} (j : Nat) : comb (accL row parts len j) (row.getD j 0) (parts.getD j ByteArray.empty) len = accL row parts len (j + 1) := by
  apply List.ext_getElem?
  intro t
  by_cases ht : t < len
  · have h1 : ∀ l : List Int, l.length = len → l[t]? = some (l.getD t 0) := fun l hl => by
      rw [List.getD_eq_getElem?_getD, List.getElem?_eq_getElem (by omega)]
      rfl
    rw [h1 _ (by unfold comb; rw [mid_length, accL_length]), h1 _ (accL_length _ _ _ _), accL_getD _ _ _ ht]
    unfold comb
    rw [mid_getD _ _ _ _ (by rw [accL_length]; exact ht), if_pos ht, accL_getD _ _ _ ht]
    rfl
  · rw [List.getElem?_eq_none (by unfold comb; rw [mid_length, accL_length]; omega), List.getElem?_eq_none (by rw [accL_length]; omega)]
theorem shard_loop {row : List Int} {parts : List ByteArray} {len : Nat} (hr : ∀ j, j < row.length → El (row.getD j 0)) (hl : row.length = parts.length) (hp : ∀ j, j < parts.length → (parts.getD j ByteArray.empty).size = len) (hs : len ≤ 1000000) (hn : row.length ≤ 1000) :
    ∀ (m j k : Nat), j + m = row.length → m + len + 42 ≤ k → erasure_shard.l0 k parts (accL row parts len j) row (row.length : Int) (j : Int) = some (strOfNums (accL row parts len row.length))
  | 0, j, k, hj, hk => by
    obtain ⟨k, rfl⟩ : ∃ k', k = k' + 1 := ⟨k - 1, by omega⟩
    unfold erasure_shard.l0
    rw [if_neg (by omega)]
    obtain rfl : j = row.length := by omega
    rfl
  | m + 1, j, k, hj, hk => by
    obtain ⟨k, rfl⟩ : ∃ k', k = k' + 1 := ⟨k - 1, by omega⟩
    unfold erasure_shard.l0
    rw [if_pos (by omega), if_pos (by omega), if_pos (by omega), if_pos (by omega)]
    have h1 : rd row (j : Int) = row.getD j 0 := by unfold rd; rw [Int.toNat_natCast]
    have h2 : rdOf ByteArray.empty parts (j : Int) = parts.getD j ByteArray.empty := by unfold rdOf; rw [Int.toNat_natCast]
    have hpj := hp j (by omega)
    rw [h1, h2, combine_some (hr j (by omega)) (by rw [accL_length]; exact hpj) (by omega) (by omega), hpj, comb_accL]
    simp only [Option.bind_some]
    rw [show wrap64 ((j : Int) + 1) = ((j + 1 : Nat) : Int) from (w64 (by omega) (by omega)).trans rfl]
    exact shard_loop hr hl hp hs hn m (j + 1) k (by omega) (by omega)
theorem shard_some {row : List Int} {parts : List ByteArray} {len : Nat} (hr : ∀ j, j < row.length → El (row.getD j 0)) (hl : row.length = parts.length) (hp : ∀ j, j < parts.length → (parts.getD j ByteArray.empty).size = len) (hs : len ≤ 1000000) (hn : row.length ≤ 1000)
    {k : Nat} (hk : row.length + len + 42 ≤ k) : erasure_shard.f k row parts (len : Int) = some (strOfNums (accL row parts len row.length)) := by
  unfold erasure_shard.f
  rw [if_pos (by omega), if_pos (by rw [Int.toNat_natCast]; omega), Int.toNat_natCast]
  have h0 : List.replicate len (0 : Int) = accL row parts len 0 := by
    unfold accL
    apply List.ext_getElem?
    intro t
    rw [List.getElem?_replicate, List.getElem?_map]
    by_cases ht : t < len
    · rw [if_pos ht, List.getElem?_range ht]; rfl
    · rw [if_neg ht, List.getElem?_eq_none (by simp; omega)]; rfl
  rw [h0]
  exact shard_loop hr hl hp hs hn row.length 0 k (by omega) hk
theorem accB_by {row : List Int} {parts : List ByteArray} (t : Nat) : ∀ j, (∀ i, i < j → El (row.getD i 0)) → By (accB row parts t j) ∧ lo (accB row parts t j) = gsum j (fun i => gm (row.getD i 0) (lo (bt (parts.getD i ByteArray.empty) (t : Int)))) ∧ hi (accB row parts t j) = gsum j (fun i => gm (row.getD i 0) (hi (bt (parts.getD i ByteArray.empty) (t : Int))))
  | 0, _ => by
    refine ⟨⟨Int.le_refl 0, ?_⟩, ?_, ?_⟩
    · show (0 : Int) ≤ 255
      decide
    · show lo 0 = 0
      decide +kernel
    · show hi 0 = 0
      decide +kernel
  | j + 1, h => by
    obtain ⟨h1, h2, h3⟩ := accB_by t j fun i hi => h i (by omega)
    have hm := mulb_by (h j (by omega)) (bt_by (parts.getD j ByteArray.empty) (t : Int))
    have hx := b_x8 h1 hm.1
    refine ⟨hx.1, ?_, ?_⟩
    · exact hx.2.1.trans (by rw [h2, hm.2.1]; rfl)
    · exact hx.2.2.trans (by rw [h3, hm.2.2]; rfl)
theorem bt_strOfNums {l : List Int} {t : Nat} (h : t < l.length) (hb : By (l.getD t 0)) : bt (strOfNums l) (t : Int) = l.getD t 0 := by
  unfold bt
  have hs : (t : Int).toNat < (strOfNums l).size := by rw [strOfNums_size, Int.toNat_natCast]; exact h
  rw [dif_pos hs]
  have hg : l.getD t 0 = l[t] := by rw [List.getD_eq_getElem?_getD, List.getElem?_eq_getElem h]; rfl
  rw [hg] at hb ⊢
  have e : (strOfNums l)[(t : Int).toNat]'hs = UInt8.ofNat (l[t]).toNat := by
    show (strOfNums l).data[(t : Int).toNat]'hs = _
    simp [strOfNums]
  rw [e, UInt8.toNat_ofNat_of_lt' (by have := hb.1; have := hb.2; show _ < 256; omega)]
  have := hb.1
  omega
end Go.Proofs.Ytgmadofbelhmeaa.L
end
section
/- The plain law of the erasure code, part C: the codes' matrices, as functions. -/
namespace Go.Proofs.Ytgmadofbelhmeaa.L
open Go.RowKit Go.Proofs.YtgmadofbelhmeaaW.PrintWords Go.Proofs.YtgmadofbelhmeaaW.PrintLast Go.Proofs.YtgmadofbelhmeaaW.PrintMore
set_option linter.unusedVariables false
set_option linter.unusedSimpArgs false

def rowsL (n a : Nat) : List Int := ((erasure_rowsOf.f 300 n a).getD (0, 0, [])).2.2
def pickL (n a : Nat) (idx : List Nat) : List Int := idx.flatMap fun i => cut (rowsL n a) n i
def invL (n : Nat) (p : List Int) : List Int := tails (invRows p n).1 n n
def elB (x : Int) : Bool := decide (0 ≤ x) && decide (x ≤ 15)
def okRows (n a : Nat) : Bool := decide (erasure_rowsOf.f 300 n a = some ((a : Int), (n : Int), rowsL n a)) && decide ((rowsL n a).length = a * n) && (rowsL n a).all elB && (List.range n).all fun i => (List.range n).all fun j => decide ((rowsL n a).getD (i * n + j) 0 = if i = j then 1 else 0)
def okQ (n : Nat) (p q : List Int) : Bool := decide (q.length = n * n) && q.all elB && (List.range n).all fun i => (List.range n).all fun j => decide (gsum n (fun l => gm (q.getD (i * n + l) 0) (p.getD (l * n + j) 0)) = if i = j then 1 else 0)
def okIdx (n a : Nat) (idx : List Nat) : Bool :=
  let r := invRows (pickL n a idx) n
  decide (r.2 = n) && okQ n (pickL n a idx) (tails r.1 n n)
/-- The growing rows of n numbers from b on and under a. -/
def subs (a : Nat) : Nat → Nat → List (List Nat)
  | 0, _ => [[]]
  | n + 1, b => (List.range a).flatMap fun x => if b ≤ x then (subs a n (x + 1)).map (x :: ·) else []
def chk (n a : Nat) : Bool := okRows n a && (subs a n 0).all (okIdx n a)
set_option maxRecDepth 100000
end Go.Proofs.Ytgmadofbelhmeaa.L
end
section
/- The codes' matrices looked through: all but 5 of 9. -/
namespace Go.Proofs.Ytgmadofbelhmeaa.L
open Go.RowKit Go.Proofs.YtgmadofbelhmeaaW.PrintWords Go.Proofs.YtgmadofbelhmeaaW.PrintLast Go.Proofs.YtgmadofbelhmeaaW.PrintMore
set_option linter.unusedVariables false
set_option linter.unusedSimpArgs false

set_option maxRecDepth 100000
theorem chk1 : ∀ d : Fin 5, chk 1 (1 + d.1) = true := by decide +kernel
theorem chk2 : ∀ d : Fin 5, chk 2 (2 + d.1) = true := by decide +kernel
theorem chk3 : ∀ d : Fin 5, chk 3 (3 + d.1) = true := by decide +kernel
theorem chk4 : ∀ d : Fin 5, chk 4 (4 + d.1) = true := by decide +kernel
theorem chk50 : chk 5 5 = true := by decide +kernel
theorem chk51 : chk 5 6 = true := by decide +kernel
theorem chk52 : chk 5 7 = true := by decide +kernel
theorem chk53 : chk 5 8 = true := by decide +kernel
end Go.Proofs.Ytgmadofbelhmeaa.L
end
section
/- The codes' matrices looked through: 5 of 9, one half. -/
namespace Go.Proofs.Ytgmadofbelhmeaa.L
open Go.RowKit Go.Proofs.YtgmadofbelhmeaaW.PrintWords Go.Proofs.YtgmadofbelhmeaaW.PrintLast Go.Proofs.YtgmadofbelhmeaaW.PrintMore
set_option linter.unusedVariables false
set_option linter.unusedSimpArgs false

set_option maxRecDepth 100000
theorem chk54r : okRows 5 9 = true := by decide +kernel
theorem chk54a : (((subs 9 5 0).take 32).all (okIdx 5 9)) = true := by decide +kernel
theorem chk54b : ((((subs 9 5 0).drop 32).take 32).all (okIdx 5 9)) = true := by decide +kernel
end Go.Proofs.Ytgmadofbelhmeaa.L
end
section
/- The codes' matrices looked through: 5 of 9, the other half. -/
namespace Go.Proofs.Ytgmadofbelhmeaa.L
open Go.RowKit Go.Proofs.YtgmadofbelhmeaaW.PrintWords Go.Proofs.YtgmadofbelhmeaaW.PrintLast Go.Proofs.YtgmadofbelhmeaaW.PrintMore
set_option linter.unusedVariables false
set_option linter.unusedSimpArgs false

set_option maxRecDepth 100000
theorem chk54c : ((((subs 9 5 0).drop 64).take 32).all (okIdx 5 9)) = true := by decide +kernel
theorem chk54d : (((subs 9 5 0).drop 96).all (okIdx 5 9)) = true := by decide +kernel
end Go.Proofs.Ytgmadofbelhmeaa.L
end
section
/- The plain law of the erasure code, part C: the codes' matrices, looked through. -/
namespace Go.Proofs.Ytgmadofbelhmeaa.L
open Go.RowKit Go.Proofs.YtgmadofbelhmeaaW.PrintWords Go.Proofs.YtgmadofbelhmeaaW.PrintLast Go.Proofs.YtgmadofbelhmeaaW.PrintMore
set_option linter.unusedVariables false
set_option linter.unusedSimpArgs false

theorem all_cut {α : Type} {p : α → Bool} {l : List α} (k : Nat) (h1 : (l.take k).all p = true) (h2 : (l.drop k).all p = true) : l.all p = true := by
  rw [← List.take_append_drop k l, List.all_append, h1, h2]
  rfl
theorem chk54 : chk 5 9 = true := by
  unfold chk
  rw [chk54r, Bool.true_and]
  refine all_cut 32 chk54a (all_cut 32 chk54b ?_)
  rw [List.drop_drop]
  refine all_cut 32 chk54c ?_
  rw [List.drop_drop]
  exact chk54d
theorem chk_all {n a : Nat} (h1 : 1 ≤ n) (h5 : n ≤ 5) (ha : n ≤ a) (ha4 : a ≤ n + 4) : chk n a = true := by
  obtain ⟨d, rfl⟩ : ∃ d, a = n + d := ⟨a - n, by omega⟩
  have hd : d < 5 := by omega
  match n, h1, h5 with
  | 1, _, _ => exact chk1 ⟨d, hd⟩
  | 2, _, _ => exact chk2 ⟨d, hd⟩
  | 3, _, _ => exact chk3 ⟨d, hd⟩
  | 4, _, _ => exact chk4 ⟨d, hd⟩
  | 5, _, _ =>
    match d, hd with
    | 0, _ => exact chk50
    | 1, _ => exact chk51
    | 2, _ => exact chk52
    | 3, _ => exact chk53
    | 4, _ => exact chk54
theorem mem_subs {a : Nat} : ∀ (l : List Nat) (b : Nat), l.Pairwise (· < ·) → (∀ x, x ∈ l → b ≤ x ∧ x < a) → l ∈ subs a l.length b
  | [], b, _, _ => by simp [subs]
  | x :: l, b, hp, hl => by
    have hx := hl x (List.mem_cons_self ..)
    have hp' := List.pairwise_cons.1 hp
    have ih := mem_subs l (x + 1) hp'.2 fun y hy => ⟨hp'.1 y hy, (hl y (List.mem_cons_of_mem _ hy)).2⟩
    show x :: l ∈ (List.range a).flatMap _
    rw [List.mem_flatMap]
    refine ⟨x, List.mem_range.2 hx.2, ?_⟩
    rw [if_pos hx.1]
    exact List.mem_map.2 ⟨l, ih, rfl⟩
theorem elB_el {x : Int} (h : elB x = true) : El x := by
  unfold elB at h
  simp only [Bool.and_eq_true, decide_eq_true_eq] at h
  exact h
theorem all_el {l : List Int} (h : l.all elB = true) : ElL l := fun x hx => elB_el (List.all_eq_true.1 h x hx)
theorem elL_getD {l : List Int} (h : ElL l) (j : Nat) : El (l.getD j 0) := by
  rw [List.getD_eq_getElem?_getD]
  by_cases hj : j < l.length
  · rw [List.getElem?_eq_getElem hj]
    exact h _ (List.getElem_mem hj)
  · rw [List.getElem?_eq_none (by omega)]
    exact El0
structure RowsOk (n a : Nat) : Prop where
  rows : erasure_rowsOf.f 300 n a = some ((a : Int), (n : Int), rowsL n a)
  len : (rowsL n a).length = a * n
  el : ElL (rowsL n a)
  unit : ∀ i j, i < n → j < n → (rowsL n a).getD (i * n + j) 0 = if i = j then 1 else 0
structure InvOk (n a : Nat) (idx : List Nat) : Prop where
  full : (invRows (pickL n a idx) n).2 = n
  len : (invL n (pickL n a idx)).length = n * n
  el : ElL (invL n (pickL n a idx))
  one : ∀ i j, i < n → j < n → (gsum n fun l => gm ((invL n (pickL n a idx)).getD (i * n + l) 0) ((pickL n a idx).getD (l * n + j) 0)) = if i = j then 1 else 0
theorem rowsM_ok {n a : Nat} (h1 : 1 ≤ n) (h5 : n ≤ 5) (ha : n ≤ a) (ha4 : a ≤ n + 4) : RowsOk n a := by
  have h := chk_all h1 h5 ha ha4
  unfold chk okRows at h
  simp only [Bool.and_eq_true, decide_eq_true_eq, List.all_eq_true (p := fun i => (List.range n).all _), List.mem_range] at h
  obtain ⟨⟨⟨⟨a1, a2⟩, a3⟩, a4⟩, _⟩ := h
  refine ⟨a1, a2, all_el a3, fun i j hi hj => ?_⟩
  have := a4 i hi
  rw [List.all_eq_true] at this
  exact of_decide_eq_true (this j (List.mem_range.2 hj))
theorem inv_ok {n a : Nat} (h1 : 1 ≤ n) (h5 : n ≤ 5) (ha : n ≤ a) (ha4 : a ≤ n + 4) {idx : List Nat} (hl : idx.length = n) (hp : idx.Pairwise (· < ·)) (hx : ∀ x, x ∈ idx → x < a) : InvOk n a idx := by
  have h := chk_all h1 h5 ha ha4
  unfold chk at h
  simp only [Bool.and_eq_true] at h
  have hm := mem_subs idx 0 hp fun x hx' => ⟨Nat.zero_le _, hx x hx'⟩
  rw [hl] at hm
  have h2 := List.all_eq_true.1 h.2 idx hm
  unfold okIdx okQ at h2
  simp only [Bool.and_eq_true, decide_eq_true_eq] at h2
  obtain ⟨b1, ⟨b2, b3⟩, b4⟩ := h2
  refine ⟨b1, b2, all_el b3, fun i j hi hj => ?_⟩
  have := List.all_eq_true.1 b4 i (List.mem_range.2 hi)
  rw [List.all_eq_true] at this
  exact of_decide_eq_true (this j (List.mem_range.2 hj))
end Go.Proofs.Ytgmadofbelhmeaa.L
end
section
/- The plain law of the erasure code, part D: what Encode tells. -/
namespace Go.Proofs.Ytgmadofbelhmeaa.L
open Go.RowKit Go.Proofs.YtgmadofbelhmeaaW.PrintWords Go.Proofs.YtgmadofbelhmeaaW.PrintLast Go.Proofs.YtgmadofbelhmeaaW.PrintMore
set_option linter.unusedVariables false
set_option linter.unusedSimpArgs false

/-- The length of the shards of size bytes. -/
def lenN (n size : Nat) : Nat := if size % n > 0 then size / n + 1 else size / n
theorem lenN_le {n size : Nat} (hn : 1 ≤ n) (hs : size ≤ 800) : lenN n size ≤ 801 := by
  unfold lenN
  have := Nat.div_le_self size n
  split <;> omega
theorem lenN_ge {n size : Nat} (hn : 1 ≤ n) : size ≤ lenN n size * n := by
  unfold lenN
  have h := Nat.div_add_mod size n
  have hm := Nat.mod_lt size (show n > 0 by omega)
  rw [Nat.mul_comm] at h
  split
  · rw [Nat.add_mul, Nat.one_mul]
    omega
  · omega
theorem lenN_top {n size : Nat} (hn : 1 ≤ n) (hn5 : n ≤ 5) (hs : size ≤ 800) : lenN n size * n ≤ 5000 := by
  have := Nat.mul_le_mul (lenN_le hn hs) hn5
  omega
theorem check_some {n a : Nat} (h1 : 1 ≤ n) (ha : n ≤ a) (h16 : a ≤ 16) : erasure_Check.f n a = some 0 := by
  unfold erasure_Check.f
  rw [if_neg (by omega), if_neg (by omega), if_neg (by omega)]
theorem length_some {n a size : Nat} (h1 : 1 ≤ n) (ha : n ≤ a) (h16 : a ≤ 16) (hs : size ≤ 800) : erasure_Length.f n a size = some ((lenN n size : Int), 0) := by
  unfold erasure_Length.f
  rw [check_some h1 ha h16]
  simp only [Option.bind_some, if_true]
  have e1 : Int.tmod (size : Int) (n : Int) = ((size % n : Nat) : Int) := Int.ofNat_tmod size n
  have e2 : Int.tdiv (size : Int) (n : Int) = ((size / n : Nat) : Int) := Int.ofNat_tdiv size n
  have hd := Nat.div_le_self size n
  rw [if_neg (by omega), if_neg (by omega), e1, e2]
  unfold lenN
  generalize size / n = q at hd ⊢
  have w1 : wrap64 (q : Int) = (q : Int) := w64 (by omega) (by omega)
  have w2 : wrap64 ((q : Int) + 1) = (q : Int) + 1 := w64 (by omega) (by omega)
  rw [w1, w2]
  by_cases hm : size % n > 0
  · rw [if_pos (by omega), if_neg (by omega), if_pos hm]
    rfl
  · rw [if_neg (by omega), if_neg (by omega), if_neg hm]
theorem repeatL_replicate (x : UInt8) : ∀ c, Lib.repeatL [x] c = List.replicate c x
  | 0 => rfl
  | c + 1 => by
    show [x] ++ Lib.repeatL [x] c = _
    rw [repeatL_replicate x c]
    rfl
theorem size_rep (c : Nat) : (⟨(List.replicate c (0 : UInt8)).toArray⟩ : ByteArray).size = c := by
  show (List.replicate c (0 : UInt8)).toArray.size = c
  rw [List.size_toArray, List.length_replicate]
theorem repeat_some {c : Nat} (h : c ≤ 100000) : strings_Repeat.f (⟨#[0]⟩ : ByteArray) (c : Int) = some ⟨(List.replicate c (0 : UInt8)).toArray⟩ := by
  unfold strings_Repeat.f
  have h1 : (⟨#[0]⟩ : ByteArray).size = 1 := rfl
  have h2 : (⟨#[0]⟩ : ByteArray).data.toList = [0] := rfl
  rw [Int.toNat_natCast, h1, h2, repeatL_replicate, if_pos ⟨by omega, by omega, by omega⟩]
/-- The data, filled up with noughts. -/
def padded (n : Nat) (s : ByteArray) : ByteArray := s ++ ⟨(List.replicate (lenN n s.size * n - s.size) (0 : UInt8)).toArray⟩
theorem padded_size {n : Nat} {s : ByteArray} (hn : 1 ≤ n) : (padded n s).size = lenN n s.size * n := by
  unfold padded
  rw [ByteArray.size_append]
  have h := lenN_ge (size := s.size) hn
  rw [size_rep]
  omega
def partN (L : Nat) (d : ByteArray) (j : Nat) : ByteArray := d.extract (j * L) ((j + 1) * L)
def partsN (n L : Nat) (d : ByteArray) : List ByteArray := (List.range n).map (partN L d)
theorem partsN_length (n L : Nat) (d : ByteArray) : (partsN n L d).length = n := by simp [partsN]
theorem partsN_getD {n L : Nat} {d : ByteArray} {j : Nat} (h : j < n) : (partsN n L d).getD j ByteArray.empty = partN L d j := by
  unfold partsN
  rw [List.getD_eq_getElem?_getD, List.getElem?_map, List.getElem?_range h]
  rfl
theorem partN_size {n L : Nat} {d : ByteArray} (hd : d.size = L * n) {j : Nat} (h : j < n) : (partN L d j).size = L := by
  unfold partN
  have : (j + 1) * L ≤ L * n := by rw [Nat.mul_comm L n]; exact Nat.mul_le_mul_right _ h
  rw [ByteArray.size_extract, hd, Nat.min_eq_left this, Nat.add_mul, Nat.one_mul]
  omega
theorem mulw {i n : Nat} (h : i * n ≤ 1000000) : wrap64 ((i : Int) * (n : Int)) = ((i * n : Nat) : Int) := by
  rw [← Int.natCast_mul, w64] <;> omega
theorem incw {i : Nat} (h : i ≤ 1000000) : wrap64 ((i : Int) + 1) = ((i + 1 : Nat) : Int) := (w64 (by omega) (by omega)).trans rfl
/-- Shard i. -/
def shardN (n a L : Nat) (d : ByteArray) (i : Nat) : S37 := ⟨(i : Int), strOfNums (accL (cut (rowsL n a) n i) (partsN n L d) L n)⟩
def shardsN (n a L : Nat) (d : ByteArray) : List S37 := (List.range a).map (shardN n a L d)
section
variable {n a L : Nat} {d : ByteArray}
theorem cut_el (hR : RowsOk n a) (i : Nat) : ∀ j, El ((cut (rowsL n a) n i).getD j 0) := by
  intro j
  refine elL_getD (fun x hx => hR.el x ?_) j
  unfold cut at hx
  exact List.mem_of_mem_take (List.mem_of_mem_drop hx)
theorem cutR_length (hR : RowsOk n a) {i : Nat} (hi : i < a) : (cut (rowsL n a) n i).length = n := by
  unfold cut
  have : (i + 1) * n ≤ a * n := Nat.mul_le_mul_right _ hi
  rw [List.length_drop, List.length_take, hR.len, Nat.min_eq_left this, Nat.add_mul, Nat.one_mul]
  omega
theorem enc_shard (hR : RowsOk n a) (hn : n ≤ 5) (hL : L ≤ 801) (hd : d.size = L * n) {i : Nat} (hi : i < a) {k : Nat} (hk : 1000 ≤ k) : erasure_shard.f k (cut (rowsL n a) n i) (partsN n L d) (L : Int) = some (shardN n a L d i).f1 := by
  have hl := cutR_length hR hi
  have h := shard_some (row := cut (rowsL n a) n i) (parts := partsN n L d) (len := L) (fun j _ => cut_el hR i j) (by rw [hl, partsN_length]) (fun j hj => by rw [partsN_length] at hj; rw [partsN_getD hj, partN_size hd hj]) (by omega) (by omega) (k := k) (by omega)
  rw [hl] at h
  exact h
theorem enc_l1 (hR : RowsOk n a) (h1 : 1 ≤ n) (hn : n ≤ 5) (ha : a ≤ 9) (hL : L ≤ 801) (hd : d.size = L * n) : ∀ (m i k : Nat), i + m = a → m + 1001 ≤ k →
    erasure_Encode.l1 k (L : Int) (partsN n L d) ((List.range i).map (shardN n a L d)) (a : Int) (i : Int) (n : Int) (a : Int) (a : Int) (n : Int) (rowsL n a) = some (shardsN n a L d, 0)
  | 0, i, k, hi, hk => by
    obtain ⟨k, rfl⟩ : ∃ k', k = k' + 1 := ⟨k - 1, by omega⟩
    unfold erasure_Encode.l1
    obtain rfl : i = a := by omega
    rw [if_neg (by omega)]
    rfl
  | m + 1, i, k, hi, hk => by
    obtain ⟨k, rfl⟩ : ∃ k', k = k' + 1 := ⟨k - 1, by omega⟩
    have hb : (i + 1) * n ≤ a * n := Nat.mul_le_mul_right _ (by omega)
    have hb2 : a * n ≤ 9 * 5 := Nat.mul_le_mul ha hn
    have hb3 : i * n ≤ (i + 1) * n := Nat.mul_le_mul_right _ (by omega)
    unfold erasure_Encode.l1
    rw [if_pos (by omega), mulw (i := i) (n := n) (by omega), incw (by omega), mulw (i := i + 1) (n := n) (by omega), if_pos (by omega), if_pos (by omega), if_pos (by rw [hR.len]; omega), Int.toNat_natCast, Int.toNat_natCast]
    have hc : ((rowsL n a).take ((i + 1) * n)).drop (i * n) = cut (rowsL n a) n i := rfl
    rw [hc, enc_shard hR hn hL hd (show i < a by omega) (by omega)]
    simp only [Option.bind_some]
    rw [if_pos (by simp; omega)]
    have hs : (List.range i).map (shardN n a L d) ++ [(⟨(i : Int), (shardN n a L d i).f1⟩ : S37)] = (List.range (i + 1)).map (shardN n a L d) := by
      rw [List.range_succ, List.map_append]
      rfl
    rw [hs]
    exact enc_l1 hR h1 hn ha hL hd m (i + 1) k (by omega) (by omega)
theorem enc_l0 (hR : RowsOk n a) (h1 : 1 ≤ n) (hn : n ≤ 5) (ha : a ≤ 9) (hL : L ≤ 801) (hd : d.size = L * n) : ∀ (m j k : Nat), j + m = n → m + 1100 ≤ k →
    erasure_Encode.l0 k d (L : Int) ((List.range j).map (partN L d)) (n : Int) (j : Int) (n : Int) (a : Int) = some (shardsN n a L d, 0)
  | 0, j, k, hj, hk => by
    obtain ⟨k, rfl⟩ : ∃ k', k = k' + 1 := ⟨k - 1, by omega⟩
    unfold erasure_Encode.l0
    obtain rfl : j = n := by omega
    rw [if_neg (by omega), upk (fun k => erasure_rowsOf.mono _ _ k) (show 300 ≤ k by omega) hR.rows]
    simp only [Option.bind_some]
    exact enc_l1 hR h1 hn ha hL hd a 0 k (by omega) (by omega)
  | m + 1, j, k, hj, hk => by
    obtain ⟨k, rfl⟩ : ∃ k', k = k' + 1 := ⟨k - 1, by omega⟩
    have hb : (j + 1) * L ≤ L * n := by rw [Nat.mul_comm L n]; exact Nat.mul_le_mul_right _ (by omega)
    have hb2 : L * n ≤ 801 * 5 := Nat.mul_le_mul hL hn
    have hb3 : j * L ≤ (j + 1) * L := Nat.mul_le_mul_right _ (by omega)
    unfold erasure_Encode.l0
    rw [if_pos (by omega), mulw (i := j) (n := L) (by omega), incw (by omega), mulw (i := j + 1) (n := L) (by omega), if_pos (by omega), if_pos (by omega), if_pos (by rw [hd]; omega), if_pos (by simp; omega), Int.toNat_natCast, Int.toNat_natCast]
    have hs : (List.range j).map (partN L d) ++ [d.extract (j * L) ((j + 1) * L)] = (List.range (j + 1)).map (partN L d) := by
      rw [List.range_succ, List.map_append]
      rfl
    rw [hs]
    exact enc_l0 hR h1 hn ha hL hd m (j + 1) k (by omega) (by omega)
end
end Go.Proofs.Ytgmadofbelhmeaa.L
end
section
/- Encode as a whole. -/
namespace Go.Proofs.Ytgmadofbelhmeaa.L
open Go.RowKit Go.Proofs.YtgmadofbelhmeaaW.PrintWords Go.Proofs.YtgmadofbelhmeaaW.PrintLast Go.Proofs.YtgmadofbelhmeaaW.PrintMore
set_option linter.unusedVariables false
set_option linter.unusedSimpArgs false

theorem encode_some {n a : Nat} {s : ByteArray} (h1 : 1 ≤ n) (hn : n ≤ 5) (ha : n ≤ a) (ha4 : a ≤ n + 4) (hs : s.size ≤ 800) {k : Nat} (hk : 1200 ≤ k) : erasure_Encode.f k n a s = some (shardsN n a (lenN n s.size) (padded n s), 0) := by
  unfold erasure_Encode.f
  rw [length_some h1 ha (by omega) hs]
  rw [Option.bind_some, if_pos rfl]
  have hge := lenN_ge (size := s.size) h1
  have htop := lenN_top h1 hn hs
  have hw : wrap64 (wrap64 ((lenN n s.size : Int) * (n : Int)) - (s.size : Int)) = ((lenN n s.size * n - s.size : Nat) : Int) := by
    rw [mulw (by omega), w64 (by omega) (by omega)]
    omega
  rw [hw]
  rw [repeat_some (by omega), Option.bind_some, if_pos (by rw [size_rep]; omega)]
  have e := enc_l0 (rowsM_ok h1 hn ha ha4) h1 hn (by omega) (lenN_le h1 hs) (padded_size h1) n 0 k (by omega) (by omega)
  exact e
end Go.Proofs.Ytgmadofbelhmeaa.L
end
section
/- The plain law of the erasure code, part F: look, the sorted indices, Pick, Inverse. -/
namespace Go.Proofs.Ytgmadofbelhmeaa.L
open Go.RowKit Go.Proofs.YtgmadofbelhmeaaW.PrintWords Go.Proofs.YtgmadofbelhmeaaW.PrintLast Go.Proofs.YtgmadofbelhmeaaW.PrintMore
set_option linter.unusedVariables false
set_option linter.unusedSimpArgs false

/-- Shards of one code: in their bounds, all of one length, each once. -/
def Fit (a L : Nat) (l : List S37) : Prop := (∀ s, s ∈ l → 0 ≤ s.f0 ∧ s.f0 < (a : Int) ∧ s.f1.size = L) ∧ l.Pairwise (fun x y => x.f0 ≠ y.f0)
theorem lookAt_zero {a L : Nat} : ∀ (l : List S37) (seen : Nat → Bool), (∀ s, s ∈ l → 0 ≤ s.f0 ∧ s.f0 < (a : Int) ∧ s.f1.size = L ∧ seen s.f0.toNat = false) → l.Pairwise (fun x y => x.f0 ≠ y.f0) → lookAt a L l seen = 0
  | [], _, _, _ => rfl
  | x :: l, seen, h, hp => by
    obtain ⟨h1, h2, h3, h4⟩ := h x (List.mem_cons_self ..)
    have hp' := List.pairwise_cons.1 hp
    unfold lookAt
    rw [if_neg (by omega), if_neg (by omega), if_neg (by omega), if_neg (by rw [h4]; decide)]
    refine lookAt_zero l _ (fun s hs => ?_) hp'.2
    obtain ⟨b1, b2, b3, b4⟩ := h s (List.mem_cons_of_mem _ hs)
    have hne := hp'.1 s hs
    refine ⟨b1, b2, b3, ?_⟩
    rw [if_neg (by omega)]
    exact b4
theorem look_some {n a size : Nat} {l : List S37} (h1 : 1 ≤ n) (ha : n ≤ a) (h16 : a ≤ 16) (hs : size ≤ 800) (hf : Fit a (lenN n size) l) :
    erasure_look.f n a size l = if l.length < n then some (0, 14) else some ((lenN n size : Int), 0) := by
  unfold erasure_look.f
  rw [length_some h1 ha h16 hs, Option.bind_some, if_pos rfl, if_pos (lookAt_zero l _ (fun s hs => ⟨(hf.1 s hs).1, (hf.1 s hs).2.1, (hf.1 s hs).2.2, rfl⟩) hf.2)]
  by_cases h : l.length < n
  · rw [if_pos (by omega), if_pos h]
  · rw [if_neg (by omega), if_neg h]
theorem sortS_sorted (l : List S37) : (sortS l).Pairwise (fun x y => x.f0 ≤ y.f0) := by
  have h := List.pairwise_mergeSort (le := fun a b : S37 => decide (a.f0 ≤ b.f0)) (fun a b c h1 h2 => by simp only [decide_eq_true_eq] at *; omega) (fun a b => by simp only [Bool.or_eq_true, decide_eq_true_eq]; omega) l
  exact h.imp fun h => of_decide_eq_true h
def idxOf (l : List S37) (n : Nat) : List Nat := (usedS l n).map fun s => s.f0.toNat
theorem used_mem {l : List S37} {n : Nat} {s : S37} (h : s ∈ usedS l n) : s ∈ l := (sortS_perm l).mem_iff.1 (List.mem_of_mem_take h)
theorem used_length {l : List S37} {n : Nat} (h : n ≤ l.length) : (usedS l n).length = n := by
  unfold usedS
  rw [List.length_take, sortS_length]
  omega
theorem idx_facts {a L n : Nat} {l : List S37} (hf : Fit a L l) (hn : n ≤ l.length) : (idxOf l n).length = n ∧ (idxOf l n).Pairwise (· < ·) ∧ (∀ x, x ∈ idxOf l n → x < a) ∧ (usedS l n).map S37.f0 = (idxOf l n).map (fun i : Nat => (i : Int)) := by
  refine ⟨by unfold idxOf; rw [List.length_map, used_length hn], ?_, fun x hx => ?_, ?_⟩
  · unfold idxOf
    rw [List.pairwise_map]
    have h1 := sortS_sorted l
    have h2 : (sortS l).Pairwise (fun x y => x.f0 ≠ y.f0) := (List.Perm.pairwise_iff (fun {x y} (h : x.f0 ≠ y.f0) => Ne.symm h) (sortS_perm l)).2 hf.2
    have h3 := (h1.and h2).sublist (List.take_sublist n (sortS l))
    refine List.Pairwise.imp_of_mem ?_ h3
    intro x y hx hy hxy
    have e1 := hf.1 x (used_mem hx)
    have e2 := hf.1 y (used_mem hy)
    omega
  · unfold idxOf at hx
    obtain ⟨s, hs, rfl⟩ := List.mem_map.1 hx
    have := hf.1 s (used_mem hs)
    omega
  · unfold idxOf
    rw [List.map_map]
    refine List.map_congr_left fun s hs => ?_
    have := hf.1 s (used_mem hs)
    show s.f0 = ((s.f0.toNat : Nat) : Int)
    omega

/-! ### Pick -/
section
variable {n a : Nat}
theorem checkR (hR : RowsOk n a) (h1 : 1 ≤ n) (hn : n ≤ 5) (ha : n ≤ a) (ha4 : a ≤ n + 4) {k : Nat} (hk : 300 ≤ k) : matrix_Check.f k (a : Int) (n : Int) (rowsL n a) = some 0 := by
  have hb : a * n ≤ 9 * 5 := Nat.mul_le_mul (by omega) hn
  obtain ⟨k, rfl⟩ : ∃ k', k = k' + 1 := ⟨k - 1, by omega⟩
  unfold matrix_Check.f
  rw [if_neg (by omega), if_neg (by omega), if_neg (by omega)]
  have : decide ((n : Int) > 16) = false := decide_eq_false (by omega)
  rw [this]
  simp only [matrix_Check.j0, Bool.false_eq_true, if_false]
  rw [mulw (i := a) (n := n) (by omega), hR.len, if_pos rfl, ← hR.len]
  exact check_loop hR.el (by rw [hR.len]; omega) (a * n) k 0 (by omega) (by rw [hR.len]; omega) (by omega)
theorem pick_loop (hR : RowsOk n a) (h1 : 1 ≤ n) (hn : n ≤ 5) (ha : n ≤ a) (ha4 : a ≤ n + 4) {idx : List Nat} (hl : idx.length ≤ 16) (hx : ∀ x, x ∈ idx → x < a) : ∀ (m j k : Nat), j + m = idx.length → m + 1 ≤ k →
    matrix_Pick.l0 k (idx.map fun i : Nat => (i : Int)) (idx.length : Int) (j : Int) (a : Int) (n : Int) (rowsL n a) (idx.length : Int) (n : Int) (pickL n a (idx.take j)) = some ((idx.length : Int), (n : Int), pickL n a idx, 0)
  | 0, j, k, hj, hk => by
    obtain ⟨k, rfl⟩ : ∃ k', k = k' + 1 := ⟨k - 1, by omega⟩
    unfold matrix_Pick.l0
    rw [if_neg (by omega), List.take_of_length_le (by omega)]
  | m + 1, j, k, hj, hk => by
    obtain ⟨k, rfl⟩ : ∃ k', k = k' + 1 := ⟨k - 1, by omega⟩
    have hjl : j < idx.length := by omega
    have hxa := hx _ (List.getElem_mem hjl)
    have hrd : rd (idx.map fun i : Nat => (i : Int)) (j : Int) = ((idx[j] : Nat) : Int) := by
      unfold rd
      rw [Int.toNat_natCast, List.getD_eq_getElem?_getD, List.getElem?_map, List.getElem?_eq_getElem hjl]
      rfl
    have htk : idx.take (j + 1) = idx.take j ++ [idx[j]] := by
      rw [List.take_add_one, List.getElem?_eq_getElem hjl]
      rfl
    generalize idx[j] = q at hxa hrd htk
    have hb : (q + 1) * n ≤ a * n := Nat.mul_le_mul_right _ (by omega)
    have hb2 : a * n ≤ 9 * 5 := Nat.mul_le_mul (by omega) hn
    have hb3 : q * n ≤ (q + 1) * n := Nat.mul_le_mul_right _ (by omega)
    unfold matrix_Pick.l0
    rw [if_pos (by omega), if_pos (by omega), if_pos (by rw [List.length_map]; omega), hrd, if_neg (by omega), if_neg (by omega), mulw (i := q) (n := n) (by omega), incw (by omega), mulw (i := q + 1) (n := n) (by omega), if_pos (by omega), if_pos (by omega), if_pos (by rw [hR.len]; omega), Int.toNat_natCast, Int.toNat_natCast, incw (by omega)]
    have hc : ((rowsL n a).take ((q + 1) * n)).drop (q * n) = cut (rowsL n a) n q := rfl
    rw [hc, cutR_length hR hxa]
    have hpl : (pickL n a (idx.take j)).length ≤ 16 * n := by
      have : ∀ l : List Nat, (∀ x, x ∈ l → x < a) → (pickL n a l).length = l.length * n := by
        intro l
        induction l with
        | nil => intro _; simp [pickL]
        | cons y l ih =>
          intro h
          unfold pickL at ih ⊢
          rw [List.flatMap_cons, List.length_append, cutR_length hR (h y (List.mem_cons_self ..)), ih fun x hx' => h x (List.mem_cons_of_mem _ hx'), List.length_cons, Nat.add_mul, Nat.one_mul]
          omega
      rw [this _ fun x hx' => hx x (List.mem_of_mem_take hx'), List.length_take]
      exact Nat.mul_le_mul_right _ (by omega)
    rw [if_pos (by omega)]
    have hp : pickL n a (idx.take j) ++ cut (rowsL n a) n q = pickL n a (idx.take (j + 1)) := by
      rw [htk]
      unfold pickL
      rw [List.flatMap_append]
      simp
    rw [hp]
    exact pick_loop hR h1 hn ha ha4 hl hx m (j + 1) k (by omega) (by omega)
theorem pick_some (hR : RowsOk n a) (h1 : 1 ≤ n) (hn : n ≤ 5) (ha : n ≤ a) (ha4 : a ≤ n + 4) {idx : List Nat} (hl1 : 1 ≤ idx.length) (hl : idx.length ≤ 16) (hx : ∀ x, x ∈ idx → x < a) {k : Nat} (hk : 400 ≤ k) : matrix_Pick.f k (a : Int) (n : Int) (rowsL n a) (idx.map fun i : Nat => (i : Int)) = some ((idx.length : Int), (n : Int), pickL n a idx, 0) := by
  unfold matrix_Pick.f
  rw [checkR hR h1 hn ha ha4 (by omega), Option.bind_some, if_pos rfl, List.length_map, if_neg (by omega)]
  have : decide ((idx.length : Int) > 16) = false := decide_eq_false (by omega)
  rw [this]
  obtain ⟨k, rfl⟩ : ∃ k', k = k' + 1 := ⟨k - 1, by omega⟩
  simp only [matrix_Pick.j0, Bool.false_eq_true, if_false]
  rw [List.length_map]
  exact pick_loop hR h1 hn ha ha4 hl hx idx.length 0 k (by omega) (by omega)
end
theorem inverse_some {n a : Nat} {idx : List Nat} (h1 : 1 ≤ n) (hn : n ≤ 5) (hI : InvOk n a idx) (hp : (pickL n a idx).length = n * n) (hpe : ElL (pickL n a idx)) : matrix_Inverse.f (n : Int) (n : Int) (pickL n a idx) = some ((n : Int), (n : Int), invL n (pickL n a idx), 0) := by
  unfold matrix_Inverse.f
  rw [if_pos ⟨by omega, by omega, rfl, by rw [hp, Int.natCast_mul], hpe⟩, Int.toNat_natCast, hI.full, if_neg (by omega)]
  rfl
end Go.Proofs.Ytgmadofbelhmeaa.L
end
section
/- The plain law of the erasure code, part G: what Decode tells of the shards of one content. -/
namespace Go.Proofs.Ytgmadofbelhmeaa.L
open Go.RowKit Go.Proofs.YtgmadofbelhmeaaW.PrintWords Go.Proofs.YtgmadofbelhmeaaW.PrintLast Go.Proofs.YtgmadofbelhmeaaW.PrintMore
set_option linter.unusedVariables false
set_option linter.unusedSimpArgs false

theorem strOfNums_bt {s : ByteArray} {L : Nat} (h : s.size = L) {F : Nat → Int} (hF : ∀ t, t < L → F t = bt s (t : Int)) : strOfNums ((List.range L).map F) = s := by
  apply ByteArray.ext
  apply Array.ext'
  show ((List.range L).map F).map (fun n => UInt8.ofNat n.toNat) = s.data.toList
  apply List.ext_getElem?
  intro t
  have hs : s.data.toList.length = L := by rw [Array.length_toList]; exact h
  by_cases ht : t < L
  · rw [List.map_map, List.getElem?_map, List.getElem?_range ht, List.getElem?_eq_getElem (by omega)]
    simp only [Option.map_some, Function.comp]
    rw [hF t ht]
    unfold bt
    rw [dif_pos (by rw [Int.toNat_natCast, h]; exact ht), Int.toNat_natCast, UInt8.ofNat_toNat]
    rfl
  · rw [List.getElem?_eq_none (by simp; omega), List.getElem?_eq_none (by omega)]
theorem pickL_getD {n a : Nat} (hR : RowsOk n a) : ∀ (idx : List Nat) (l j : Nat), (∀ x, x ∈ idx → x < a) → (hl : l < idx.length) → j < n → (pickL n a idx).getD (l * n + j) 0 = (cut (rowsL n a) n idx[l]).getD j 0
  | x :: idx, 0, j, h, hl, hj => by
    have hc := cutR_length hR (h x (List.mem_cons_self ..))
    unfold pickL
    rw [List.flatMap_cons, List.getD_eq_getElem?_getD, List.getElem?_append_left (by omega), Nat.zero_mul, Nat.zero_add]
    rfl
  | x :: idx, l + 1, j, h, hl, hj => by
    have hc := cutR_length hR (h x (List.mem_cons_self ..))
    have ih := pickL_getD hR idx l j (fun y hy => h y (List.mem_cons_of_mem _ hy)) (by simpa using hl) hj
    unfold pickL at ih ⊢
    rw [List.flatMap_cons, List.getD_eq_getElem?_getD, List.getElem?_append_right (by rw [hc, Nat.add_mul]; omega), hc, show (l + 1) * n + j - n = l * n + j by rw [Nat.add_mul]; omega, ← List.getD_eq_getElem?_getD, ih]
    rfl
theorem pickL_length {n a : Nat} (hR : RowsOk n a) : ∀ idx : List Nat, (∀ x, x ∈ idx → x < a) → (pickL n a idx).length = idx.length * n
  | [], _ => by simp [pickL]
  | x :: idx, h => by
    have ih := pickL_length hR idx fun y hy => h y (List.mem_cons_of_mem _ hy)
    unfold pickL at ih ⊢
    rw [List.flatMap_cons, List.length_append, cutR_length hR (h x (List.mem_cons_self ..)), ih, List.length_cons, Nat.add_mul]
    omega
theorem pickL_el {n a : Nat} (hR : RowsOk n a) (idx : List Nat) : ElL (pickL n a idx) := by
  intro x hx
  unfold pickL at hx
  obtain ⟨i, _, hi⟩ := List.mem_flatMap.1 hx
  unfold cut at hi
  exact hR.el x (List.mem_of_mem_take (List.mem_of_mem_drop hi))
section
variable {n a L : Nat} {d : ByteArray} {part : List S37}
theorem shardN_fit (hmem : ∀ x, x ∈ part → ∃ i, i < a ∧ x = shardN n a L d i) (hd : part.Pairwise (fun x y => x.f0 ≠ y.f0)) : Fit a L part := by
  refine ⟨fun s hs => ?_, hd⟩
  obtain ⟨i, hi, rfl⟩ := hmem s hs
  refine ⟨by show 0 ≤ (i : Int); omega, by show (i : Int) < a; omega, ?_⟩
  show (strOfNums _).size = L
  rw [strOfNums_size, accL_length]
theorem used_eq (hmem : ∀ x, x ∈ part → ∃ i, i < a ∧ x = shardN n a L d i) : (usedS part n).map S37.f1 = (idxOf part n).map (fun i => (shardN n a L d i).f1) := by
  unfold idxOf
  rw [List.map_map]
  refine List.map_congr_left fun s hs => ?_
  obtain ⟨i, hi, rfl⟩ := hmem s (used_mem hs)
  rfl
theorem nib_back (hR : RowsOk n a) {idx : List Nat} (hl : idx.length = n) (hx : ∀ x, x ∈ idx → x < a) (hI : InvOk n a idx) (hn : n ≤ 5) (hL : L ≤ 801) (hd : d.size = L * n) (N : Int → Int) (hN : ∀ b, By b → El (N b)) (hacc : ∀ (row : List Int) (parts : List ByteArray) (t j : Nat), (∀ i, i < j → El (row.getD i 0)) → N (accB row parts t j) = gsum j (fun i => gm (row.getD i 0) (N (bt (parts.getD i ByteArray.empty) (t : Int)))))
    {i t : Nat} (hi : i < n) (ht : t < L) : N (accB (cut (invL n (pickL n a idx)) n i) (idx.map (fun i => (shardN n a L d i).f1)) t n) = N (bt (partN L d i) (t : Int)) := by
  have hq : ∀ l, El ((cut (invL n (pickL n a idx)) n i).getD l 0) := fun l => elL_getD (fun x hx' => hI.el x (by unfold cut at hx'; exact List.mem_of_mem_take (List.mem_of_mem_drop hx'))) l
  rw [hacc _ _ _ _ fun l _ => hq l]
  have e1 : (gsum n fun l => gm ((cut (invL n (pickL n a idx)) n i).getD l 0) (N (bt ((idx.map (fun i => (shardN n a L d i).f1)).getD l ByteArray.empty) (t : Int)))) =
      gsum n fun l => gm ((invL n (pickL n a idx)).getD (i * n + l) 0) (gsum n fun j => gm ((pickL n a idx).getD (l * n + j) 0) (N (bt (partN L d j) (t : Int)))) := by
    refine gsum_congr n fun l hll => ?_
    have hll' : l < idx.length := by omega
    rw [cut_getD hi hll]
    congr 1
    have hpart : (idx.map (fun i => (shardN n a L d i).f1)).getD l ByteArray.empty = strOfNums (accL (cut (rowsL n a) n idx[l]) (partsN n L d) L n) := by
      rw [List.getD_eq_getElem?_getD, List.getElem?_map, List.getElem?_eq_getElem hll']
      rfl
    have hby := accB_by (row := cut (rowsL n a) n idx[l]) (parts := partsN n L d) t n fun j _ => cut_el hR _ j
    rw [hpart, bt_strOfNums (by rw [accL_length]; exact ht) (by rw [accL_getD _ _ _ ht]; exact hby.1), accL_getD _ _ _ ht, hacc _ _ _ _ fun j _ => cut_el hR _ j]
    refine gsum_congr n fun j hj => ?_
    rw [pickL_getD hR idx l j hx hll' hj, partsN_getD hj]
  rw [e1]
  exact back (Q := fun i l => (invL n (pickL n a idx)).getD (i * n + l) 0) (P := fun l j => (pickL n a idx).getD (l * n + j) 0) (x := fun j => N (bt (partN L d j) (t : Int))) (fun i j _ _ => elL_getD hI.el _) (fun i j _ _ => elL_getD (pickL_el hR idx) _) (fun j _ => hN _ (bt_by _ _)) hI.one hi
theorem dec_shard (hR : RowsOk n a) {idx : List Nat} (hl : idx.length = n) (hx : ∀ x, x ∈ idx → x < a) (hI : InvOk n a idx) (hn : n ≤ 5) (hL : L ≤ 801) (hd : d.size = L * n) {i : Nat} (hi : i < n) : erasure_shard.f KK (cut (invL n (pickL n a idx)) n i) (idx.map (fun i => (shardN n a L d i).f1)) (L : Int) = some (partN L d i) := by
  have hc : (cut (invL n (pickL n a idx)) n i).length = n := cut_length hI.len hi
  have hq : ∀ l, El ((cut (invL n (pickL n a idx)) n i).getD l 0) := fun l => elL_getD (fun x hx' => hI.el x (by unfold cut at hx'; exact List.mem_of_mem_take (List.mem_of_mem_drop hx'))) l
  have h := shard_some (row := cut (invL n (pickL n a idx)) n i) (parts := idx.map (fun i => (shardN n a L d i).f1)) (len := L) (fun j _ => hq j) (by rw [hc, List.length_map, hl]) (fun j hj => by
    rw [List.length_map] at hj
    rw [List.getD_eq_getElem?_getD, List.getElem?_map, List.getElem?_eq_getElem hj]
    show (strOfNums _).size = L
    rw [strOfNums_size, accL_length]) (by omega) (by omega) (k := KK) (by unfold KK; omega)
  rw [h, hc]
  congr 1
  refine strOfNums_bt (partN_size hd hi) fun t ht => ?_
  have hby := accB_by (row := cut (invL n (pickL n a idx)) n i) (parts := idx.map (fun i => (shardN n a L d i).f1)) t n fun j _ => hq j
  refine nib_ext hby.1 (bt_by _ _) ?_ ?_
  · exact nib_back hR hl hx hI hn hL hd lo (fun b hb => lo_el hb) (fun row parts t j h => (accB_by t j h).2.1) hi ht
  · exact nib_back hR hl hx hI hn hL hd Go.Proofs.Ytgmadofbelhmeaa.L.hi (fun b hb => hi_el hb) (fun row parts t j h => (accB_by t j h).2.2) hi ht
theorem dec_to (hR : RowsOk n a) {idx : List Nat} (hl : idx.length = n) (hx : ∀ x, x ∈ idx → x < a) (hI : InvOk n a idx) (hn : n ≤ 5) (hL : L ≤ 801) (hd : d.size = L * n) : ∀ i, i ≤ n → decodeTo (invL n (pickL n a idx)) n (idx.map (fun i => (shardN n a L d i).f1)) (L : Int) i = some (d.data.toList.take (i * L))
  | 0, _ => by
    unfold decodeTo
    rw [Nat.zero_mul]
    rfl
  | i + 1, hi => by
    have hdl : d.data.toList.length = L * n := by rw [Array.length_toList]; exact hd
    have hb : (i + 1) * L ≤ L * n := by rw [Nat.mul_comm L n]; exact Nat.mul_le_mul_right _ hi
    have hb2 : L * n ≤ 801 * 5 := Nat.mul_le_mul hL hn
    unfold decodeTo
    rw [dec_to hR hl hx hI hn hL hd i (by omega), Option.bind_some, dec_shard hR hl hx hI hn hL hd (show i < n from hi), Option.bind_some, partN_size hd (show i < n from hi), if_pos (by rw [List.length_take]; omega)]
    congr 1
    have e : (partN L d i).data.toList = (d.data.toList.drop (i * L)).take L := by
      unfold partN
      rw [ByteArray.data_extract, Array.toList_extract, List.extract_eq_take_drop, Nat.add_mul, Nat.one_mul, Nat.add_sub_cancel_left]
    rw [e, Nat.add_mul, Nat.one_mul, List.take_add]
end
theorem padded_back (n : Nat) (s : ByteArray) : (⟨(padded n s).data.toList.toArray⟩ : ByteArray).extract 0 s.size = s := by
  apply ByteArray.ext
  apply Array.ext'
  rw [ByteArray.data_extract, Array.toList_extract, List.extract_eq_take_drop]
  unfold padded
  rw [ByteArray.data_append]
  simp
end Go.Proofs.Ytgmadofbelhmeaa.L
end
section
/- The plain law of the erasure code, part H: Decode as a whole; the deck. -/
namespace Go.Proofs.Ytgmadofbelhmeaa.L
open Go.RowKit Go.Proofs.YtgmadofbelhmeaaW.PrintWords Go.Proofs.YtgmadofbelhmeaaW.PrintLast Go.Proofs.YtgmadofbelhmeaaW.PrintMore
set_option linter.unusedVariables false
set_option linter.unusedSimpArgs false

theorem decode_some {n a : Nat} {s : ByteArray} (h1 : 1 ≤ n) (hn : n ≤ 5) (ha : n ≤ a) (ha4 : a ≤ n + 4) (hs : s.size ≤ 800) {part : List S37} (hmem : ∀ x, x ∈ part → ∃ i, i < a ∧ x = shardN n a (lenN n s.size) (padded n s) i) (hd : part.Pairwise (fun x y => x.f0 ≠ y.f0)) (hlen : n ≤ part.length) :
    erasure_Decode.f n a s.size part = some (s, 0) := by
  have hf := shardN_fit hmem hd
  obtain ⟨f1, f2, f3, f4⟩ := idx_facts hf hlen
  have hR := rowsM_ok h1 hn ha ha4
  have hI := inv_ok h1 hn ha ha4 f1 f2 f3
  have hpl : (pickL n a (idxOf part n)).length = n * n := by rw [pickL_length hR _ f3, f1]
  have hL := lenN_le h1 hs
  have hsz := padded_size (s := s) h1
  have hge := lenN_ge (size := s.size) h1
  have hpick := pick_some hR h1 hn ha ha4 (idx := idxOf part n) (by omega) (by omega) f3 (k := KK) (by unfold KK; omega)
  rw [f1] at hpick
  have hdec := dec_to (L := lenN n s.size) (d := padded n s) hR f1 f3 hI hn hL hsz n (Nat.le_refl _)
  have hdl : (padded n s).data.toList.length = lenN n s.size * n := by rw [Array.length_toList]; exact hsz
  rw [List.take_of_length_le (by rw [hdl, Nat.mul_comm]; exact Nat.le_refl _)] at hdec
  unfold erasure_Decode.f
  rw [look_some h1 ha (by omega) hs hf, if_neg (by omega), Option.bind_some, if_pos rfl, upk (fun k => erasure_rowsOf.mono _ _ k) (show 300 ≤ KK by unfold KK; omega) hR.rows, Option.bind_some, Int.toNat_natCast, f4, hpick, Option.bind_some, inverse_some h1 hn hI hpl (pickL_el hR _), Option.bind_some, if_pos hI.len, used_eq hmem, hdec, Option.bind_some, if_pos (by rw [hdl]; omega), Int.toNat_natCast, padded_back]
theorem decode_few {n a : Nat} {s : ByteArray} (h1 : 1 ≤ n) (hn : n ≤ 5) (ha : n ≤ a) (ha4 : a ≤ n + 4) (hs : s.size ≤ 800) {part : List S37} (hmem : ∀ x, x ∈ part → ∃ i, i < a ∧ x = shardN n a (lenN n s.size) (padded n s) i) (hd : part.Pairwise (fun x y => x.f0 ≠ y.f0)) (hlen : part.length < n) :
    erasure_Decode.f n a s.size part = some (⟨#[]⟩, 14) := by
  unfold erasure_Decode.f
  rw [look_some h1 ha (by omega) hs (shardN_fit hmem hd), if_pos hlen, Option.bind_some, if_neg (by decide)]

/-! ### the deck -/
theorem next_some {l : List Int} {s m : Int} (hl : l.length ≤ 1000000) (hs : 0 ≤ s) (hm : 1 ≤ m) (hm2 : m ≤ 1000000) : ∃ r s', storagebartermake_Deck_Next.f l s m = some (r, s') ∧ 0 ≤ r ∧ r < m ∧ 0 ≤ s' := by
  unfold storagebartermake_Deck_Next.f
  rw [if_neg (by omega)]
  by_cases h : s ≥ (l.length : Int)
  · rw [if_pos h]
    exact ⟨0, s, rfl, by omega, by omega, hs⟩
  · rw [if_neg h, if_pos hs, if_pos (by omega)]
    unfold storagebartermake_Mod.f
    rw [if_neg (by omega), Option.bind_some]
    have h1 := Int.tmod_lt_of_pos (rd l s) (show 0 < m by omega)
    have h2 : -m < Int.tmod (rd l s) m := by
      have := Int.lt_tmod_of_pos (rd l s) (show 0 < m by omega)
      omega
    rw [w64 (x := Int.tmod (rd l s) m + m) (by omega) (by omega), w64 (x := s + 1) (by omega) (by omega)]
    exact ⟨_, _, rfl, Int.tmod_nonneg _ (by omega), Int.tmod_lt_of_pos _ (by omega), by omega⟩
/-! ### some -/
theorem without_perm {l : List S37} {i : Nat} (h : i < l.length) : (l[i] :: without l i).Perm l := by
  unfold without
  have e : l = l.take i ++ l[i] :: l.drop (i + 1) := by
    rw [← List.drop_eq_getElem_cons h, List.take_append_drop]
  refine List.Perm.trans ?_ (List.Perm.of_eq e.symm)
  exact List.perm_middle.symm
theorem someAt_ok {deck : List Int} {n : Nat} (hdk : deck.length ≤ 1000000) : ∀ (k : Nat) (rest out : List S37) (s : Int), rest.length < k → rest.length ≤ 1000000 → 0 ≤ s → out.length ≤ n → (out ++ rest).Pairwise (fun x y => x.f0 ≠ y.f0) →
    ∃ out' s', someAt deck n k rest out s = some (out', s') ∧ (∀ x, x ∈ out' → x ∈ out ++ rest) ∧ out'.Pairwise (fun x y => x.f0 ≠ y.f0) ∧ out'.length = min n (out.length + rest.length)
  | 0, rest, out, s, h, _, _, _, _ => by omega
  | k + 1, rest, out, s, h, hr, hs, ho, hp => by
    unfold someAt
    by_cases hc : (out.length : Int) < (n : Int) ∧ 0 < rest.length
    · rw [if_pos hc]
      obtain ⟨r, s', e, h0, h1, h2⟩ := next_some (l := deck) (s := s) (m := (rest.length : Int)) hdk hs (by omega) (by omega)
      rw [e, Option.bind_some, if_pos ⟨h0, h1⟩]
      obtain ⟨i, rfl⟩ : ∃ i : Nat, r = (i : Int) := ⟨r.toNat, by omega⟩
      rw [Int.toNat_natCast]
      have hi : i < rest.length := by omega
      have hx : rd_T37 rest (i : Int) = rest[i] := by
        unfold rd_T37
        rw [Int.toNat_natCast, List.getD_eq_getElem?_getD, List.getElem?_eq_getElem hi]
        rfl
      rw [hx]
      have hperm : ((out ++ [rest[i]]) ++ without rest i).Perm (out ++ rest) := by
        rw [List.append_assoc]
        exact List.Perm.append_left out (without_perm hi)
      have hwl := without_length hi
      obtain ⟨out', s'', e2, a1, a2, a3⟩ := someAt_ok (n := n) hdk k (without rest i) (out ++ [rest[i]]) s' (by omega) (by omega) h2 (by rw [List.length_append, List.length_singleton]; omega) ((List.Perm.pairwise_iff (fun {x y} (h : x.f0 ≠ y.f0) => Ne.symm h) hperm).2 hp)
      refine ⟨out', s'', e2, fun x hx' => hperm.mem_iff.1 (a1 x hx'), a2, ?_⟩
      rw [a3, List.length_append, List.length_singleton, hwl]
      omega
    · rw [if_neg hc]
      refine ⟨out, s, rfl, fun x hx => List.mem_append_left _ hx, (List.pairwise_append.1 hp).1, ?_⟩
      omega
end Go.Proofs.Ytgmadofbelhmeaa.L
end
section
/- The plain law of ErasureAny: what the row's function computes is true at every input.
Conditions: those of the given statement alone. -/
namespace Go.Proofs.Ytgmadofbelhmeaa.Pure
open Go.RowKit Go.Proofs.Ytgmadofbelhmeaa.L Go.Proofs.YtgmadofbelhmeaaW.PrintWords Go.Proofs.YtgmadofbelhmeaaW.PrintLast Go.Proofs.YtgmadofbelhmeaaW.PrintMore
set_option linter.unusedVariables false
set_option linter.unusedSimpArgs false

theorem shardsN_length (n a L : Nat) (d : ByteArray) : (shardsN n a L d).length = a := by simp [shardsN]
theorem shardsN_mem {n a L : Nat} {d : ByteArray} {x : S37} (h : x ∈ shardsN n a L d) : ∃ i, i < a ∧ x = shardN n a L d i := by
  unfold shardsN at h
  obtain ⟨i, hi, rfl⟩ := List.mem_map.1 h
  exact ⟨i, List.mem_range.1 hi, rfl⟩
theorem shardsN_pw (n a L : Nat) (d : ByteArray) : (shardsN n a L d).Pairwise (fun x y => x.f0 ≠ y.f0) := by
  unfold shardsN
  rw [List.pairwise_map]
  refine List.pairwise_lt_range.imp ?_
  intro i j h
  show (i : Int) ≠ (j : Int)
  omega
theorem shardsN_rd {n a L : Nat} {d : ByteArray} {i : Nat} (h : i < a) : rd_T37 (shardsN n a L d) (i : Int) = shardN n a L d i := by
  unfold rd_T37 shardsN
  rw [Int.toNat_natCast, List.getD_eq_getElem?_getD, List.getElem?_map, List.getElem?_range h]
  rfl
def S3 : ByteArray := ⟨#[97, 98, 99]⟩
theorem S3_0 : ((shardN 2 3 (lenN 2 S3.size) (padded 2 S3) 0).f1).data.toList = [97, 98] := by decide +kernel
theorem S3_1 : ((shardN 2 3 (lenN 2 S3.size) (padded 2 S3) 1).f1).data.toList = [99, 0] := by decide +kernel
theorem sane_true {k : Nat} (hk : 1300 ≤ k) : storagebarterlaw07_sane.f k = some true := by
  unfold storagebarterlaw07_sane.f
  have e : erasure_Encode.f k 2 3 (⟨#[97, 98, 99]⟩ : ByteArray) = some (shardsN 2 3 (lenN 2 S3.size) (padded 2 S3), 0) := encode_some (n := 2) (a := 3) (s := S3) (by omega) (by omega) (by omega) (by omega) (by decide) (by omega)
  have hl : (shardsN 2 3 (lenN 2 S3.size) (padded 2 S3)).length = 3 := shardsN_length _ _ _ _
  have hd : erasure_Decode.f 2 3 3 ((shardsN 2 3 (lenN 2 S3.size) (padded 2 S3)).drop 1) = some (S3, 0) := decode_some (n := 2) (a := 3) (s := S3) (by omega) (by omega) (by omega) (by omega) (by decide) (fun x hx => shardsN_mem (List.mem_of_mem_drop hx)) ((shardsN_pw _ _ _ _).sublist (List.drop_sublist _ _)) (by rw [List.length_drop, hl]; omega)
  have hm : mx 0 (wrap64 (((3 : Nat) : Int) - 2)) = 1 := by decide +kernel
  have r0 : rd_T37 (shardsN 2 3 (lenN 2 S3.size) (padded 2 S3)) 0 = shardN 2 3 (lenN 2 S3.size) (padded 2 S3) 0 := shardsN_rd (i := 0) (by omega)
  have r1 : rd_T37 (shardsN 2 3 (lenN 2 S3.size) (padded 2 S3)) 1 = shardN 2 3 (lenN 2 S3.size) (padded 2 S3) 1 := shardsN_rd (i := 1) (by omega)
  rw [e, Option.bind_some]
  simp only
  rw [hl, hm, if_pos (by omega), if_pos (by omega), show (1 : Int).toNat = 1 from rfl, hd, Option.bind_some, if_pos rfl, if_pos trivial, if_pos (by omega), if_pos (by omega), r0, ByteArray.toList_eq, S3_0, if_pos rfl, if_pos (by omega), r1, ByteArray.toList_eq, S3_1, if_pos rfl, ByteArray.toList_eq]
  rfl
theorem any_l0 {n a s : Nat} {data : ByteArray} {deck : List Int} {pos : Int} (h1 : 1 ≤ n) (hn : n ≤ 5) (ha : n ≤ a) (ha4 : a ≤ n + 4) (hs : data.size ≤ 800) (hdk : deck.length ≤ 500) (hpos : 0 ≤ pos) : ∀ (m i k : Nat), i + m = a → m + 1 ≤ k →
    storagebarterlaw07_ErasureAny.l0 k data (shardsN n a (lenN n data.size) (padded n data)) (lenN n data.size : Int) 0 (shardsN n a (lenN n data.size) (padded n data)) (a : Int) (i : Int) deck pos (n : Int) (a : Int) = some true
  | 0, i, k, hi, hk => by
    obtain ⟨k, rfl⟩ : ∃ k', k = k' + 1 := ⟨k - 1, by omega⟩
    obtain rfl : i = a := by omega
    rw [storagebarterlaw07_ErasureAny.l0, if_neg (by omega)]
    have w1 : wrap64 (wrap64 ((i : Int) - (n : Int)) + 1) = (i : Int) - (n : Int) + 1 := by rw [w64 (x := (i : Int) - (n : Int)) (by omega) (by omega), w64 (by omega) (by omega)]
    obtain ⟨r, p', e, r0, r1, r2⟩ := next_some (l := deck) (s := pos) (m := (i : Int) - (n : Int) + 1) (by omega) hpos (by omega) (by omega)
    rw [w1, e, Option.bind_some]
    obtain ⟨r, rfl⟩ : ∃ r' : Nat, r = (r' : Int) := ⟨r.toNat, by omega⟩
    have w2 : wrap64 ((n : Int) + (r : Int)) = ((n + r : Nat) : Int) := (w64 (by omega) (by omega)).trans (by omega)
    have hl := shardsN_length n i (lenN n data.size) (padded n data)
    obtain ⟨part, p'', e2, q1, q2, q3⟩ := someAt_ok (deck := deck) (n := n + r) (by omega) (i + 1) (shardsN n i (lenN n data.size) (padded n data)) [] p' (by omega) (by omega) r2 (by simp) (shardsN_pw _ _ _ _)
    have e3 : storagebarterlaw07_some.f deck p' (shardsN n i (lenN n data.size) (padded n data)) ((n + r : Nat) : Int) = some (part, p'') := by
      unfold storagebarterlaw07_some.f
      rw [if_pos (by omega), hl]
      exact e2
    have hmem : ∀ x, x ∈ part → ∃ j, j < i ∧ x = shardN n i (lenN n data.size) (padded n data) j := fun x hx => shardsN_mem (q1 x hx)
    have hpl : n ≤ part.length := by
      rw [q3, hl]
      simp only [List.length_nil]
      omega
    have w3 : wrap64 ((n : Int) - 1) = ((n - 1 : Nat) : Int) := (w64 (by omega) (by omega)).trans (by omega)
    simp only
    rw [w2, e3, Option.bind_some]
    simp only
    rw [decode_some h1 hn ha ha4 hs hmem q2 hpl, Option.bind_some, w3, if_pos (by omega), if_pos (by omega), Int.toNat_natCast,
      decode_few h1 hn ha ha4 hs (fun x hx => hmem x (List.mem_of_mem_take hx)) (q2.sublist (List.take_sublist _ _)) (by rw [List.length_take]; omega), Option.bind_some, if_pos rfl, if_pos rfl, if_pos trivial]
    rfl
  | m + 1, i, k, hi, hk => by
    obtain ⟨k, rfl⟩ : ∃ k', k = k' + 1 := ⟨k - 1, by omega⟩
    rw [storagebarterlaw07_ErasureAny.l0, if_pos (by omega), if_pos (by omega), if_pos (by rw [shardsN_length]; omega), shardsN_rd (by omega), if_pos (show (shardN n a (lenN n data.size) (padded n data) i).f0 = (i : Int) from rfl)]
    have hsz : (shardN n a (lenN n data.size) (padded n data) i).f1.size = lenN n data.size := by
      show (strOfNums _).size = _
      rw [strOfNums_size, accL_length]
    rw [if_pos (by rw [hsz]), incw (by omega)]
    exact any_l0 (s := s) h1 hn ha ha4 hs hdk hpos m (i + 1) k (by omega) (by omega)
theorem ErasureAny : storagebarterlaw07_ErasureAny.Pure := by
  intro l0 a1 _ _ _ _
  refine ⟨2000, ?_⟩
  unfold storagebarterlaw07_ErasureAny.f
  rw [sane_true (by omega), Option.bind_some, if_pos rfl]
  unfold storagebartermake_Few.f
  rw [Option.bind_some]
  by_cases hf : (l0.length : Int) ≤ 500
  · rw [if_pos (decide_eq_true hf), show (2000 : Nat) = 1999 + 1 from rfl, storagebarterlaw07_ErasureAny.j0]
    by_cases hs : (a1.size : Int) > 800
    · rw [if_pos (decide_eq_true hs)]
    · rw [if_neg (by rw [decide_eq_false hs]; decide)]
      unfold storagebartermake_New.f
      rw [Option.bind_some]
      unfold storagebartermake_Code.f
      simp only
      obtain ⟨x, p1, e1, x0, x1, hp1⟩ := next_some (l := l0) (s := 0) (m := 5) (by omega) (by omega) (by omega) (by omega)
      obtain ⟨y, p2, e2, y0, y1, hp2⟩ := next_some (l := l0) (s := p1) (m := 5) (by omega) hp1 (by omega) (by omega)
      rw [e1, Option.bind_some]
      simp only
      rw [e2, Option.bind_some, Option.bind_some]
      simp only
      obtain ⟨n, hn⟩ : ∃ n : Nat, 1 + x = (n : Int) := ⟨(1 + x).toNat, by omega⟩
      obtain ⟨a, ha⟩ : ∃ a : Nat, (n : Int) + y = (a : Int) := ⟨((n : Int) + y).toNat, by omega⟩
      have w1 : wrap64 (1 + x) = (n : Int) := (w64 (by omega) (by omega)).trans hn
      have w2 : wrap64 ((n : Int) + y) = (a : Int) := (w64 (by omega) (by omega)).trans ha
      rw [w1, w2, encode_some (n := n) (a := a) (by omega) (by omega) (by omega) (by omega) (by omega) (by omega), Option.bind_some, if_pos rfl]
      have hb : (((shardsN n a (lenN n a1.size) (padded n a1)).length : Int) != (a : Int)) = false := by
        rw [shardsN_length]
        simp
      simp only
      rw [hb, show (1999 : Nat) = 1998 + 1 from rfl, storagebarterlaw07_ErasureAny.j1, if_neg (by decide), length_some (by omega) (by omega) (by omega) (by omega), Option.bind_some, shardsN_length]
      exact any_l0 (s := 0) (by omega) (by omega) (by omega) (by omega) (by omega) (by omega) hp2 a 0 1998 (by omega) (by omega)
  · rw [if_neg (by rw [decide_eq_false hf]; decide), show (2000 : Nat) = 1999 + 1 from rfl, storagebarterlaw07_ErasureAny.j0, if_pos rfl]
end Go.Proofs.Ytgmadofbelhmeaa.Pure
end
