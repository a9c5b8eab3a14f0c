/- Texts of this claim, put together by a small program of the session's own: MMat, MReduce, F63, MClone3, F64, MInvA, MInv, MClone37. -/
import Derived.Test.YthfddndmhjkeiaaQ0
import Derived.Test.YthfddndmhjkeiaaQ3
import Derived.Test.YthfddndmhjkeiaaQ1
import Derived.Lib.SliceRun
import Derived.Deep.RegionLaw
section
/- Matrices in memory: a row of rows of numbers; and the plain functions by which rows are reduced. -/
namespace Go.Proofs.Ythfddndmhjkeiaa.L
open Go.RowKit Go.Proofs.YthfddndmhjkeiaaW.PrintWords Go.Proofs.YthfddndmhjkeiaaW.PrintLast Go.Proofs.YthfddndmhjkeiaaW.PrintMore
set_option linter.unusedVariables false
set_option linter.unusedSimpArgs false

/-! ### the field's functions as the program has them -/
def gm (a b : Int) : Int := (matrix_mul.f 40 a b).getD 0
def ginv (a : Int) : Int := ((field_Inverse.f 40 a).getD (0, 0)).1
def gierr (a : Int) : Int := ((field_Inverse.f 40 a).getD (0, 0)).2
def gx (a b : Int) : Int := Go.bits .xor .i64 a b
def El (a : Int) : Prop := 0 ≤ a ∧ a ≤ 15
theorem El.fin {a : Int} (h : El a) : ∃ i : Fin 16, a = (i.1 : Int) := ⟨⟨a.toNat, by unfold El at h; omega⟩, by unfold El at h; simp; omega⟩
theorem gm_all : ∀ a b : Fin 16, matrix_mul.f 40 (a.1 : Int) (b.1 : Int) = some (gm a.1 b.1) ∧ 0 ≤ gm a.1 b.1 ∧ gm a.1 b.1 ≤ 15 := by decide +kernel
theorem ginv_all : ∀ a : Fin 16, field_Inverse.f 40 (a.1 : Int) = some (ginv a.1, gierr a.1) ∧ 0 ≤ ginv a.1 ∧ ginv a.1 ≤ 15 := by decide +kernel
theorem gx_all : ∀ a b : Fin 16, 0 ≤ gx a.1 b.1 ∧ gx a.1 b.1 ≤ 15 := by decide +kernel
theorem gm_some {a b : Int} (ha : El a) (hb : El b) : matrix_mul.f 40 a b = some (gm a b) := by
  obtain ⟨i, rfl⟩ := ha.fin
  obtain ⟨j, rfl⟩ := hb.fin
  exact (gm_all i j).1
theorem gm_el {a b : Int} (ha : El a) (hb : El b) : El (gm a b) := by
  obtain ⟨i, rfl⟩ := ha.fin
  obtain ⟨j, rfl⟩ := hb.fin
  exact (gm_all i j).2
theorem ginv_some {a : Int} (ha : El a) : field_Inverse.f 40 a = some (ginv a, gierr a) := by
  obtain ⟨i, rfl⟩ := ha.fin
  exact (ginv_all i).1
theorem ginv_el {a : Int} (ha : El a) : El (ginv a) := by
  obtain ⟨i, rfl⟩ := ha.fin
  exact (ginv_all i).2
theorem gx_el {a b : Int} (ha : El a) (hb : El b) : El (gx a b) := by
  obtain ⟨i, rfl⟩ := ha.fin
  obtain ⟨j, rfl⟩ := hb.fin
  exact gx_all i j

/-! ### rows -/
abbrev row (rows : List (List Int)) (i : Nat) : List Int := rows.getD i []
def Good (m : Nat) (rows : List (List Int)) : Prop := ∀ i, i < rows.length → (row rows i).length = m ∧ ∀ j, j < m → El ((row rows i).getD j 0)
def pivot (rows : List (List Int)) (k i : Nat) : Nat := i + (rows.drop i).findIdx (fun r => r.getD k 0 != 0)
def swapR (rows : List (List Int)) (a b : Nat) : List (List Int) := (rows.set a (row rows b)).set b (row rows a)
def mid (r : List Int) (F : Nat → Int) (j : Nat) : List Int := r.mapIdx fun i x => if i < j then F i else x
def scaleRow (rows : List (List Int)) (r k : Nat) : List (List Int) := rows.set r (mid (row rows r) (fun j => gm ((row rows r).getD j 0) (ginv ((row rows r).getD k 0))) (row rows r).length)
def elimRow (rows : List (List Int)) (r k i : Nat) (x : List Int) : List Int :=
  if i ≠ r ∧ x.getD k 0 ≠ 0 then mid x (fun j => gx (x.getD j 0) (gm ((row rows r).getD j 0) (x.getD k 0))) x.length else x
def elimTo (rows : List (List Int)) (r k n : Nat) : List (List Int) := rows.mapIdx fun i x => if i < n then elimRow rows r k i x else x
def stepP (k : Nat) (s : List (List Int) × Nat) : List (List Int) × Nat :=
  if pivot s.1 k s.2 = s.1.length then s else
    (elimTo (scaleRow (swapR s.1 s.2 (pivot s.1 k s.2)) s.2 k) s.2 k s.1.length, s.2 + 1)
def reduceTo (rows : List (List Int)) (n : Nat) : List (List Int) × Nat := (List.range n).foldl (fun s k => stepP k s) (rows, 0)
theorem reduceTo_succ (rows : List (List Int)) (n : Nat) : reduceTo rows (n + 1) = stepP n (reduceTo rows n) := by
  unfold reduceTo
  rw [List.range_succ, List.foldl_append]
  rfl

theorem mid_length (r : List Int) (F : Nat → Int) (j : Nat) : (mid r F j).length = r.length := by simp [mid]
theorem mid_getD (r : List Int) (F : Nat → Int) (j i : Nat) (h : i < r.length) : (mid r F j).getD i 0 = if i < j then F i else r.getD i 0 := by
  unfold mid
  rw [List.getD_eq_getElem?_getD, List.getElem?_mapIdx, List.getElem?_eq_getElem h]
  simp only [Option.map_some, Option.getD_some]
  rw [List.getD_eq_getElem?_getD, List.getElem?_eq_getElem h]
  rfl
theorem mapIdx_id {α : Type} (l : List α) : l.mapIdx (fun _ x => x) = l := by
  apply List.ext_getElem?
  intro i
  rw [List.getElem?_mapIdx]
  cases l[i]? <;> rfl
theorem mid_zero (r : List Int) (F : Nat → Int) : mid r F 0 = r := by
  unfold mid
  simp only [Nat.not_lt_zero, if_false]
  exact mapIdx_id r
theorem mid_set (r : List Int) (F : Nat → Int) (j : Nat) : (mid r F j).set j (F j) = mid r F (j + 1) := by
  apply List.ext_getElem?
  intro i
  rw [List.getElem?_set]
  unfold mid
  rw [List.getElem?_mapIdx, List.getElem?_mapIdx, List.length_mapIdx]
  by_cases hi : i < r.length
  · rw [List.getElem?_eq_getElem hi]
    by_cases e : j = i
    · subst e
      simp [hi]
    · rw [if_neg e]
      simp only [Option.map_some]
      congr 1
      by_cases h1 : i < j
      · rw [if_pos h1, if_pos (by omega)]
      · rw [if_neg h1, if_neg (by omega)]
  · rw [List.getElem?_eq_none (by omega)]
    split
    · rename_i e
      rw [if_neg (by omega)]
      rfl
    · rfl
theorem row_set (rows : List (List Int)) (i j : Nat) (x : List Int) (h : i < rows.length) : row (rows.set i x) j = if i = j then x else row rows j := by
  unfold row
  rw [List.getD_eq_getElem?_getD, List.getElem?_set]
  by_cases e : i = j
  · subst e
    simp [h]
  · rw [if_neg e, if_neg e, List.getD_eq_getElem?_getD]
theorem set_row (rows : List (List Int)) (r : Nat) : rows.set r (row rows r) = rows := by
  apply List.ext_getElem?
  intro i
  rw [List.getElem?_set]
  split
  · rename_i e
    subst e
    split
    · rename_i h
      unfold row
      rw [List.getD_eq_getElem?_getD, List.getElem?_eq_getElem h]
      rfl
    · rename_i h
      rw [List.getElem?_eq_none (by omega)]
  · rfl
theorem row_swap (rows : List (List Int)) (a b j : Nat) (ha : a < rows.length) (hb : b < rows.length) : row (swapR rows a b) j = if b = j then row rows a else if a = j then row rows b else row rows j := by
  unfold swapR
  rw [row_set _ _ _ _ (by simpa using hb), row_set _ _ _ _ ha]
theorem swap_length (rows : List (List Int)) (a b : Nat) : (swapR rows a b).length = rows.length := by simp [swapR]
theorem scale_length (rows : List (List Int)) (a b : Nat) : (scaleRow rows a b).length = rows.length := by simp [scaleRow]
theorem elimTo_length (rows : List (List Int)) (a b n : Nat) : (elimTo rows a b n).length = rows.length := by simp [elimTo]
theorem elimTo_row (rows : List (List Int)) (r k n i : Nat) (h : i < rows.length) : row (elimTo rows r k n) i = if i < n then elimRow rows r k i (row rows i) else row rows i := by
  unfold row elimTo
  rw [List.getD_eq_getElem?_getD, List.getElem?_mapIdx, List.getD_eq_getElem?_getD, List.getElem?_eq_getElem h]
  simp
theorem elimTo_zero (rows : List (List Int)) (r k : Nat) : elimTo rows r k 0 = rows := by
  unfold elimTo
  simp only [Nat.not_lt_zero, if_false]
  exact mapIdx_id rows
theorem list_ext_row {l l' : List (List Int)} (hl : l.length = l'.length) (h : ∀ i, i < l.length → row l i = row l' i) : l = l' := by
  apply List.ext_getElem hl
  intro i h1 h2
  have := h i h1
  unfold row at this
  rw [List.getD_eq_getElem?_getD, List.getD_eq_getElem?_getD, List.getElem?_eq_getElem h1, List.getElem?_eq_getElem h2] at this
  simpa using this
theorem elimTo_succ (rows : List (List Int)) (r k n : Nat) (h : n < rows.length) : elimTo rows r k (n + 1) = (elimTo rows r k n).set n (elimRow rows r k n (row rows n)) := by
  apply list_ext_row
  · simp [elimTo_length]
  · intro i hi
    rw [elimTo_length] at hi
    rw [row_set _ _ _ _ (by rw [elimTo_length]; exact h), elimTo_row _ _ _ _ _ hi, elimTo_row _ _ _ _ _ hi]
    by_cases e : n = i
    · subst e
      rw [if_pos (by omega), if_pos rfl]
    · rw [if_neg e]
      by_cases h1 : i < n
      · rw [if_pos (by omega), if_pos h1]
      · rw [if_neg (by omega), if_neg h1]
theorem elimTo_pivot (rows : List (List Int)) (r k n : Nat) (h : r < rows.length) : row (elimTo rows r k n) r = row rows r := by
  rw [elimTo_row _ _ _ _ _ h]
  split
  · unfold elimRow
    rw [if_neg (fun hh => hh.1 rfl)]
  · rfl
theorem Good.getD {m : Nat} {rows : List (List Int)} (h : Good m rows) {i j : Nat} (hi : i < rows.length) (hj : j < m) : El ((row rows i).getD j 0) := (h i hi).2 j hj
theorem Good.set {m : Nat} {rows : List (List Int)} (h : Good m rows) {i : Nat} (hi : i < rows.length) {x : List Int} (hx : x.length = m) (he : ∀ j, j < m → El (x.getD j 0)) : Good m (rows.set i x) := by
  intro q hq
  rw [List.length_set] at hq
  rw [row_set _ _ _ _ hi]
  split
  · exact ⟨hx, he⟩
  · exact h q hq
theorem Good.swap {m : Nat} {rows : List (List Int)} (h : Good m rows) {a b : Nat} (ha : a < rows.length) (hb : b < rows.length) : Good m (swapR rows a b) :=
  (h.set ha (h b hb).1 (h b hb).2).set (by simpa using hb) (h a ha).1 (h a ha).2
theorem Good.mid {m : Nat} {rows : List (List Int)} (h : Good m rows) {i : Nat} (hi : i < rows.length) (F : Nat → Int) (hF : ∀ j, j < m → El (F j)) (n : Nat) : Good m (rows.set i (mid (row rows i) F n)) := by
  refine h.set hi (by rw [mid_length]; exact (h i hi).1) (fun j hj => ?_)
  rw [mid_getD _ _ _ _ (by rw [(h i hi).1]; exact hj)]
  split
  · exact hF j hj
  · exact (h i hi).2 j hj
theorem Good.scale {m : Nat} {rows : List (List Int)} (h : Good m rows) {r k : Nat} (hr : r < rows.length) (hk : k < m) : Good m (scaleRow rows r k) :=
  h.mid hr _ (fun j hj => gm_el (h.getD hr hj) (ginv_el (h.getD hr hk))) _
theorem Good.elim {m : Nat} {rows : List (List Int)} (h : Good m rows) {r k : Nat} (hr : r < rows.length) (hk : k < m) (n : Nat) : Good m (elimTo rows r k n) := by
  intro i hi
  rw [elimTo_length] at hi
  rw [elimTo_row _ _ _ _ _ hi]
  split
  · unfold elimRow
    split
    · refine ⟨by rw [mid_length]; exact (h i hi).1, fun j hj => ?_⟩
      rw [mid_getD _ _ _ _ (by rw [(h i hi).1]; exact hj)]
      split
      · exact gx_el (h.getD hi hj) (gm_el (h.getD hr hj) (h.getD hi hk))
      · exact h.getD hi hj
    · exact h i hi
  · exact h i hi
theorem findIdx_le' {α : Type} (p : α → Bool) (l : List α) : l.findIdx p ≤ l.length := List.findIdx_le_length
theorem pivot_le {rows : List (List Int)} {k i : Nat} (h : i ≤ rows.length) : i ≤ pivot rows k i ∧ pivot rows k i ≤ rows.length := by
  unfold pivot
  have := @List.findIdx_le_length _ (fun r : List Int => r.getD k 0 != 0) (rows.drop i)
  rw [List.length_drop] at this
  omega
theorem pivot_stop {rows : List (List Int)} {k i : Nat} (h : i < rows.length) (hz : ¬ (row rows i).getD k 0 = 0) : pivot rows k i = i := by
  unfold pivot
  rw [List.drop_eq_getElem_cons h, List.findIdx_cons]
  have e : rows[i] = row rows i := by unfold row; rw [List.getD_eq_getElem?_getD, List.getElem?_eq_getElem h]; rfl
  rw [e]
  have : ((row rows i).getD k 0 != 0) = true := bne_iff_ne.mpr hz
  rw [this]
  rfl
theorem pivot_go {rows : List (List Int)} {k i : Nat} (h : i < rows.length) (hz : (row rows i).getD k 0 = 0) : pivot rows k i = pivot rows k (i + 1) := by
  unfold pivot
  rw [List.drop_eq_getElem_cons h, List.findIdx_cons]
  have e : rows[i] = row rows i := by unfold row; rw [List.getD_eq_getElem?_getD, List.getElem?_eq_getElem h]; rfl
  rw [e, hz]
  simp
  omega
theorem pivot_end {rows : List (List Int)} {k i : Nat} (h : i = rows.length) : pivot rows k i = i := by
  unfold pivot
  rw [List.drop_eq_nil_of_le (by omega)]
  rfl
theorem stepP_length (k : Nat) (s : List (List Int) × Nat) : (stepP k s).1.length = s.1.length := by
  unfold stepP
  split
  · rfl
  · simp only [elimTo_length, scale_length, swap_length]
theorem reduceTo_length (rows : List (List Int)) (n : Nat) : (reduceTo rows n).1.length = rows.length := by
  induction n with
  | zero => rfl
  | succ n ih => rw [reduceTo_succ, stepP_length, ih]
theorem stepP_inv {m k : Nat} {s : List (List Int) × Nat} (hk : k < m) (h : Good m s.1) (hr : s.2 ≤ s.1.length) : Good m (stepP k s).1 ∧ (stepP k s).2 ≤ (stepP k s).1.length := by
  have hp := pivot_le (k := k) hr
  rw [stepP_length]
  unfold stepP
  split
  · exact ⟨h, hr⟩
  · rename_i e
    have hb : pivot s.1 k s.2 < s.1.length := by omega
    have ha : s.2 < s.1.length := by omega
    have h1 := h.swap ha hb
    have h2 := h1.scale (r := s.2) (k := k) (by rw [swap_length]; exact ha) hk
    exact ⟨h2.elim (by rw [scale_length, swap_length]; exact ha) hk _, ha⟩
theorem reduceTo_inv {m n : Nat} {rows : List (List Int)} (hn : n ≤ m) (h : Good m rows) : Good m (reduceTo rows n).1 ∧ (reduceTo rows n).2 ≤ rows.length := by
  induction n with
  | zero => exact ⟨h, Nat.zero_le _⟩
  | succ n ih =>
    have h1 := ih (by omega)
    rw [reduceTo_succ]
    have h2 := stepP_inv (k := n) (by omega) h1.1 (by rw [reduceTo_length]; exact h1.2)
    rw [stepP_length, reduceTo_length] at h2
    exact h2

/-! ### a matrix in memory -/
abbrev bk (hs : List (Nat × Nat)) (i : Nat) : Nat := (hs.getD i (0, 0)).1
abbrev cp (hs : List (Nat × Nat)) (i : Nat) : Nat := (hs.getD i (0, 0)).2
structure Mat (w : World) (L : Nat) (hs : List (Nat × Nat)) (rows : List (List Int)) : Prop where
  outer : ∃ C, w.heap[L]? = some (.cells C 22 (0, 0)) ∧ ∀ i, i < rows.length → C[i]? = some (.slice (some ⟨bk hs i, 0, none⟩) (row rows i).length (cp hs i))
  inner : ∀ i, i < rows.length → ∃ R, w.heap[bk hs i]? = some (.cells R 3 (0, 0)) ∧ R.size = cp hs i ∧ ∀ j, j < (row rows i).length → R[j]? = some (.int .i64 ((row rows i).getD j 0))
  caps : ∀ i, i < rows.length → (row rows i).length ≤ cp hs i ∧ cp hs i ≤ maxLen
  inj : ∀ i j, i < rows.length → j < rows.length → bk hs i = bk hs j → i = j
  len : hs.length = rows.length
section
variable {w w1 : World} {L : Nat} {hs : List (Nat × Nat)} {rows : List (List Int)}
theorem Mat.cellO (h : Mat w L hs rows) {i : Nat} (hi : i < rows.length) : w.cell? ⟨L, i, none⟩ = some (.slice (some ⟨bk hs i, 0, none⟩) (row rows i).length (cp hs i)) := by
  obtain ⟨C, hC, hc⟩ := h.outer
  exact (blk_cell hC i).trans (hc i hi)
theorem Mat.cellI (h : Mat w L hs rows) {i j : Nat} (hi : i < rows.length) (hj : j < (row rows i).length) : w.cell? ⟨bk hs i, j, none⟩ = some (.int .i64 ((row rows i).getD j 0)) := by
  obtain ⟨R, hR, hz, hr⟩ := h.inner i hi
  exact (blk_cell hR j).trans (hr j hj)
theorem Mat.frO (h : Mat w L hs rows) (j : Nat) : w.frozen? ⟨L, j, none⟩ = false := by
  obtain ⟨C, hC, hc⟩ := h.outer
  exact blk_frozen hC j
theorem Mat.frI (h : Mat w L hs rows) {i : Nat} (hi : i < rows.length) (j : Nat) : w.frozen? ⟨bk hs i, j, none⟩ = false := by
  obtain ⟨R, hR, hz, hr⟩ := h.inner i hi
  exact blk_frozen hR j
theorem Mat.setO (h : Mat w L hs rows) {i : Nat} (hi : i < rows.length) (a : Nat) (v : Value) : ∃ v', (w.setCell ⟨L, a, none⟩ v).cell? ⟨L, i, none⟩ = some v' ∧ (w.setCell ⟨L, a, none⟩ v).frozen? ⟨L, i, none⟩ = false := by
  obtain ⟨C, hC, hc⟩ := h.outer
  have hA : i < C.size := (Array.getElem?_eq_some_iff.1 (hc i hi)).1
  have h1 := blk_set hC a v
  refine ⟨_, (blk_cell h1 i).trans (Array.getElem?_eq_getElem (by rw [Array.size_setIfInBounds]; exact hA)), blk_frozen h1 i⟩
theorem Mat.ne (h : Mat w L hs rows) {i : Nat} (hi : i < rows.length) : bk hs i ≠ L := by
  obtain ⟨C, hC, hc⟩ := h.outer
  obtain ⟨R, hR, hz, hr⟩ := h.inner i hi
  intro e
  rw [e, hC] at hR
  injection hR with hR
  injection hR with _ hR
  exact absurd hR (by decide)
theorem Mat.move (h : Mat w L hs rows) (hL : w1.heap[L]? = w.heap[L]?) (hb : ∀ i, i < rows.length → w1.heap[bk hs i]? = w.heap[bk hs i]?) : Mat w1 L hs rows where
  outer := by rw [hL]; exact h.outer
  inner := fun i hi => by rw [hb i hi]; exact h.inner i hi
  caps := h.caps
  inj := h.inj
  len := h.len
theorem Mat.ltL (h : Mat w L hs rows) : L < w.heap.size := by
  obtain ⟨C, hC, hc⟩ := h.outer
  exact blk_lt hC
theorem Mat.ltI (h : Mat w L hs rows) {i : Nat} (hi : i < rows.length) : bk hs i < w.heap.size := by
  obtain ⟨R, hR, hz, hr⟩ := h.inner i hi
  exact blk_lt hR
theorem Mat.below (h : Mat w L hs rows) (hb : Below w.heap.size w w1) : Mat w1 L hs rows := h.move (hb.block _ h.ltL) (fun i hi => hb.block _ (h.ltI hi))
theorem Mat.far (h : Mat w L hs rows) {p : Addr} (hL : L ≠ p.block) (hb : ∀ i, i < rows.length → bk hs i ≠ p.block) (u : Value) : Mat (w.setCell p u) L hs rows :=
  h.move (Below.heap_setCell w p u L hL) (fun i hi => Below.heap_setCell w p u _ (hb i hi))
/-- A number is stored into a row. -/
theorem Mat.store (h : Mat w L hs rows) {i j : Nat} (hi : i < rows.length) (hj : j < (row rows i).length) (x : Int) : Mat (w.setCell ⟨bk hs i, j, none⟩ (.int .i64 x)) L hs (rows.set i ((row rows i).set j x)) where
  outer := by
    obtain ⟨C, hC, hc⟩ := h.outer
    refine ⟨C, blk_far hC (p := ⟨bk hs i, j, none⟩) (fun e => h.ne hi e.symm) _, fun q hq => ?_⟩
    rw [List.length_set] at hq
    rw [hc q hq, row_set _ _ _ _ hi]
    split
    · rename_i e
      subst e
      rw [List.length_set]
    · rfl
  inner := fun q hq => by
    rw [List.length_set] at hq
    obtain ⟨R, hR, hz, hr⟩ := h.inner q hq
    rw [row_set _ _ _ _ hi]
    by_cases e : i = q
    · subst e
      refine ⟨_, blk_set hR j _, by rw [Array.size_setIfInBounds]; exact hz, fun z hzz => ?_⟩
      rw [if_pos rfl, List.length_set] at hzz
      rw [if_pos rfl, Array.getElem?_setIfInBounds]
      by_cases ez : j = z
      · subst ez
        have hsz : j < R.size := (Array.getElem?_eq_some_iff.1 (hr j hj)).1
        rw [if_pos rfl, if_pos hsz, List.getD_eq_getElem?_getD, List.getElem?_set, if_pos rfl, if_pos hj]
        rfl
      · rw [if_neg ez, hr z hzz, List.getD_eq_getElem?_getD, List.getD_eq_getElem?_getD, List.getElem?_set, if_neg ez]
    · rw [if_neg e]
      refine ⟨R, blk_far hR (p := ⟨bk hs i, j, none⟩) (fun e' => e (h.inj q i hq hi e').symm) _, hz, hr⟩
  caps := fun q hq => by
    rw [List.length_set] at hq
    rw [row_set _ _ _ _ hi]
    split
    · rename_i e
      subst e
      rw [List.length_set]
      exact h.caps i hi
    · exact h.caps q hq
  inj := fun a b ha hb => by
    rw [List.length_set] at ha hb
    exact h.inj a b ha hb
  len := by rw [List.length_set]; exact h.len
def swapH (hs : List (Nat × Nat)) (a b : Nat) : List (Nat × Nat) := (hs.set a (hs.getD b (0, 0))).set b (hs.getD a (0, 0))
theorem swapH_getD (hs : List (Nat × Nat)) (a b j : Nat) (ha : a < hs.length) (hb : b < hs.length) : (swapH hs a b).getD j (0, 0) = if b = j then hs.getD a (0, 0) else if a = j then hs.getD b (0, 0) else hs.getD j (0, 0) := by
  unfold swapH
  rw [List.getD_eq_getElem?_getD, List.getElem?_set, List.getElem?_set]
  by_cases e : b = j
  · subst e
    simp [hb]
  · rw [if_neg e, if_neg e]
    by_cases e' : a = j
    · subst e'
      simp [ha]
    · rw [if_neg e', if_neg e', ← List.getD_eq_getElem?_getD]
/-- Two rows change places. -/
theorem Mat.swap (h : Mat w L hs rows) {a b : Nat} (ha : a < rows.length) (hb : b < rows.length) :
    Mat ((w.setCell ⟨L, a, none⟩ (.slice (some ⟨bk hs b, 0, none⟩) (row rows b).length (cp hs b))).setCell ⟨L, b, none⟩ (.slice (some ⟨bk hs a, 0, none⟩) (row rows a).length (cp hs a))) L (swapH hs a b) (swapR rows a b) := by
  have hla : a < hs.length := by rw [h.len]; exact ha
  have hlb : b < hs.length := by rw [h.len]; exact hb
  have hsw : ∀ j, (swapH hs a b).getD j (0, 0) = if b = j then hs.getD a (0, 0) else if a = j then hs.getD b (0, 0) else hs.getD j (0, 0) := fun j => swapH_getD hs a b j hla hlb
  refine ⟨?_, ?_, ?_, ?_, ?_⟩
  · obtain ⟨C, hC, hc⟩ := h.outer
    refine ⟨_, blk_set (blk_set hC a _) b _, fun q hq => ?_⟩
    rw [swap_length] at hq
    have hA : a < C.size := (Array.getElem?_eq_some_iff.1 (hc a ha)).1
    have hB : b < C.size := (Array.getElem?_eq_some_iff.1 (hc b hb)).1
    unfold bk cp
    rw [row_swap _ _ _ _ ha hb, hsw, Array.getElem?_setIfInBounds, Array.getElem?_setIfInBounds, Array.size_setIfInBounds]
    by_cases e : b = q
    · subst e
      simp [hB]
    · rw [if_neg e, if_neg e, if_neg e]
      by_cases e' : a = q
      · subst e'
        simp [hA]
      · rw [if_neg e', if_neg e', if_neg e']
        exact hc q hq
  · intro q hq
    rw [swap_length] at hq
    have key : ∀ p, p < rows.length → ∃ R, ((w.setCell ⟨L, a, none⟩ (.slice (some ⟨bk hs b, 0, none⟩) (row rows b).length (cp hs b))).setCell ⟨L, b, none⟩ (.slice (some ⟨bk hs a, 0, none⟩) (row rows a).length (cp hs a))).heap[bk hs p]? = some (.cells R 3 (0, 0)) ∧ R.size = cp hs p ∧ ∀ j, j < (row rows p).length → R[j]? = some (.int .i64 ((row rows p).getD j 0)) := by
      intro p hp
      obtain ⟨R, hR, hz, hr⟩ := h.inner p hp
      exact ⟨R, blk_far (blk_far hR (p := ⟨L, a, none⟩) (h.ne hp) _) (p := ⟨L, b, none⟩) (h.ne hp) _, hz, hr⟩
    unfold bk cp
    rw [row_swap _ _ _ _ ha hb, hsw]
    by_cases e : b = q
    · rw [if_pos e, if_pos e]
      exact key a ha
    · rw [if_neg e, if_neg e]
      by_cases e' : a = q
      · rw [if_pos e', if_pos e']
        exact key b hb
      · rw [if_neg e', if_neg e']
        exact key q hq
  · intro q hq
    rw [swap_length] at hq
    unfold cp
    rw [row_swap _ _ _ _ ha hb, hsw]
    split
    · exact h.caps a ha
    · split
      · exact h.caps b hb
      · exact h.caps q hq
  · intro p q hp hq
    rw [swap_length] at hp hq
    unfold bk
    rw [hsw, hsw]
    intro e
    have inj := h.inj
    unfold bk at inj
    by_cases p1 : b = p
    · rw [if_pos p1] at e
      by_cases q1 : b = q
      · omega
      · rw [if_neg q1] at e
        by_cases q2 : a = q
        · rw [if_pos q2] at e
          have := inj _ _ ha hb e; omega
        · rw [if_neg q2] at e
          have := inj _ _ ha hq e; omega
    · rw [if_neg p1] at e
      by_cases p2 : a = p
      · rw [if_pos p2] at e
        by_cases q1 : b = q
        · rw [if_pos q1] at e
          have := inj _ _ hb ha e; omega
        · rw [if_neg q1] at e
          by_cases q2 : a = q
          · omega
          · rw [if_neg q2] at e
            have := inj _ _ hb hq e; omega
      · rw [if_neg p2] at e
        by_cases q1 : b = q
        · rw [if_pos q1] at e
          have := inj _ _ hp ha e; omega
        · rw [if_neg q1] at e
          by_cases q2 : a = q
          · rw [if_pos q2] at e
            have := inj _ _ hp hb e; omega
          · rw [if_neg q2] at e
            exact inj _ _ hp hq e
  · rw [swap_length]
    simp [swapH, h.len]
theorem swapH_bk (hs : List (Nat × Nat)) (a b : Nat) (ha : a < hs.length) (hb : b < hs.length) (P : Nat → Prop) (hP : ∀ i, i < hs.length → P (bk hs i)) : ∀ i, i < hs.length → P (bk (swapH hs a b) i) := by
  intro i hi
  unfold bk
  rw [swapH_getD _ _ _ _ ha hb]
  split
  · exact hP a ha
  · split
    · exact hP b hb
    · exact hP i hi
theorem nums_one (l : List Int) (j : Nat) (h : j < l.length) : ((nums .i64 l).drop (j * 1)).take 1 = [.int .i64 (l.getD j 0)] := by
  unfold nums
  rw [Nat.mul_one, ← List.map_drop, List.drop_eq_getElem_cons h, List.getD_eq_getElem?_getD, List.getElem?_eq_getElem h]
  rfl
theorem Mat.rowR (h : Mat w L hs rows) {i : Nat} (hi : i < rows.length) {base : Nat} (hb : base ≤ bk hs i) : (Kd.int .i64).R 3 w base (fun k => k = bk hs i) (.slice (some ⟨bk hs i, 0, none⟩) (row rows i).length (cp hs i)) (row rows i) := by
  obtain ⟨R, hR, hz, hr⟩ := h.inner i hi
  have hc := h.caps i hi
  have htake : R.toList.take ((row rows i).length * 1) = nums .i64 (row rows i) := by
    apply List.ext_getElem?
    intro j
    rw [List.getElem?_take, Nat.mul_one]
    unfold nums
    rw [List.getElem?_map]
    split
    · rename_i hj
      rw [Array.getElem?_toList, hr j hj, List.getElem?_eq_getElem hj, List.getD_eq_getElem?_getD, List.getElem?_eq_getElem hj]
      rfl
    · rename_i hj
      rw [List.getElem?_eq_none (by omega)]
      rfl
  refine ⟨fun k hk => by simpa [Value.ownBlock] using hk.symm, nums .i64 (row rows i), ⟨by rw [nums_length]; exact (Nat.mul_one _).symm, .inr ⟨bk hs i, cp hs i, R, rfl, hb, hR, hc.1, hc.2, by rw [hz]; exact (Nat.mul_one _).symm, htake⟩⟩, ⟨by rw [nums_length]; exact (Nat.mul_one _).symm, fun j p hj => ?_⟩⟩
  have hjl := (List.getElem?_eq_some_iff.1 hj).1
  have e : p = (row rows i).getD j 0 := by rw [List.getD_eq_getElem?_getD, hj]; rfl
  rw [e]
  exact nums_one _ j hjl
/-- A row that was appended to is put back in its place. -/
theorem Mat.putBack (h : Mat w L hs rows) {i : Nat} (hi : i < rows.length) {base : Nat} {ok : Nat → Prop} {v1 : Value} {new : List Int} (hpos : 0 < new.length) (ho : (Kd.int .i64).R 3 w1 base ok v1 new) (hg : w.grownBy w1 (some (bk hs i))) (hat : v1.ownBlock = some (bk hs i) ∨ ∃ b, v1.ownBlock = some b ∧ w.heap.size ≤ b) :
    ∃ g c, v1 = .slice (some ⟨g, 0, none⟩) new.length c ∧ base ≤ g ∧ (g = bk hs i ∨ w.heap.size ≤ g) ∧ Mat (w1.setCell ⟨L, i, none⟩ v1) L (hs.set i (g, c)) (rows.set i new) := by
  obtain ⟨_, inn, ⟨hl, ho⟩, hr⟩ := ho
  rcases ho with ⟨rfl, hz⟩ | ⟨g, c, R, rfl, hgb, hR, hc, hmax, hsz, htake⟩
  · omega
  have hgi : g = bk hs i ∨ w.heap.size ≤ g := by
    rcases hat with hat | ⟨b, hb, hlt⟩
    · exact .inl (by simpa [Value.ownBlock] using hat)
    · have : g = b := by simpa [Value.ownBlock] using hb
      exact .inr (by omega)
  have hLne : L ≠ bk hs i := fun e => h.ne hi e.symm
  have hgL : g ≠ L := by
    rcases hgi with e | e
    · rw [e]; exact h.ne hi
    · have := h.ltL; omega
  have hil : i < hs.length := by rw [h.len]; exact hi
  have hsi : (hs.set i (g, c)).getD i (0, 0) = (g, c) := by rw [List.getD_eq_getElem?_getD, List.getElem?_set, if_pos rfl, if_pos hil]; rfl
  have hsj : ∀ j, i ≠ j → (hs.set i (g, c)).getD j (0, 0) = hs.getD j (0, 0) := by
    intro j hj
    rw [List.getD_eq_getElem?_getD, List.getElem?_set, if_neg hj, ← List.getD_eq_getElem?_getD]
  have hgj : ∀ j, j < rows.length → i ≠ j → g ≠ bk hs j := by
    intro j hj hij
    rcases hgi with e | e
    · intro e2
      exact hij (h.inj i j hi hj (e ▸ e2))
    · have := h.ltI hj; omega
  refine ⟨g, c, rfl, hgb, hgi, ?_, ?_, ?_, ?_, by rw [List.length_set, List.length_set]; exact h.len⟩
  · obtain ⟨C, hC, hcc⟩ := h.outer
    have hC1 := (hg.block L h.ltL (by intro e; injection e with e; exact hLne e)).trans hC
    refine ⟨_, blk_set hC1 i _, fun q hq => ?_⟩
    rw [List.length_set] at hq
    rw [row_set _ _ _ _ hi, Array.getElem?_setIfInBounds]
    unfold bk cp
    by_cases e : i = q
    · subst e
      have hA : i < C.size := (Array.getElem?_eq_some_iff.1 (hcc i hi)).1
      rw [if_pos rfl, if_pos rfl, if_pos hA, hsi]
    · rw [if_neg e, if_neg e, hsj q e]
      exact hcc q hq
  · intro q hq
    rw [List.length_set] at hq
    rw [row_set _ _ _ _ hi]
    unfold bk cp
    by_cases e : i = q
    · subst e
      rw [if_pos rfl, hsi]
      refine ⟨R, blk_far hR (p := ⟨L, i, none⟩) hgL _, by rw [hsz]; exact Nat.mul_one _, fun j hj => ?_⟩
      have h2 : (inn.drop (j * 1)).take 1 = [.int .i64 (new.getD j 0)] := hr.2 j (new.getD j 0) (by rw [List.getD_eq_getElem?_getD, List.getElem?_eq_getElem hj]; rfl)
      have h4 : ((inn.drop (j * 1)).take 1)[0]? = some (.int .i64 (new.getD j 0)) := by rw [h2]; rfl
      rw [Nat.mul_one, List.getElem?_take_of_lt (by omega), List.getElem?_drop, Nat.add_zero, ← (show R.toList.take (new.length * 1) = inn from htake)] at h4
      rw [List.getElem?_take] at h4
      split at h4
      · rw [← Array.getElem?_toList]; exact h4
      · cases h4
    · rw [if_neg e, hsj q e]
      obtain ⟨R', hR', hz', hr'⟩ := h.inner q hq
      have hne : bk hs i ≠ bk hs q := fun e2 => e (h.inj i q hi hq e2)
      have hR1 := (hg.block (bk hs q) (h.ltI hq) (by intro e2; injection e2 with e2; exact hne e2.symm)).trans hR'
      exact ⟨R', blk_far hR1 (p := ⟨L, i, none⟩) (h.ne hq) _, hz', hr'⟩
  · intro q hq
    rw [List.length_set] at hq
    rw [row_set _ _ _ _ hi]
    unfold cp
    by_cases e : i = q
    · subst e
      rw [if_pos rfl, hsi]
      exact ⟨hc, hmax⟩
    · rw [if_neg e, hsj q e]
      exact h.caps q hq
  · intro p q hp hq
    rw [List.length_set] at hp hq
    unfold bk
    by_cases e1 : i = p
    · subst e1
      by_cases e2 : i = q
      · intro _; exact e2
      · rw [hsi, hsj q e2]
        intro e
        exact absurd e (hgj q hq e2)
    · rw [hsj p e1]
      by_cases e2 : i = q
      · subst e2
        rw [hsi]
        intro e
        exact absurd e.symm (hgj p hp e1)
      · rw [hsj q e2]
        exact h.inj p q hp hq
end
end Go.Proofs.Ythfddndmhjkeiaa.L
end
section
/- matrix.reduce: what it does to rows in memory. -/
namespace Go.Proofs.Ythfddndmhjkeiaa.L
open Go.RowKit Go.Proofs.YthfddndmhjkeiaaW.PrintWords Go.Proofs.YthfddndmhjkeiaaW.PrintLast Go.Proofs.YthfddndmhjkeiaaW.PrintMore
set_option linter.unusedVariables false
set_option linter.unusedSimpArgs false

set_option maxHeartbeats 2000000 in
set_option maxRecDepth 100000 in
theorem matrix_reduce.calls (P : Nat → Prop) (B L cap : Nat) (hs : List (Nat × Nat)) (rows : List (List Int)) (m cols : Nat) (w0 w : World) (hM : Mat w L hs rows) (hG : Good m rows) (hm : m ≤ 1000) (hr : rows.length ≤ 1000) (hcap : rows.length ≤ cap) (hc : cols ≤ m)
    (hP : ∀ i, i < rows.length → P (bk hs i)) (hPL : P L) (hPB : ∀ k, P k → B ≤ k) (hB : Below B w0 w) :
    Calls Try.prog 65 #[.slice (some ⟨L, 0, none⟩) rows.length cap, .int .i64 (cols : Int)] w fun e w' => e = .returned (.int .i64 ((reduceTo rows cols).2 : Int)) ∧ ∃ hs', Mat w' L hs' (reduceTo rows cols).1 ∧ (∀ i, i < rows.length → P (bk hs' i)) ∧ Below B w0 w' ∧ Kept w w' P := by
  have HM := Aside0.mk hM
  have HG := Aside0.mk hG
  have HP := Aside0.mk hP
  have HPL := Aside0.mk hPL
  have HPB := Aside0.mk hPB
  have HB := Aside0.mk hB
  clear hM hG hP hPL hPB hB
  generalize hn : rows.length = n at *
  have Hn := Aside0.mk hn
  clear hn
  go_enter Try.func65, Try.ntmps65
  go_wp2_with fail
  go_loopw [18, 5] (fun v u wr => ∃ (k r : Nat) (hs1 : List (Nat × Nat)), v = .int .i64 (k : Int) ∧ u = .int .i64 (r : Int) ∧ k ≤ cols ∧ r ≤ n ∧ Aside0 (r = (reduceTo rows k).2) ∧ Aside0 (Mat wr L hs1 (reduceTo rows k).1) ∧ Aside0 (∀ i, i < n → P (bk hs1 i)) ∧ Aside0 (Below B w0 wr) ∧ Aside0 (Kept w wr P)) (fun v _ _ => cols - (intOf v).toNat)
  case atStart => exact ⟨0, 0, hs, rfl, rfl, Nat.zero_le _, Nat.zero_le _, ⟨rfl⟩, ⟨HM.out⟩, ⟨HP.out⟩, ⟨HB.out⟩, ⟨Kept.refl _ _⟩⟩
  case round =>
    obtain ⟨k, r, hs1, rfl, rfl, hk, hrn, HR, HM1, HP1, HB1, HK1⟩ := hrel
    have hl0 : (reduceTo rows k).1.length = n := by rw [reduceTo_length]; exact Hn.out
    have hinv := (reduceTo_inv (n := k) (by omega) HG.out).1
    have hst : ∀ R0, R0 = (reduceTo rows k).1 → reduceTo rows (k + 1) = stepP k (R0, r) := by
      intro R0 e
      rw [reduceTo_succ, e, HR.out]
    obtain ⟨R0, hR0⟩ : ∃ R0, R0 = (reduceTo rows k).1 := ⟨_, rfl⟩
    have HST := Aside0.mk (hst R0 hR0)
    rw [← hR0] at hl0 hinv
    have HM0 : Aside0 (Mat wr L hs1 R0) := ⟨by rw [hR0]; exact HM1.out⟩
    have HR0 := Aside0.mk hR0
    have HI0 := Aside0.mk hinv
    have HL0 := Aside0.mk hl0
    clear hst hR0 hinv HM1 hl0
    by_cases hlt : k < cols
    · have hltb : decide ((k : Int) < (cols : Int)) = true := decide_eq_true (by omega)
      go_wp2_with fail
      go_loop [7] (fun v => ∃ i : Nat, v = .int .i64 (i : Int) ∧ r ≤ i ∧ i ≤ n ∧ Aside0 (pivot R0 k r = pivot R0 k i)) (fun v => n - (intOf v).toNat)
      case atStart => exact ⟨r, rfl, Nat.le_refl _, hrn, ⟨rfl⟩⟩
      case round =>
        obtain ⟨i, rfl, hi0, hi1, HPV⟩ := hrel
        by_cases hin : i < n
        · have hinb : decide ((i : Int) < (n : Int)) = true := decide_eq_true (by omega)
          have hil : i < R0.length := by rw [HL0.out]; exact hin
          have hO := HM0.out.cellO hil
          have hlr : (row R0 i).length = m := (HI0.out i hil).1
          have hI := HM0.out.cellI hil (j := k) (by rw [hlr]; omega)
          rw [hlr] at hO
          generalize hx : (row R0 i).getD k 0 = x at hI
          by_cases hz : x = 0
          · have hzb : (x == 0) = true := beq_iff_eq.mpr hz
            have HPV2 := Aside0.mk (HPV.out.trans (pivot_go hil (by rw [hx]; exact hz)))
            clear hx hz hlr hil
            go_wp2_with fail
            exact ⟨⟨i + 1, rfl, by omega, by omega, HPV2⟩, by simp [intOf]; omega⟩
          · have hzb : (x == 0) = false := beq_eq_false_iff_ne.mpr hz
            have hp : pivot R0 k r = i := HPV.out.trans (pivot_stop hil (by rw [hx]; exact hz))
            have HST2 := Aside0.mk (show reduceTo rows (k + 1) = (elimTo (scaleRow (swapR R0 r i) r k) r k R0.length, r + 1) by
              rw [HST.out]
              unfold stepP
              rw [if_neg (by show ¬ pivot R0 k r = R0.length; rw [hp, HL0.out]; omega)]
              show _ = _
              rw [hp])
            have hne : ((i : Int) == (n : Int)) = false := beq_eq_false_iff_ne.mpr (by omega)
            have hrl : r < R0.length := by omega
            have hO2 := HM0.out.cellO hrl
            have hlr2 : (row R0 r).length = m := (HI0.out r hrl).1
            rw [hlr2] at hO2
            have hf1 := HM0.out.frO i
            have hf2 := HM0.out.frO r
            have hsw := Aside0.mk (HM0.out.swap hrl hil)
            rw [hlr, hlr2] at hsw
            obtain ⟨vz, hz1, hz2⟩ := HM0.out.setO hil r (.slice (some ⟨bk hs1 i, 0, none⟩) m (cp hs1 i))
            clear hz hp HPV HST hlr hx
            go_wp2_with fail
            go_region
            clear hz1 hz2 hf1 hf2 hO hO2 hI hinb hne hzb hlr2
            have hl1 : hs1.length = n := by rw [HM0.out.len, HL0.out]
            have hPi : P L := HPL.out
            have hBL : B ≤ L := HPB.out L hPi
            obtain ⟨w2, hw2, HM2, HB2, HK2⟩ : ∃ w2, w2 = ((wr.setCell ⟨L, r, none⟩ (.slice (some ⟨bk hs1 i, 0, none⟩) m (cp hs1 i))).setCell ⟨L, i, none⟩ (.slice (some ⟨bk hs1 r, 0, none⟩) m (cp hs1 r))).drew ∧ Aside0 (Mat w2 L (swapH hs1 r i) (swapR R0 r i)) ∧ Aside0 (Below B w0 w2) ∧ Aside0 (Kept w w2 P) :=
              ⟨_, rfl, ⟨hsw.out.move rfl (fun _ _ => rfl)⟩, ⟨below_drew ((HB1.out.setCell hBL _).setCell hBL _)⟩, ⟨Kept.drew (Kept.setCell (Kept.setCell HK1.out (.inl hPi) _) (.inl hPi) _)⟩⟩
            rw [← hw2]
            clear hw2 hsw
            have HP2 := Aside0.mk (show ∀ q, q < n → P (bk (swapH hs1 r i) q) by
              have := swapH_bk hs1 r i (by omega) (by omega) P (by rw [hl1]; exact HP1.out)
              rw [hl1] at this
              exact this)
            obtain ⟨R1, hR1⟩ : ∃ R1, R1 = swapR R0 r i := ⟨_, rfl⟩
            obtain ⟨hs2, hh2⟩ : ∃ hs2, hs2 = swapH hs1 r i := ⟨_, rfl⟩
            have HST3 : Aside0 (reduceTo rows (k + 1) = (elimTo (scaleRow R1 r k) r k n, r + 1)) := ⟨by rw [HST2.out, hR1, HL0.out]⟩
            rw [← hR1, ← hh2] at HM2
            rw [← hh2] at HP2
            have HI1 := Aside0.mk (show Good m R1 by rw [hR1]; exact HI0.out.swap (by rw [HL0.out]; omega) hil)
            have HL1 := Aside0.mk (show R1.length = n by rw [hR1, swap_length, HL0.out])
            have hrn2 : r < n := by omega
            clear hin hi0 hi1
            clear HST2 hR1 hh2 HM0 HB1 HK1 HP1 HI0 HL0 HR0 hil hrl hl1 hBL hPi
            have hrl : r < R1.length := by rw [HL1.out]; omega
            have hlr : (row R1 r).length = m := (HI1.out r hrl).1
            have hO := HM2.out.cellO hrl
            have hI := HM2.out.cellI hrl (j := k) (by rw [hlr]; omega)
            rw [hlr] at hO
            have hel := HI1.out.getD hrl (j := k) (by omega)
            have hgi := Aside0.mk (ginv_some hel)
            have hge := Aside0.mk (ginv_el hel)
            obtain ⟨x, hxx⟩ : ∃ x, x = (row R1 r).getD k 0 := ⟨_, rfl⟩
            obtain ⟨by_, hby⟩ : ∃ y, y = ginv ((row R1 r).getD k 0) := ⟨_, rfl⟩
            rw [← hby] at hgi hge
            have HBY := Aside0.mk hby
            rw [← hxx] at hI hgi
            clear hby hel hxx
            go_wp2_with fail
            refine (field_Inverse.calls 40 x _ _ _ hgi.out).mono ?_
            rintro e w3 ⟨rfl, ⟨nd, rfl⟩⟩
            have HM3 : Aside0 (Mat (w2.drewN nd) L hs2 R1) := ⟨HM2.out.move rfl (fun _ _ => rfl)⟩
            have HB3 := Aside0.mk (pw_below_drewN HB2.out nd)
            have HK3 := Aside0.mk (Kept.drewN HK2.out nd)
            clear HM2 HB2 HK2 hI
            generalize w2.drewN nd = w3 at *
            have hO := HM3.out.cellO hrl
            rw [hlr] at hO
            have HLR := Aside0.mk hlr
            have HPR := Aside0.mk (show P (bk hs2 r) ∧ B ≤ bk hs2 r from ⟨HP2.out r hrn2, HPB.out _ (HP2.out r hrn2)⟩)
            clear hlr
            go_wp2_with fail
            clear hO
            go_loopw [72] (fun v wr => ∃ j : Nat, v = .int .i64 (j : Int) ∧ j ≤ m ∧ Aside0 (Mat wr L hs2 (R1.set r (mid (row R1 r) (fun j => gm ((row R1 r).getD j 0) by_) j))) ∧ Aside0 (Below B w0 wr) ∧ Aside0 (Kept w wr P)) (fun v _ => m - (intOf v).toNat)
            case atStart => exact ⟨0, rfl, Nat.zero_le _, ⟨by rw [mid_zero, show R1.set r (row R1 r) = R1 from set_row R1 r]; exact HM3.out⟩, HB3, HK3⟩
            case round =>
              rename_i wr2 _
              obtain ⟨j, rfl, hj, HMj, HBj, HKj⟩ := hrel
              by_cases hjm : j < m
              · have hjb : decide ((j : Int) < (m : Int)) = true := decide_eq_true (by omega)
                obtain ⟨R2, hR2⟩ : ∃ R2, R2 = R1.set r (mid (row R1 r) (fun j => gm ((row R1 r).getD j 0) by_) j) := ⟨_, rfl⟩
                rw [← hR2] at HMj
                have hrl2 : r < R2.length := by rw [hR2, List.length_set]; exact hrl
                have hlr2 : (row R2 r).length = m := by rw [hR2, row_set _ _ _ _ hrl, if_pos rfl, mid_length]; exact HLR.out
                have hO := HMj.out.cellO hrl2
                have hI := HMj.out.cellI hrl2 (j := j) (by rw [hlr2]; exact hjm)
                have hfr := HMj.out.frI hrl2 j
                have hx : (row R2 r).getD j 0 = (row R1 r).getD j 0 := by rw [hR2, row_set _ _ _ _ hrl, if_pos rfl, mid_getD _ _ _ _ (by rw [HLR.out]; exact hjm), if_neg (by omega)]
                have hel := HI1.out.getD hrl hjm
                have hst := Aside0.mk (HMj.out.store hrl2 (j := j) (by rw [hlr2]; exact hjm) (gm ((row R1 r).getD j 0) by_))
                have hre := Aside0.mk (show R2.set r ((row R2 r).set j (gm ((row R1 r).getD j 0) by_)) = R1.set r (mid (row R1 r) (fun j => gm ((row R1 r).getD j 0) by_) (j + 1)) by
                  rw [hR2, row_set _ _ _ _ hrl, if_pos rfl, List.set_set, mid_set (row R1 r) (fun j => gm ((row R1 r).getD j 0) by_) j])
                rw [hx] at hI
                rw [hlr2] at hO
                have hgm := Aside0.mk (gm_some hel hge.out)
                generalize (row R1 r).getD j 0 = y at hI hgm hst hre hel
                clear hx hel hlr2 hR2
                go_wp2_with fail
                go_region_with ((go_at_call 87; refine (matrix_mul.calls 40 _ _ _ _ hgm.out).mono ?_; rintro e w' ⟨rfl, ⟨nd, rfl⟩⟩))
                all_goals
                  go_wp2_with fail
                  refine ⟨⟨j + 1, rfl, by omega, ⟨?_⟩, ⟨?_⟩, ⟨?_⟩⟩, by simp [intOf]; omega⟩
                  · rw [← hre.out]; exact hst.out.move rfl (fun _ _ => rfl)
                  · repeat (first | exact HBj.out | apply pw_below_drewN | apply below_drew | refine Below.setCell ?_ HPR.out.2 _)
                  · repeat (first | exact HKj.out | apply Kept.drewN | apply Kept.drew | refine Kept.setCell ?_ (.inl HPR.out.1) _)
              · have hjb : decide ((j : Int) < (m : Int)) = false := decide_eq_false (by omega)
                obtain rfl : m = j := by omega
                obtain ⟨R3, hR3⟩ : ∃ R3, R3 = scaleRow R1 r k := ⟨_, rfl⟩
                have hR2 : R1.set r (mid (row R1 r) (fun j => gm ((row R1 r).getD j 0) by_) m) = R3 := by
                  rw [hR3]
                  unfold scaleRow
                  rw [HLR.out, HBY.out]
                rw [hR2] at HMj
                have HI3 := Aside0.mk (show Good m R3 by rw [hR3]; exact HI1.out.scale hrl (by omega))
                have HL3 := Aside0.mk (show R3.length = n by rw [hR3, scale_length, HL1.out])
                have HST4 : Aside0 (reduceTo rows (k + 1) = (elimTo R3 r k n, r + 1)) := ⟨by rw [HST3.out, hR3]⟩
                clear hR2 hR3 HST3 HBY HI1 HL1 HLR hgi hge hjm hj hrl HM3 HB3 HK3
                have hr3 : r < R3.length := by rw [HL3.out]; exact hrn2
                go_wp2_with fail
                go_loopw [89] (fun v wr => ∃ q : Nat, v = .int .i64 (q : Int) ∧ q ≤ n ∧ Aside0 (Mat wr L hs2 (elimTo R3 r k q)) ∧ Aside0 (Below B w0 wr) ∧ Aside0 (Kept w wr P)) (fun v _ => n - (intOf v).toNat)
                case atStart => exact ⟨0, rfl, Nat.zero_le _, ⟨by rw [elimTo_zero]; exact HMj.out⟩, HBj, HKj⟩
                case round =>
                  rename_i wr3 _
                  clear HMj HBj HKj
                  obtain ⟨q, rfl, hq, HMq, HBq, HKq⟩ := hrel
                  by_cases hqn : q < n
                  · have hqb : decide ((q : Int) < (n : Int)) = true := decide_eq_true (by omega)
                    obtain ⟨R4, hR4⟩ : ∃ R4, R4 = elimTo R3 r k q := ⟨_, rfl⟩
                    rw [← hR4] at HMq
                    have hq3 : q < R3.length := by rw [HL3.out]; exact hqn
                    have hq4 : q < R4.length := by rw [hR4, elimTo_length]; exact hq3
                    have hr4 : r < R4.length := by rw [hR4, elimTo_length]; exact hr3
                    have hrow : row R4 q = row R3 q := by rw [hR4, elimTo_row _ _ _ _ _ hq3, if_neg (by omega)]
                    have hrowr : row R4 r = row R3 r := by rw [hR4, elimTo_pivot _ _ _ _ hr3]
                    have hlq : (row R3 q).length = m := (HI3.out q hq3).1
                    have hlr : (row R3 r).length = m := (HI3.out r hr3).1
                    have hOq := HMq.out.cellO hq4
                    have hOr := HMq.out.cellO hr4
                    have hI := HMq.out.cellI hq4 (j := k) (by rw [hrow, hlq]; omega)
                    rw [hrow] at hI hOq
                    rw [hrowr] at hOr
                    rw [hlq] at hOq
                    rw [hlr] at hOr
                    have HES := Aside0.mk (show elimTo R3 r k (q + 1) = R4.set q (elimRow R3 r k q (row R3 q)) by rw [elimTo_succ _ _ _ _ hq3, hR4])
                    have HROW := Aside0.mk hrow
                    have HROWR := Aside0.mk hrowr
                    have HLQ := Aside0.mk hlq
                    have HLR3 := Aside0.mk hlr
                    clear hrow hrowr hR4 hlq hlr
                    obtain ⟨z, hz⟩ : ∃ z, z = (row R3 q).getD k 0 := ⟨_, rfl⟩
                    have hzel : El z := by rw [hz]; exact HI3.out.getD hq3 (by omega)
                    rw [← hz] at hI
                    have HZ := Aside0.mk hz
                    clear hz
                    by_cases hcnd : q ≠ r ∧ z ≠ 0
                    · have c1 : ((q : Int) != (r : Int)) = true := bne_iff_ne.mpr (by omega)
                      have c2 : (z != 0) = true := bne_iff_ne.mpr hcnd.2
                      have hqr : q ≠ r := hcnd.1
                      have HPQ := Aside0.mk (show P (bk hs2 q) ∧ B ≤ bk hs2 q from ⟨HP2.out q hqn, HPB.out _ (HP2.out q hqn)⟩)
                      have HEL := Aside0.mk (show elimRow R3 r k q (row R3 q) = mid (row R3 q) (fun j => gx ((row R3 q).getD j 0) (gm ((row R3 r).getD j 0) z)) m by
                        unfold elimRow
                        rw [if_pos ⟨hqr, by rw [← HZ.out]; exact hcnd.2⟩, HLQ.out, ← HZ.out])
                      clear hcnd
                      go_wp2_with fail
                      clear hOq hOr hI
                      go_loopw [110] (fun v wr => ∃ j : Nat, v = .int .i64 (j : Int) ∧ j ≤ m ∧ Aside0 (Mat wr L hs2 (R4.set q (mid (row R3 q) (fun j => gx ((row R3 q).getD j 0) (gm ((row R3 r).getD j 0) z)) j))) ∧ Aside0 (Below B w0 wr) ∧ Aside0 (Kept w wr P)) (fun v _ => m - (intOf v).toNat)
                      case atStart => exact ⟨0, rfl, Nat.zero_le _, ⟨by rw [mid_zero, ← HROW.out, set_row]; exact HMq.out⟩, HBq, HKq⟩
                      case round =>
                        rename_i wr4 _
                        clear HMq HBq HKq
                        obtain ⟨j, rfl, hj, HMj, HBj, HKj⟩ := hrel
                        by_cases hjm : j < m
                        · have hjb : decide ((j : Int) < (m : Int)) = true := decide_eq_true (by omega)
                          obtain ⟨F, hF⟩ : ∃ F : Nat → Int, F = (fun j => gx ((row R3 q).getD j 0) (gm ((row R3 r).getD j 0) z)) := ⟨_, rfl⟩
                          obtain ⟨R5, hR5⟩ : ∃ R5, R5 = R4.set q (mid (row R3 q) F j) := ⟨_, rfl⟩
                          rw [← hF, ← hR5] at HMj
                          have hq5 : q < R5.length := by rw [hR5, List.length_set]; exact hq4
                          have hr5 : r < R5.length := by rw [hR5, List.length_set]; exact hr4
                          have hrq : row R5 q = mid (row R3 q) F j := by rw [hR5, row_set _ _ _ _ hq4, if_pos rfl]
                          have hrr : row R5 r = row R3 r := by rw [hR5, row_set _ _ _ _ hq4, if_neg hqr, HROWR.out]
                          have hlq : (row R5 q).length = m := by rw [hrq, mid_length, HLQ.out]
                          have hlr : (row R5 r).length = m := by rw [hrr, HLR3.out]
                          have hIq := HMj.out.cellI hq5 (j := j) (by rw [hlq]; exact hjm)
                          have hIr := HMj.out.cellI hr5 (j := j) (by rw [hlr]; exact hjm)
                          have hfr := HMj.out.frI hq5 j
                          rw [show (row R5 q).getD j 0 = (row R3 q).getD j 0 by rw [hrq, mid_getD _ _ _ _ (by rw [HLQ.out]; exact hjm), if_neg (by omega)]] at hIq
                          rw [hrr] at hIr
                          have helq := HI3.out.getD hq3 hjm
                          have helr := HI3.out.getD hr3 hjm
                          have hgm := Aside0.mk (gm_some helr hzel)
                          have hst := Aside0.mk (HMj.out.store hq5 (j := j) (by rw [hlq]; exact hjm) (F j))
                          have hre := Aside0.mk (show R5.set q ((row R5 q).set j (F j)) = R4.set q (mid (row R3 q) F (j + 1)) by
                            rw [hrq, mid_set, hR5, List.set_set])
                          have hFj : F j = Go.bits .xor .i64 ((row R3 q).getD j 0) (gm ((row R3 r).getD j 0) z) := by rw [hF]; rfl
                          rw [hFj] at hst hre
                          have HF := Aside0.mk hF
                          clear hFj hF hR5 hrq hrr hlq hlr
                          generalize (row R3 q).getD j 0 = yq at hIq hst hre helq
                          generalize (row R3 r).getD j 0 = yr at hIr hst hre helr hgm
                          clear helq helr
                          go_wp2_with fail
                          go_region_with ((go_at_call 87; refine (matrix_mul.calls 40 _ _ _ _ hgm.out).mono ?_; rintro e w' ⟨rfl, ⟨nd, rfl⟩⟩))
                          all_goals
                            go_wp2_with fail
                            refine ⟨⟨j + 1, rfl, by omega, ⟨?_⟩, ⟨?_⟩, ⟨?_⟩⟩, by simp [intOf]; omega⟩
                            · rw [← HF.out, ← hre.out]; exact hst.out.move rfl (fun _ _ => rfl)
                            · repeat (first | exact HBj.out | apply pw_below_drewN | apply below_drew | refine Below.setCell ?_ HPQ.out.2 _)
                            · repeat (first | exact HKj.out | apply Kept.drewN | apply Kept.drew | refine Kept.setCell ?_ (.inl HPQ.out.1) _)
                        · have hjb : decide ((j : Int) < (m : Int)) = false := decide_eq_false (by omega)
                          obtain rfl : m = j := by omega
                          have hM6 := HMj.out
                          rw [← HEL.out, ← HES.out] at hM6
                          have HM6 := Aside0.mk hM6
                          clear hM6
                          clear HMj hjm hj
                          go_wp2_with fail
                          exact ⟨⟨q + 1, rfl, by omega, HM6, HBj, HKj⟩, by simp [intOf]; omega⟩
                    · have hre : elimTo R3 r k (q + 1) = R4 := by
                        rw [HES.out]
                        unfold elimRow
                        rw [if_neg (by rw [← HZ.out]; exact hcnd), ← HROW.out, set_row]
                      have hM6 := HMq.out
                      rw [← hre] at hM6
                      have HM6 := Aside0.mk hM6
                      clear hM6 hre
                      by_cases hqr : q = r
                      · have c1 : ((q : Int) != (r : Int)) = false := bne_eq_false_iff_eq.mpr (by omega)
                        clear hcnd hqr
                        go_wp2_with fail
                        exact ⟨⟨q + 1, rfl, by omega, HM6, HBq, HKq⟩, by simp [intOf]; omega⟩
                      · have c1 : ((q : Int) != (r : Int)) = true := bne_iff_ne.mpr (by omega)
                        have c2 : (z != 0) = false := bne_eq_false_iff_eq.mpr (by
                          rcases Classical.em (z = 0) with h0 | h0
                          · exact h0
                          · exact absurd ⟨hqr, h0⟩ hcnd)
                        clear hcnd hqr
                        go_wp2_with fail
                        exact ⟨⟨q + 1, rfl, by omega, HM6, HBq, HKq⟩, by simp [intOf]; omega⟩
                  · have hqb : decide ((q : Int) < (n : Int)) = false := decide_eq_false (by omega)
                    obtain rfl : n = q := by omega
                    go_wp2_with fail
                    refine ⟨⟨k + 1, r + 1, hs2, rfl, rfl, by omega, by omega, ⟨by rw [HST4.out]⟩, ⟨by rw [HST4.out]; exact HMq.out⟩, HP2, HBq, HKq⟩, by simp [intOf]; omega⟩
        · have hinb : decide ((i : Int) < (n : Int)) = false := decide_eq_false (by omega)
          have hne : ((i : Int) == (n : Int)) = true := beq_iff_eq.mpr (by omega)
          have hs2 : reduceTo rows (k + 1) = (R0, r) := by
            rw [HST.out]
            unfold stepP
            rw [if_pos]
            show pivot R0 k r = R0.length
            rw [HPV.out, pivot_end (by rw [HL0.out]; omega), HL0.out]
            omega
          have HS2 := Aside0.mk hs2
          clear hs2
          go_wp2_with fail
          refine ⟨⟨k + 1, r, hs1, rfl, rfl, by omega, hrn, ⟨by rw [HS2.out]⟩, ⟨by rw [HS2.out]; exact HM0.out⟩, HP1, HB1, HK1⟩, by simp [intOf]; omega⟩
    · have hltb : decide ((k : Int) < (cols : Int)) = false := decide_eq_false (by omega)
      obtain rfl : k = cols := by omega
      go_wp2_with fail
      go_ret
      exact ⟨by rw [HR.out]; rfl, hs1, by rw [← HR0.out]; exact HM0.out, HP1.out, HB1.out, HK1.out⟩
end Go.Proofs.Ythfddndmhjkeiaa.L
end
section
-- Printed for this claim by a small program of the session's own, drv.py, round the kit's print.py. Lean checks it.
namespace Go.Proofs.Ythfddndmhjkeiaa.L
open Go.RowKit Go.Proofs.YthfddndmhjkeiaaW.PrintWords Go.Proofs.YthfddndmhjkeiaaW.PrintLast Go.Proofs.YthfddndmhjkeiaaW.PrintMore
attribute [local go_sem] max2_int min2_int max_two min_two max_three min_three max_four min_four   -- for this text's walks alone
set_option linter.unusedVariables false
set_option linter.unusedSimpArgs false

/-! ### matrix_Check: function 63 -/
mutual
def matrix_Check.j0 : Nat → Bool → Int → Int → List Int → Option (Int)
  | 0, _, _, _, _ => none
  | k + 1, x22, x226000, x226001, x226002 => if x22 = true then (some 1) else (if (x226002.length : Int) = (wrap64 (x226000 * x226001)) then (matrix_Check.l0 k x226002 (x226002.length : Int) 0) else (some 2))
def matrix_Check.l0 : Nat → List Int → Int → Int → Option (Int)
  | 0, _, _, _ => none
  | k + 1, x33, x34, x35 => if x35 < x34 then (if 0 ≤ x35 then (if x35 < (x33.length : Int) then (if (rd x33 x35) < 0 then (some 1) else (if (rd x33 x35) > 15 then (some 1) else (matrix_Check.l0 k x33 x34 (wrap64 (x35 + 1))))) else (none)) else (none)) else (some 0)
end
def matrix_Check.f (k : Nat) (a0_0 : Int) (a0_1 : Int) (l0_2 : List Int) : Option (Int) := if a0_0 < 1 then (matrix_Check.j0 k true a0_0 a0_1 l0_2) else (if a0_0 > 16 then (matrix_Check.j0 k true a0_0 a0_1 l0_2) else (if a0_1 < 1 then (matrix_Check.j0 k true a0_0 a0_1 l0_2) else (matrix_Check.j0 k (decide (a0_1 > 16)) a0_0 a0_1 l0_2)))
theorem matrix_Check.mono_l : ∀ k, (∀ y0 y1 y2 y3, LeO (matrix_Check.j0 k y0 y1 y2 y3) (matrix_Check.j0 (k + 1) y0 y1 y2 y3)) ∧ (∀ y0 y1 y2, LeO (matrix_Check.l0 k y0 y1 y2) (matrix_Check.l0 (k + 1) y0 y1 y2))
  | 0 => ⟨fun _ _ _ _ r h => by simp [matrix_Check.j0] at h, fun _ _ _ r h => by simp [matrix_Check.l0] at h⟩
  | k + 1 => by
    obtain ⟨ih0, ih1⟩ := matrix_Check.mono_l k
    refine ⟨?_, ?_⟩
    · intro y0 y1 y2 y3
      unfold matrix_Check.j0
      repeat' first | (with_reducible exact ih1 _ _ _) | (with_reducible exact LeO.refl _) | (with_reducible refine LeO.ite ?_ ?_)
    · intro y0 y1 y2
      unfold matrix_Check.l0
      repeat' first | (with_reducible exact ih1 _ _ _) | (with_reducible exact LeO.refl _) | (with_reducible refine LeO.ite ?_ ?_)
theorem matrix_Check.mono : ∀ a0 a1 a2 k, LeO (matrix_Check.f k a0 a1 a2) (matrix_Check.f (k + 1) a0 a1 a2) := by
  intro a0 a1 a2 k
  obtain ⟨ih0, ih1⟩ := matrix_Check.mono_l k
  unfold matrix_Check.f
  repeat' first | (with_reducible exact ih0 _ _ _ _) | (with_reducible refine LeO.ite ?_ ?_)
set_option maxHeartbeats 8000000 in
set_option maxRecDepth 100000 in
theorem matrix_Check.calls (k : Nat) (a0_0 : Int) (a0_1 : Int) (A0_2 : Option Addr) (c0_2 : Nat) (l0_2 : List Int) (r : Int) (w : World) (hr0_2 : Kd.C (Kd.int .i64) w A0_2 l0_2.length l0_2) (hc0_2 : l0_2.length ≤ c0_2) (h : matrix_Check.f k a0_0 a0_1 l0_2 = some r) :
    Calls Try.prog 63 #[.agg #[.int .i64 a0_0, .int .i64 a0_1, .slice A0_2 l0_2.length c0_2]] w fun e w' => e = .returned (.int .i64 r) ∧ Below w.heap.size w w' := by
  have hu79 := Try.underlying79
  have HR0_2 := Aside0.mk hr0_2
  have HC0_2 := Aside0.mk hc0_2
  clear hr0_2 hc0_2
  have HB := Aside0.mk (Below.refl w.heap.size w)
  have H : (if a0_0 < 1 then (matrix_Check.j0 k true a0_0 a0_1 l0_2) else (if a0_0 > 16 then (matrix_Check.j0 k true a0_0 a0_1 l0_2) else (if a0_1 < 1 then (matrix_Check.j0 k true a0_0 a0_1 l0_2) else (matrix_Check.j0 k (decide (a0_1 > 16)) a0_0 a0_1 l0_2)))) = some r := h
  clear h
  have HC2 := Aside0.mk H
  clear H
  go_enter Try.func63, Try.ntmps63
  go_upto_region 1 with (((with_reducible refine gate_dst (N := 1) rfl ?_); refine box_event ?hg (N := 1) ?hd (cs := #[.int .i64 a0_0, .int .i64 a0_1, .slice A0_2 l0_2.length c0_2]) (t := 79) ?hr ?_; (case hd => rfl); (case hg => rfl); (case hr => (go_simp; done)); intro gb225 hg w3 hbox hb; have n0_ := Aside0.mk (below_step HB.out hb); have n1_ := Aside0.mk (hbox); have n2_ := Aside0.mk ((by rw [hg]; exact (below_size HB.out) : w.heap.size ≤ gb225)); have n3_ := Aside0.mk ((by rw [hg]; exact (below_size HB.out) : w.heap.size ≤ gb225)); clear HB; have HB := n0_; have BK225 := n1_; have GW225 := n2_; have GE225 := n3_; clear n0_ n1_ n2_ n3_; clear hb hbox hg))
  go_cut [22] (fun v22 wc => ∃ (kq : Nat) (x22_1 : Bool), v22 = .bool x22_1 ∧ Aside0 (matrix_Check.j0 kq x22_1 a0_0 a0_1 l0_2 = some r) ∧ Aside0 (kq ≤ k) ∧ Aside0 (wc.heap[gb225]? = some (.cells #[.int .i64 a0_0, .int .i64 a0_1, (.slice A0_2 l0_2.length c0_2)] 79 (0, 0))) ∧ Aside0 (Below w.heap.size w wc))
  case first =>
    have H := HC2.out
    clear HC2
    by_cases c4 : a0_0 < 1
    · rw [if_pos c4] at H
      have c4b0 : decide (a0_0 < 1) = true := decide_eq_true c4
      clear c4
      ((skip))
      have H' := Aside0.mk H
      clear H
      have hcz5_0 : w3.cell? ⟨gb225, 0, none⟩ = some (.int .i64 a0_0) := (blk_cell BK225.out 0).trans rfl
      have hcz5_1 : w3.cell? ⟨gb225, 1, none⟩ = some (.int .i64 a0_1) := (blk_cell BK225.out 1).trans rfl
      have hcz5_2 : w3.cell? ⟨gb225, 2, none⟩ = some (.slice A0_2 l0_2.length c0_2) := (blk_cell BK225.out 2).trans rfl
      have hfz5_0 := blk_frozen BK225.out 0
      have hfz5_1 := blk_frozen BK225.out 1
      have hfz5_2 := blk_frozen BK225.out 2
      go_wp2
      go_meet
      case rel => exact ⟨_, (true), (by (rfl)), H', ⟨by (omega)⟩, ⟨by exact BK225.out⟩, ⟨HB.out⟩⟩
    · rw [if_neg c4] at H
      have c4b0 : decide (a0_0 < 1) = false := decide_eq_false c4
      clear c4
      ((skip))
      by_cases c6 : a0_0 > 16
      · rw [if_pos c6] at H
        have c6b0 : decide (16 < a0_0) = true := decide_eq_true c6
        clear c6
        have H' := Aside0.mk H
        clear H
        have hcz7_0 : w3.cell? ⟨gb225, 0, none⟩ = some (.int .i64 a0_0) := (blk_cell BK225.out 0).trans rfl
        have hcz7_1 : w3.cell? ⟨gb225, 1, none⟩ = some (.int .i64 a0_1) := (blk_cell BK225.out 1).trans rfl
        have hcz7_2 : w3.cell? ⟨gb225, 2, none⟩ = some (.slice A0_2 l0_2.length c0_2) := (blk_cell BK225.out 2).trans rfl
        have hfz7_0 := blk_frozen BK225.out 0
        have hfz7_1 := blk_frozen BK225.out 1
        have hfz7_2 := blk_frozen BK225.out 2
        go_wp2
        go_meet
        case rel => exact ⟨_, (true), (by (rfl)), H', ⟨by (omega)⟩, ⟨by exact BK225.out⟩, ⟨HB.out⟩⟩
      · rw [if_neg c6] at H
        have c6b0 : decide (16 < a0_0) = false := decide_eq_false c6
        clear c6
        by_cases c8 : a0_1 < 1
        · rw [if_pos c8] at H
          have c8b0 : decide (a0_1 < 1) = true := decide_eq_true c8
          clear c8
          have H' := Aside0.mk H
          clear H
          have hcz9_0 : w3.cell? ⟨gb225, 0, none⟩ = some (.int .i64 a0_0) := (blk_cell BK225.out 0).trans rfl
          have hcz9_1 : w3.cell? ⟨gb225, 1, none⟩ = some (.int .i64 a0_1) := (blk_cell BK225.out 1).trans rfl
          have hcz9_2 : w3.cell? ⟨gb225, 2, none⟩ = some (.slice A0_2 l0_2.length c0_2) := (blk_cell BK225.out 2).trans rfl
          have hfz9_0 := blk_frozen BK225.out 0
          have hfz9_1 := blk_frozen BK225.out 1
          have hfz9_2 := blk_frozen BK225.out 2
          go_wp2
          go_meet
          case rel => exact ⟨_, (true), (by (rfl)), H', ⟨by (omega)⟩, ⟨by exact BK225.out⟩, ⟨HB.out⟩⟩
        · rw [if_neg c8] at H
          have c8b0 : decide (a0_1 < 1) = false := decide_eq_false c8
          clear c8
          have H' := Aside0.mk H
          clear H
          have hcz10_0 : w3.cell? ⟨gb225, 0, none⟩ = some (.int .i64 a0_0) := (blk_cell BK225.out 0).trans rfl
          have hcz10_1 : w3.cell? ⟨gb225, 1, none⟩ = some (.int .i64 a0_1) := (blk_cell BK225.out 1).trans rfl
          have hcz10_2 : w3.cell? ⟨gb225, 2, none⟩ = some (.slice A0_2 l0_2.length c0_2) := (blk_cell BK225.out 2).trans rfl
          have hfz10_0 := blk_frozen BK225.out 0
          have hfz10_1 := blk_frozen BK225.out 1
          have hfz10_2 := blk_frozen BK225.out 2
          go_wp2
          go_meet
          case rel => exact ⟨_, (decide (a0_1 > 16)), (by (rfl)), H', ⟨by (omega)⟩, ⟨by exact BK225.out⟩, ⟨HB.out⟩⟩
  case rest =>
    clear HC2
    obtain ⟨kq, x22_1, rfl, HA, HJ1, BK225, HB⟩ := hcut
    cases kq with
    | zero => exact absurd HA.out (by simp [matrix_Check.j0])
    | succ kj1 =>
      have H := HA.out
      clear HA
      simp only [matrix_Check.j0] at H
      by_cases c11 : x22_1 = true
      · subst c11
        have H1 : (some 1) = some r := by rw [if_pos rfl] at H; exact H
        clear H
        have H := H1
        clear H1
        obtain rfl := Option.some.inj H
        go_wp2
        go_ret
        exact ⟨by (rfl), HB.out⟩
      · replace c11 := Bool.eq_false_iff.mpr c11
        subst c11
        have H1 : (if (l0_2.length : Int) = (wrap64 (a0_0 * a0_1)) then (matrix_Check.l0 kj1 l0_2 (l0_2.length : Int) 0) else (some 2)) = some r := by rw [if_neg (show ¬ (false = true) by decide)] at H; exact H
        clear H
        have H := H1
        clear H1
        by_cases c12 : (l0_2.length : Int) = (wrap64 (a0_0 * a0_1))
        · rw [if_pos c12] at H
          have c12b0 : ((l0_2.length : Int) == (wrap64 (a0_0 * a0_1))) = true := beq_iff_eq.mpr c12
          have c12b1 : ((l0_2.length : Int) != (wrap64 (a0_0 * a0_1))) = false := bne_eq_false_iff_eq.mpr c12
          clear c12
          have H' := Aside0.mk H
          clear H
          have hcz13_0 : wc.cell? ⟨gb225, 0, none⟩ = some (.int .i64 a0_0) := (blk_cell BK225.out 0).trans rfl
          have hcz13_1 : wc.cell? ⟨gb225, 1, none⟩ = some (.int .i64 a0_1) := (blk_cell BK225.out 1).trans rfl
          have hcz13_2 : wc.cell? ⟨gb225, 2, none⟩ = some (.slice A0_2 l0_2.length c0_2) := (blk_cell BK225.out 2).trans rfl
          have hfz13_0 := blk_frozen BK225.out 0
          have hfz13_1 := blk_frozen BK225.out 1
          have hfz13_2 := blk_frozen BK225.out 2
          go_wp2
          go_loopg [35] kj1 (fun kq v35 w' => ∃ (x35_2 : Int), v35 = .int .i64 x35_2 ∧ Aside0 (matrix_Check.l0 kq l0_2 (l0_2.length : Int) x35_2 = some r) ∧ Aside0 (kq ≤ kj1) ∧ Aside0 (w'.heap[gb225]? = some (.cells #[.int .i64 a0_0, .int .i64 a0_1, (.slice A0_2 l0_2.length c0_2)] 79 (0, 0))) ∧ Aside0 (Below w.heap.size w w'))
          case atStart => exact ⟨(0), (by (rfl)), H', ⟨Nat.le_refl _⟩, ⟨by exact BK225.out⟩, ⟨HB.out⟩⟩
          case round =>
            clear H'
            clear c12b0 c12b1 hcz13_0 hcz13_1 hcz13_2 hfz13_0 hfz13_1 hfz13_2
            obtain ⟨x35_2, rfl, HA, HK2, BK225, HB⟩ := hrel
            cases gk with
            | zero => exact absurd HA.out (by simp [matrix_Check.l0])
            | succ k2 =>
              have H := HA.out
              clear HA
              simp only [matrix_Check.l0] at H
              by_cases c14 : x35_2 < (l0_2.length : Int)
              · rw [if_pos c14] at H
                have c14b0 : decide (x35_2 < (l0_2.length : Int)) = true := decide_eq_true c14
                clear c14
                by_cases c15 : 0 ≤ x35_2
                · rw [if_pos c15] at H
                  have c15b0 : decide (0 ≤ x35_2) = true := decide_eq_true c15
                  clear c15
                  by_cases c16 : x35_2 < (l0_2.length : Int)
                  · rw [if_pos c16] at H
                    have c16b0 : decide (x35_2 < (l0_2.length : Int)) = true := decide_eq_true c16
                    clear c16
                    by_cases c17 : (rd l0_2 x35_2) < 0
                    · rw [if_pos c17] at H
                      have c17b0 : decide ((rd l0_2 x35_2) < 0) = true := decide_eq_true c17
                      clear c17
                      obtain rfl := Option.some.inj H
                      have p226 : 0 ≤ (x35_2 : Int) := of_decide_eq_true (by (with_reducible assumption))
                      have q226 : x35_2 < (l0_2.length : Int) := of_decide_eq_true (by (with_reducible assumption))
                      obtain ⟨ad226, e226, hx226_0⟩ := Kd.at_int HR0_2.out x35_2 p226 q226
                      cases e226
                      replace hx226_0 := (HB.out.cell (World.block_lt_of_cell? w _ hx226_0)).trans hx226_0
                      replace p226 := eq_true p226
                      replace q226 := eq_true q226
                      go_wp2
                      go_ret
                      exact ⟨by (rfl), HB.out⟩
                    · rw [if_neg c17] at H
                      have c17b0 : decide ((rd l0_2 x35_2) < 0) = false := decide_eq_false c17
                      clear c17
                      by_cases c18 : (rd l0_2 x35_2) > 15
                      · rw [if_pos c18] at H
                        have c18b0 : decide (15 < (rd l0_2 x35_2)) = true := decide_eq_true c18
                        clear c18
                        obtain rfl := Option.some.inj H
                        have p226 : 0 ≤ (x35_2 : Int) := of_decide_eq_true (by (with_reducible assumption))
                        have q226 : x35_2 < (l0_2.length : Int) := of_decide_eq_true (by (with_reducible assumption))
                        obtain ⟨ad226, e226, hx226_0⟩ := Kd.at_int HR0_2.out x35_2 p226 q226
                        cases e226
                        replace hx226_0 := (HB.out.cell (World.block_lt_of_cell? w _ hx226_0)).trans hx226_0
                        replace p226 := eq_true p226
                        replace q226 := eq_true q226
                        go_wp2
                        go_ret
                        exact ⟨by (rfl), HB.out⟩
                      · rw [if_neg c18] at H
                        have c18b0 : decide (15 < (rd l0_2 x35_2)) = false := decide_eq_false c18
                        clear c18
                        have H' := Aside0.mk H
                        clear H
                        have p226 : 0 ≤ (x35_2 : Int) := of_decide_eq_true (by (with_reducible assumption))
                        have q226 : x35_2 < (l0_2.length : Int) := of_decide_eq_true (by (with_reducible assumption))
                        obtain ⟨ad226, e226, hx226_0⟩ := Kd.at_int HR0_2.out x35_2 p226 q226
                        cases e226
                        replace hx226_0 := (HB.out.cell (World.block_lt_of_cell? w _ hx226_0)).trans hx226_0
                        replace p226 := eq_true p226
                        replace q226 := eq_true q226
                        go_wp2
                        go_roundg k2
                        case measure => have := HJ1.out; have := HK2.out; omega
                        case rel => exact ⟨(wrap64 (x35_2 + 1)), (by (rfl)), H', ⟨by have := HJ1.out; have := HK2.out; omega⟩, ⟨by exact BK225.out⟩, ⟨HB.out⟩⟩
                  · rw [if_neg c16] at H
                    exact absurd H (by simp)
                · rw [if_neg c15] at H
                  exact absurd H (by simp)
              · rw [if_neg c14] at H
                have c14b0 : decide (x35_2 < (l0_2.length : Int)) = false := decide_eq_false c14
                clear c14
                obtain rfl := Option.some.inj H
                go_wp2
                go_ret
                exact ⟨by (rfl), HB.out⟩
        · rw [if_neg c12] at H
          have c12b0 : ((l0_2.length : Int) == (wrap64 (a0_0 * a0_1))) = false := beq_eq_false_iff_ne.mpr c12
          have c12b1 : ((l0_2.length : Int) != (wrap64 (a0_0 * a0_1))) = true := bne_iff_ne.mpr c12
          obtain rfl := Option.some.inj H
          have hcz19_0 : wc.cell? ⟨gb225, 0, none⟩ = some (.int .i64 a0_0) := (blk_cell BK225.out 0).trans rfl
          have hcz19_1 : wc.cell? ⟨gb225, 1, none⟩ = some (.int .i64 a0_1) := (blk_cell BK225.out 1).trans rfl
          have hcz19_2 : wc.cell? ⟨gb225, 2, none⟩ = some (.slice A0_2 l0_2.length c0_2) := (blk_cell BK225.out 2).trans rfl
          have hfz19_0 := blk_frozen BK225.out 0
          have hfz19_1 := blk_frozen BK225.out 1
          have hfz19_2 := blk_frozen BK225.out 2
          go_wp2
          go_ret
          exact ⟨by (rfl), HB.out⟩

end Go.Proofs.Ythfddndmhjkeiaa.L
end
section
/- slices.Clone at numbers: a new row of the same numbers. -/
namespace Go.Proofs.Ythfddndmhjkeiaa.L
open Go.RowKit Go.Proofs.YthfddndmhjkeiaaW.PrintWords Go.Proofs.YthfddndmhjkeiaaW.PrintLast Go.Proofs.YthfddndmhjkeiaaW.PrintMore
set_option linter.unusedVariables false
set_option linter.unusedSimpArgs false

def slices_Clone_int_int.f (l0 : List Int) : Option (List Int) := if l0.length ≤ 17592186044415 then some l0 else none
theorem Kd_int_KM {w W : World} {base : Nat} {ok : Nat → Prop} {x : Int} {cs : List Value} (h : (Kd.int .i64).K w x cs) : (Kd.int .i64).M W base ok x cs := h
set_option maxHeartbeats 1000000 in
set_option maxRecDepth 100000 in
theorem slices_Clone_int_int.calls (A0 : Option Addr) (c0 : Nat) (l0 : List Int) (r : List Int) (w : World) (hr0 : Kd.C (Kd.int .i64) w A0 l0.length l0) (hc0 : l0.length ≤ c0) (h : slices_Clone_int_int.f l0 = some r) :
    Calls Try.prog 86 #[.slice A0 l0.length c0] w fun e w' => ∃ v0_ : Value, e = .returned (v0_) ∧ Kd.R (Kd.int .i64) 3 w' w.heap.size (fun _ => True) v0_ r ∧ Below w.heap.size w w' := by
  have hl : l0.length ≤ 17592186044415 := by
    unfold slices_Clone_int_int.f at h
    split at h
    · assumption
    · cases h
  have hr : l0 = r := by
    unfold slices_Clone_int_int.f at h
    rw [if_pos hl] at h
    exact Option.some.inj h
  subst hr
  clear h
  have q22 : ∀ (w : World) (a : Option Addr) (n c n' c' : Nat), (binOp .eql 22 (.slice a n c) (.slice none n' c')).run Try.prog w = .ok (.bool a.isNone) w := fun w a n c n' c' => Lib.run_eql_slice_nil w _ _ a n c n' c' Try.underlying22
  have HR0 := Aside0.mk hr0
  have HB := Aside0.mk (Below.refl w.heap.size w)
  clear hr0
  cases A0 with
  | none =>
    have h0 : l0.length = 0 := by
      rcases Nat.eq_zero_or_pos l0.length with h0 | h0
      · exact h0
      · obtain ⟨ad, h, _⟩ := HR0.out.2.2 h0
        cases h
    obtain rfl : l0 = [] := List.eq_nil_of_length_eq_zero h0
    clear h0
    go_enter Try.func86, Try.ntmps86
    go_wp2
    go_ret
    exact ⟨_, rfl, Kd.R_nil _ _ _ _ _, HB.out⟩
  | some ad =>
    go_enter Try.func86, Try.ntmps86
    go_wp2_with (at_builtin; refine Kd.R_append_rows (Kd.int .i64) (Rr := (Kd.int .i64).K w) (w0 := w) w.heap.size (by rfl) (.tmp 5) (.tmp 6) 22 3 (.int .i64 0) 8 rfl Try.underlying22 info3 rfl (by decide) (by omega) _ [] l0 (some ad) l0.length c0 (fun _ => True) (fun _ => False) rfl rfl ?aO ?aR (fun _ _ h => (Kd_int_KM h)) (fun _ h => h.elim) (fun _ _ => trivial) ?aB ?aS ?aL ?_)
    case aO => exact ⟨fun _ _ => trivial, [], World.ownsRow_made w #[] 0 (Nat.le_refl _) (Nat.zero_le _) (by simp), Reps.none _ _⟩
    case aR => exact Kd.C_below HR0.out (below_alloc (Below.refl _ _) _)
    case aB => exact below_alloc (Below.refl _ _) _
    case aS => simp
    case aL => simp only [List.length_nil]; omega
    intro v1 w1 ho hb hg hat
    go_wp2
    go_ret
    exact ⟨_, rfl, ho, hb⟩
end Go.Proofs.Ythfddndmhjkeiaa.L
end
section
-- Printed for this claim by a small program of the session's own, drv.py, round the kit's print.py. Lean checks it.
namespace Go.Proofs.Ythfddndmhjkeiaa.L
open Go.RowKit Go.Proofs.YthfddndmhjkeiaaW.PrintWords Go.Proofs.YthfddndmhjkeiaaW.PrintLast Go.Proofs.YthfddndmhjkeiaaW.PrintMore
attribute [local go_sem] max2_int min2_int max_two min_two max_three min_three max_four min_four   -- for this text's walks alone
set_option linter.unusedVariables false
set_option linter.unusedSimpArgs false

/-! ### matrix_rows: function 64 -/
def matrix_rows.l0 : Nat → List (List Int) → Int → Int → Int → Int → List Int → Option ((List (List Int)))
  | 0, _, _, _, _, _, _ => none
  | k + 1, x3, x6, x7, x237000, x237001, x237002 => if x7 < x6 then (if 0 ≤ (wrap64 (x7 * x237001)) then (if (wrap64 (x7 * x237001)) ≤ (wrap64 ((wrap64 (x7 + 1)) * x237001)) then (if (wrap64 ((wrap64 (x7 + 1)) * x237001)) ≤ (x237002.length : Int) then ((slices_Clone_int_int.f ((x237002.take ((wrap64 ((wrap64 (x7 + 1)) * x237001)) : Int).toNat).drop ((wrap64 (x7 * x237001)) : Int).toNat)).bind fun t238 => (if x3.length < 5864062014805 then (matrix_rows.l0 k (x3 ++ [t238]) x6 (wrap64 (x7 + 1)) x237000 x237001 x237002) else (none))) else (none)) else (none)) else (none)) else (some x3)
def matrix_rows.f (k : Nat) (a0_0 : Int) (a0_1 : Int) (l0_2 : List Int) : Option ((List (List Int))) := matrix_rows.l0 k ([] : List (List Int)) a0_0 0 a0_0 a0_1 l0_2
theorem matrix_rows.mono_l : ∀ k, (∀ y0 y1 y2 y3 y4 y5, LeO (matrix_rows.l0 k y0 y1 y2 y3 y4 y5) (matrix_rows.l0 (k + 1) y0 y1 y2 y3 y4 y5))
  | 0 => fun _ _ _ _ _ _ r h => by simp [matrix_rows.l0] at h
  | k + 1 => by
    have ih0 := matrix_rows.mono_l k
    · intro y0 y1 y2 y3 y4 y5
      unfold matrix_rows.l0
      repeat' first | (with_reducible exact ih0 _ _ _ _ _ _) | (with_reducible exact LeO.refl _) | (with_reducible refine LeO.ite ?_ ?_) | (with_reducible refine LeO.bind ?_ (fun _ => ?_))
theorem matrix_rows.mono : ∀ a0 a1 a2 k, LeO (matrix_rows.f k a0 a1 a2) (matrix_rows.f (k + 1) a0 a1 a2) := by
  intro a0 a1 a2 k
  have ih0 := matrix_rows.mono_l k
  unfold matrix_rows.f
  repeat' (with_reducible exact ih0 _ _ _ _ _ _)
set_option maxHeartbeats 8000000 in
set_option maxRecDepth 100000 in
theorem matrix_rows.calls (k : Nat) (a0_0 : Int) (a0_1 : Int) (A0_2 : Option Addr) (c0_2 : Nat) (l0_2 : List Int) (r : List (List Int)) (w : World) (hr0_2 : Kd.C (Kd.int .i64) w A0_2 l0_2.length l0_2) (hc0_2 : l0_2.length ≤ c0_2) (h : matrix_rows.f k a0_0 a0_1 l0_2 = some r) :
    Calls Try.prog 64 #[.agg #[.int .i64 a0_0, .int .i64 a0_1, .slice A0_2 l0_2.length c0_2]] w fun e w' => ∃ v0_ : Value, e = .returned (v0_) ∧ Kd.S (Kd.slice 3 (Kd.int .i64)) 22 w' w.heap.size (fun _ => True) v0_ r ∧ Below w.heap.size w w' := by
  have hu79 := Try.underlying79
  have HR0_2 := Aside0.mk hr0_2
  have HC0_2 := Aside0.mk hc0_2
  clear hr0_2 hc0_2
  have HB := Aside0.mk (Below.refl w.heap.size w)
  have H : (matrix_rows.l0 k ([] : List (List Int)) a0_0 0 a0_0 a0_1 l0_2) = some r := h
  clear h
  have H' := Aside0.mk H
  clear H
  go_enter Try.func64, Try.ntmps64
  go_wp2_with (((with_reducible refine gate_dst (N := 1) rfl ?_); refine box_event ?hg (N := 1) ?hd (cs := #[.int .i64 a0_0, .int .i64 a0_1, .slice A0_2 l0_2.length c0_2]) (t := 79) ?hr ?_; (case hd => rfl); (case hg => rfl); (case hr => (go_simp; done)); intro gb236 hg w2 hbox hb; have n0_ := Aside0.mk (below_step HB.out hb); have n1_ := Aside0.mk (hbox); have n2_ := Aside0.mk ((by rw [hg]; exact (below_size HB.out) : w.heap.size ≤ gb236)); have n3_ := Aside0.mk ((by rw [hg]; exact (below_size HB.out) : w.heap.size ≤ gb236)); clear HB; have HB := n0_; have BK236 := n1_; have GW236 := n2_; have GE236 := n3_; clear n0_ n1_ n2_ n3_; clear hb hbox hg; have hcz3_0 : w2.cell? ⟨gb236, 0, none⟩ = some (.int .i64 a0_0) := (blk_cell BK236.out 0).trans rfl; have hcz3_1 : w2.cell? ⟨gb236, 1, none⟩ = some (.int .i64 a0_1) := (blk_cell BK236.out 1).trans rfl; have hcz3_2 : w2.cell? ⟨gb236, 2, none⟩ = some (.slice A0_2 l0_2.length c0_2) := (blk_cell BK236.out 2).trans rfl; have hfz3_0 := blk_frozen BK236.out 0; have hfz3_1 := blk_frozen BK236.out 1; have hfz3_2 := blk_frozen BK236.out 2))
  go_loopg [3, 7] k (fun kq v3 v7 w' => ∃ (x3_1 : List (List Int)) (x7_1 : Int), v7 = .int .i64 x7_1 ∧ Aside0 (matrix_rows.l0 kq x3_1 a0_0 x7_1 a0_0 a0_1 l0_2 = some r) ∧ Aside0 (kq ≤ k) ∧ Aside0 (Kd.S (Kd.slice 3 (Kd.int .i64)) 22 w' w.heap.size (fun _ => True) v3 x3_1) ∧ Aside0 (w'.heap[gb236]? = some (.cells #[.int .i64 a0_0, .int .i64 a0_1, (.slice A0_2 l0_2.length c0_2)] 79 (0, 0))) ∧ Aside0 (Below w.heap.size w w'))
  case atStart => exact ⟨(([] : List (List Int))), (0), (by (rfl)), H', ⟨Nat.le_refl _⟩, ⟨by (exact Kd.S_nil _ _ _ _ _)⟩, ⟨by exact BK236.out⟩, ⟨HB.out⟩⟩
  case round =>
    clear H'
    clear hcz3_0 hcz3_1 hcz3_2 hfz3_0 hfz3_1 hfz3_2
    obtain ⟨x3_1, x7_1, rfl, HA, HK1, HO_3, BK236, HB⟩ := hrel
    cases gk with
    | zero => exact absurd HA.out (by simp [matrix_rows.l0])
    | succ k1 =>
      have H := HA.out
      clear HA
      simp only [matrix_rows.l0] at H
      by_cases c4 : x7_1 < a0_0
      · rw [if_pos c4] at H
        have c4b0 : decide (x7_1 < a0_0) = true := decide_eq_true c4
        clear c4
        obtain ⟨ji5, hji5⟩ : ∃ j_ : Int, (wrap64 (x7_1 * a0_1)) = j_ := ⟨_, rfl⟩
        replace H : (if 0 ≤ (ji5) then (if (ji5) ≤ (wrap64 ((wrap64 (x7_1 + 1)) * a0_1)) then (if (wrap64 ((wrap64 (x7_1 + 1)) * a0_1)) ≤ (l0_2.length : Int) then ((slices_Clone_int_int.f ((l0_2.take ((wrap64 ((wrap64 (x7_1 + 1)) * a0_1)) : Int).toNat).drop ((ji5) : Int).toNat)).bind fun t238 => (if x3_1.length < 5864062014805 then (matrix_rows.l0 k1 (x3_1 ++ [t238]) a0_0 (wrap64 (x7_1 + 1)) a0_0 a0_1 l0_2) else (none))) else (none)) else (none)) else (none)) = some r := by (rw [hji5] at H; exact H)
        have hji5w : (IntKind.i64.wrap (x7_1 * a0_1)) = ji5 := (i64_w _).trans hji5
        by_cases c6 : 0 ≤ (ji5)
        · rw [if_pos c6] at H
          have c6b0 := eq_true c6
          have c6b1 : decide (0 ≤ (ji5)) = true := decide_eq_true c6
          clear c6
          by_cases c7 : (ji5) ≤ (wrap64 ((wrap64 (x7_1 + 1)) * a0_1))
          · rw [if_pos c7] at H
            have c7b0 := eq_true c7
            have c7b1 : decide ((ji5) ≤ (wrap64 ((wrap64 (x7_1 + 1)) * a0_1))) = true := decide_eq_true c7
            by_cases c8 : (wrap64 ((wrap64 (x7_1 + 1)) * a0_1)) ≤ (l0_2.length : Int)
            · rw [if_pos c8] at H
              have c8b0 := eq_true c8
              have c8b1 : decide ((wrap64 ((wrap64 (x7_1 + 1)) * a0_1)) ≤ (l0_2.length : Int)) = true := decide_eq_true c8
              replace H := Option.bind_eq_some_iff.mp H
              obtain ⟨t238, A90, H⟩ := H
              replace H : (if x3_1.length < 5864062014805 then (matrix_rows.l0 k1 (x3_1 ++ [t238]) a0_0 (wrap64 (x7_1 + 1)) a0_0 a0_1 l0_2) else (none)) = some r := H
              have A9 := Aside0.mk A90
              clear A90
              by_cases c10 : x3_1.length < 5864062014805
              · rw [if_pos c10] at H
                have LMc10 := Aside0.mk c10
                clear c10
                obtain ⟨y241, hy241⟩ : ∃ y_ : List (List Int), y_ = (x3_1 ++ [t238]) := ⟨_, rfl⟩
                replace H : (matrix_rows.l0 k1 y241 a0_0 (wrap64 (x7_1 + 1)) a0_0 a0_1 l0_2) = some r := by (rw [hy241]; with_reducible exact H)
                have Ny241 := Aside0.mk hy241
                clear hy241
                have H' := Aside0.mk H
                clear H
                have hcz11_0 : wr.cell? ⟨gb236, 0, none⟩ = some (.int .i64 a0_0) := (blk_cell BK236.out 0).trans rfl
                have hcz11_1 : wr.cell? ⟨gb236, 1, none⟩ = some (.int .i64 a0_1) := (blk_cell BK236.out 1).trans rfl
                have hcz11_2 : wr.cell? ⟨gb236, 2, none⟩ = some (.slice A0_2 l0_2.length c0_2) := (blk_cell BK236.out 2).trans rfl
                have hfz11_0 := blk_frozen BK236.out 0
                have hfz11_1 := blk_frozen BK236.out 1
                have hfz11_2 := blk_frozen BK236.out 2
                obtain ⟨i012, hi012, _, hsz12, _⟩ := info_parts info3
                obtain ⟨A12, hcut12, hA12, hC12⟩ := print_mid_of (P := Try.prog) (Value.int .i64) 0 22 3 .i64 .i64 Try.underlying22 hi012 hsz12 A0_2 c0_2 l0_2 (ji5) (wrap64 ((wrap64 (x7_1 + 1)) * a0_1)) (of_decide_eq_true (by (with_reducible assumption))) (by (omega)) (of_decide_eq_true (by (with_reducible assumption))) HC0_2.out
                have HR237 := Aside0.mk (Kd.C_of_reads (h1 := fun _ => rfl) (hA12 _ (Kd.reads_of_C HR0_2.out)))
                have HC237 := Aside0.mk hC12
                clear hA12 hC12 hi012 hsz12
                go_wp2_with (first | ((with_reducible refine gate_callee (f := 86) rfl ?_); refine goesL_ (some 23) rfl rfl Try.func86 (by kernel_rfl) rfl #[.slice A12 ((l0_2.take ((wrap64 ((wrap64 (x7_1 + 1)) * a0_1)) : Int).toNat).drop ((ji5) : Int).toNat).length (c0_2 - (ji5).toNat)] rfl (by ((simp only [List.map_toArray, List.map_cons, List.map_nil])); (rw [show ((l0_2.take ((wrap64 ((wrap64 (x7_1 + 1)) * a0_1)) : Int).toNat).drop ((ji5) : Int).toNat).length = ((wrap64 ((wrap64 (x7_1 + 1)) * a0_1)).toNat - (ji5).toNat) from (by rw [List.length_drop, List.length_take]; have h_ : ((wrap64 ((wrap64 (x7_1 + 1)) * a0_1)) : Int) ≤ (l0_2.length : Int) := of_decide_eq_true (by (with_reducible assumption)); omega)] <;> rfl)) ?_; (with_reducible refine (slices_Clone_int_int.calls _ _ ((l0_2.take ((wrap64 ((wrap64 (x7_1 + 1)) * a0_1)) : Int).toNat).drop ((ji5) : Int).toNat) t238 _ ?side1 ?side2 A9.out).mono ?_); (case side1 => repeat ((exact (Kd.C_below HR237.out HB.out)))); (case side2 => exact HC237.out); rintro e w13 ⟨v239, rfl, ho0, hb⟩; refine ⟨_, rfl, ?_⟩; have n0_ := Aside0.mk (Kd.S_elder' (by exact HO_3.out) (Kd.R_base ho0) hb); have n1_ := Aside0.mk (Kd.R_lower ho0 (below_size HB.out)); have n2_ := Aside0.mk (blk_below (g := gb236) (o := .cells #[.int .i64 a0_0, .int .i64 a0_1, .slice A0_2 l0_2.length c0_2] 79 (0, 0)) (by exact BK236.out) hb); have n3_ := Aside0.mk (below_step HB.out hb); clear HO_3 BK236 HB; have HO_3 := n0_; have HO240 := n1_; have BK236 := n2_; have HB := n3_; clear n0_ n1_ n2_ n3_; clear hb; clear ho0; obtain ⟨Ao15, co15, eo15⟩ := Kd.R_slice HO240.out; subst eo15) | ((with_reducible refine gate_builtin (b := .append) (xs := #[.tmp 10, .tmp 24]) rfl ?_); at_builtin; refine Kd.S_append (Kd.slice 3 (Kd.int .i64)) (w0 := w) w.heap.size rfl (.tmp 10) (.tmp 24) 120 22 (.slice none 0 0) 24 rfl Try.underlying120 info22 rfl (by decide) (by omega) u3 x3_1 t238 [.slice Ao15 t238.length co15] (fun _ => True) (fun k_ => some k_ = (.slice Ao15 t238.length co15 : Value).ownBlock) rfl rfl ?aP (fun k_ hk_ => ((Kd.R_mono (ok' := fun k_ => ((fun _ => True)) k_ ∧ some k_ ≠ (u3 : Value).ownBlock) (Kd.R_apart' (HO240.out) (Kd.S_typed HO_3.out) (by decide)) (fun k_ hk => ⟨trivial, hk.2⟩))).1 k_ hk_.symm) ?aF ?aO ?aB ?aS ?aL ?_; (case aP => exact Kd.M_row (Kd.R_mono (Kd.R_tight rfl (Kd.R_mono (ok' := fun k_ => ((fun _ => True)) k_ ∧ some k_ ≠ (u3 : Value).ownBlock) (Kd.R_apart' (HO240.out) (Kd.S_typed HO_3.out) (by decide)) (fun k_ hk => ⟨trivial, hk.2⟩))) (fun _ h_ => h_))); (case aB => exact HB.out); (case aF => exact (fun _ _ => trivial)); (case aO => exact (by exact Kd.S_mono HO_3.out (fun k_ hk => ⟨trivial, fun e_ => hk.2 e_⟩))); (case aS => exact (below_size HB.out)); (case aL => have := LMc10.out; omega); intro v242 w14 ho hb hg hat; rw [← Ny241.out] at ho; have n0_ := Aside0.mk (blk_grown (g := gb236) (o := .cells #[.int .i64 a0_0, .int .i64 a0_1, .slice A0_2 l0_2.length c0_2] 79 (0, 0)) (by exact BK236.out) hg (Kd.S_ne HO_3.out BK236.out (by decide))); have n1_ := Aside0.mk (hb); have n2_ := Aside0.mk (ho); clear BK236 HB HO_3 HO240; have BK236 := n0_; have HB := n1_; have HO243 := n2_; clear n0_ n1_ n2_; clear ho hb hg hat))
                go_roundg k1
                case measure => have := HK1.out; omega
                case rel => exact ⟨(y241), (wrap64 (x7_1 + 1)), (by (rfl)), H', ⟨by have := HK1.out; omega⟩, ⟨by exact HO243.out⟩, ⟨by exact BK236.out⟩, ⟨HB.out⟩⟩
              · rw [if_neg c10] at H
                exact absurd H (by simp)
            · rw [if_neg c8] at H
              exact absurd H (by simp)
          · rw [if_neg c7] at H
            exact absurd H (by simp)
        · rw [if_neg c6] at H
          exact absurd H (by simp)
      · rw [if_neg c4] at H
        have c4b0 : decide (x7_1 < a0_0) = false := decide_eq_false c4
        clear c4
        obtain rfl := Option.some.inj H
        go_wp2
        go_ret
        exact ⟨_, by (rfl), by exact HO_3.out, HB.out⟩

end Go.Proofs.Ythfddndmhjkeiaa.L
end
section
/- matrix.Inverse: the plain part, and how rows lie in memory. -/
namespace Go.Proofs.Ythfddndmhjkeiaa.L
open Go.RowKit Go.Proofs.YthfddndmhjkeiaaW.PrintWords Go.Proofs.YthfddndmhjkeiaaW.PrintLast Go.Proofs.YthfddndmhjkeiaaW.PrintMore
set_option linter.unusedVariables false
set_option linter.unusedSimpArgs false

theorem w64 {x : Int} (h0 : -9223372036854775808 ≤ x) (h1 : x ≤ 9223372036854775807) : wrap64 x = x := IntWalk.wrap64_in _ ⟨h0, h1⟩
def ElL (l : List Int) : Prop := ∀ x, x ∈ l → El x
instance (a : Int) : Decidable (El a) := by unfold El; exact inferInstance
instance (l : List Int) : Decidable (ElL l) := by unfold ElL; exact inferInstance
theorem ElL.at_ {l : List Int} (h : ElL l) {i : Int} (h0 : 0 ≤ i) (h1 : i < l.length) : El (rd l i) := by
  unfold rd
  rw [List.getD_eq_getElem?_getD, List.getElem?_eq_getElem (show i.toNat < l.length by omega)]
  exact h _ (List.getElem_mem _)
theorem check_loop {l : List Int} (h : ElL l) (hl : l.length ≤ 1000) (d : Nat) : ∀ (k : Nat) (x : Int), 0 ≤ x → x + d = l.length → d < k → matrix_Check.l0 k l (l.length : Int) x = some 0 := by
  induction d with
  | zero =>
    intro k x h0 h1 hk
    obtain ⟨k, rfl⟩ : ∃ m, k = m + 1 := ⟨k - 1, by omega⟩
    simp only [matrix_Check.l0]
    rw [if_neg (by omega)]
  | succ d ih =>
    intro k x h0 h1 hk
    obtain ⟨k, rfl⟩ : ∃ m, k = m + 1 := ⟨k - 1, by omega⟩
    have hlt : x < (l.length : Int) := by omega
    have he := h.at_ h0 hlt
    unfold El at he
    simp only [matrix_Check.l0]
    rw [if_pos hlt, if_pos h0, if_pos hlt, if_neg (by omega), if_neg (by omega), w64 (by omega) (by omega)]
    exact ih k (x + 1) (by omega) (by omega) (by omega)
theorem sq_le {n : Int} (h1 : 1 ≤ n) (h2 : n ≤ 16) {m : Nat} (h : (m : Int) = n * n) : m ≤ 256 := by
  have h3 : n * n ≤ 16 * 16 := Int.mul_le_mul h2 h2 (by omega) (by omega)
  omega
theorem check_ok {n : Int} {l : List Int} (h1 : 1 ≤ n) (h2 : n ≤ 16) (hl : (l.length : Int) = n * n) (h : ElL l) : matrix_Check.f 300 n n l = some 0 := by
  have hb := sq_le h1 h2 hl
  unfold matrix_Check.f
  rw [if_neg (by omega), if_neg (by omega), if_neg (by omega)]
  have e : decide (n > 16) = false := decide_eq_false (by omega)
  rw [e]
  show matrix_Check.j0 (299 + 1) _ _ _ _ = _
  simp only [matrix_Check.j0]
  rw [if_neg (by decide), w64 (by omega) (by omega), if_pos hl]
  exact check_loop h (by omega) l.length 299 0 (by omega) (by omega) (by omega)
/-- The i-th row of a square matrix. -/
def cut (l : List Int) (n i : Nat) : List Int := (l.take ((i + 1) * n)).drop (i * n)
theorem cut_length {l : List Int} {n i : Nat} (hl : l.length = n * n) (hi : i < n) : (cut l n i).length = n := by
  unfold cut
  have h1 : (i + 1) * n ≤ n * n := Nat.mul_le_mul_right _ hi
  rw [List.length_drop, List.length_take, hl, Nat.min_eq_left h1, Nat.succ_mul]
  omega
theorem rows_loop {l : List Int} {n : Nat} (hn : n ≤ 16) (hn1 : 1 ≤ n) (hl : l.length = n * n) (d : Nat) : ∀ (k i : Nat), i + d = n → d < k →
    matrix_rows.l0 k ((List.range i).map (cut l n)) (n : Int) (i : Int) (n : Int) (n : Int) l = some ((List.range n).map (cut l n)) := by
  have hb : n * n ≤ 16 * 16 := Nat.mul_le_mul hn hn
  induction d with
  | zero =>
    intro k i h1 hk
    obtain ⟨k, rfl⟩ : ∃ m, k = m + 1 := ⟨k - 1, by omega⟩
    obtain rfl : i = n := by omega
    simp only [matrix_rows.l0]
    rw [if_neg (by omega)]
  | succ d ih =>
    intro k i h1 hk
    obtain ⟨k, rfl⟩ : ∃ m, k = m + 1 := ⟨k - 1, by omega⟩
    have hi : i < n := by omega
    have e1 : (i : Int) * (n : Int) = ((i * n : Nat) : Int) := by rw [Int.natCast_mul]
    have e2 : ((i : Int) + 1) * (n : Int) = (((i + 1) * n : Nat) : Int) := by rw [Int.natCast_mul]; rfl
    have h2 : (i + 1) * n ≤ n * n := Nat.mul_le_mul_right _ hi
    have h3 : (i + 1) * n = i * n + n := Nat.succ_mul _ _
    simp only [matrix_rows.l0]
    rw [w64 (x := (i : Int) + 1) (by omega) (by omega), e1, e2, w64 (x := ((i * n : Nat) : Int)) (by omega) (by omega), w64 (x := (((i + 1) * n : Nat) : Int)) (by omega) (by omega)]
    rw [if_pos (by omega), if_pos (by omega), if_pos (by omega), if_pos (by omega)]
    have hc : (l.take ((((i + 1) * n : Nat) : Int)).toNat).drop (((i * n : Nat) : Int)).toNat = cut l n i := rfl
    rw [hc]
    unfold slices_Clone_int_int.f
    rw [if_pos (by rw [cut_length hl hi]; omega), Option.bind_some, if_pos (by simp; omega)]
    have e3 : (List.range i).map (cut l n) ++ [cut l n i] = (List.range (i + 1)).map (cut l n) := by rw [List.range_succ, List.map_append]; rfl
    rw [e3]
    exact ih k (i + 1) (by omega) (by omega)
theorem rows_ok {n : Nat} {l : List Int} (h1 : 1 ≤ n) (h2 : n ≤ 16) (hl : l.length = n * n) : matrix_rows.f 20 n n l = some ((List.range n).map (cut l n)) :=
  rows_loop h2 h1 hl n 20 0 (by omega) (by omega)
theorem row_map (f : Nat → List Int) (n i : Nat) (h : i < n) : row ((List.range n).map f) i = f i := by
  unfold row
  rw [List.getD_eq_getElem?_getD, List.getElem?_map, List.getElem?_range h]
  rfl

/-! ### rows that were made, as a matrix in memory -/
theorem S_mat {w : World} {base : Nat} {v : Value} {xs : List (List Int)} (h : Kd.S (Kd.slice 3 (Kd.int .i64)) 22 w base (fun _ => True) v xs) (hne : 0 < xs.length) (hr : ∀ i, i < xs.length → 0 < (row xs i).length) :
    ∃ L cap hs, v = .slice (some ⟨L, 0, none⟩) xs.length cap ∧ xs.length ≤ cap ∧ Mat w L hs xs ∧ base ≤ L ∧ ∀ i, i < xs.length → base ≤ bk hs i := by
  obtain ⟨f, h0, inner, ho, hrep⟩ := h
  rw [List.length_zipIdx] at ho
  obtain ⟨hlen, ho⟩ := ho
  rcases ho with ⟨rfl, hz⟩ | ⟨L, cap, cur, rfl, hL, hheap, hc, hmax, hsz, htake⟩
  · omega
  · have one : ∀ i, i < xs.length → ∃ g c R, inner[i]? = some (.slice (some ⟨g, 0, none⟩) (row xs i).length c) ∧ ((row xs i).length ≤ c ∧ c ≤ maxLen) ∧ base ≤ g ∧ f g = i ∧ w.heap[g]? = some (.cells R 3 (0, 0)) ∧ R.size = c ∧ ∀ j, j < (row xs i).length → R[j]? = some (.int .i64 ((row xs i).getD j 0)) := by
      intro i hi
      have hx : xs[i]? = some (row xs i) := by unfold row; rw [List.getD_eq_getElem?_getD, List.getElem?_eq_getElem hi]; rfl
      obtain ⟨vi, hci, hRi⟩ := hrep.2 i (row xs i, i) (Kd.zip_at hx)
      obtain ⟨hok, inn, hoi, hri⟩ := hRi
      have hi2 : inner[i]? = some vi := by
        have h1 : ((inner.drop (i * 1)).take 1)[0]? = some vi := by
          have : (inner.drop (i * 1)).take 1 = [vi] := hci
          rw [this]
          rfl
        rw [Nat.mul_one, List.getElem?_take_of_lt (by omega), List.getElem?_drop, Nat.add_zero] at h1
        exact h1
      obtain ⟨hl2, hoi⟩ := hoi
      have hpos := hr i hi
      rcases hoi with ⟨rfl, hz⟩ | ⟨g, c, R, rfl, hg, hheap2, hc2, hmax2, hsz2, htake2⟩
      · have hz2 : (row xs i).length = 0 := hz
        omega
      · refine ⟨g, c, R, hi2, ⟨hc2, hmax2⟩, hg, (hok g rfl).2, hheap2, by rw [hsz2]; exact Nat.mul_one _, fun j hj => ?_⟩
        have h2 := hri.2 j ((row xs i).getD j 0) (by rw [List.getD_eq_getElem?_getD, List.getElem?_eq_getElem hj]; rfl)
        have h3 : (inn.drop (j * 1)).take 1 = [.int .i64 ((row xs i).getD j 0)] := h2
        have h4 : ((inn.drop (j * 1)).take 1)[0]? = some (.int .i64 ((row xs i).getD j 0)) := by rw [h3]; rfl
        rw [Nat.mul_one, List.getElem?_take_of_lt (by omega), List.getElem?_drop, Nat.add_zero, ← htake2] at h4
        rw [List.getElem?_take] at h4
        split at h4
        · rw [← Array.getElem?_toList]; exact h4
        · cases h4
    have hcell : ∀ (i : Nat), cur.toList.take (xs.length * 1) = inner → ∀ (u : Value), inner[i]? = some u → cur[i]? = some u := by
      intro i e u hu
      rw [← e, List.getElem?_take] at hu
      split at hu
      · rw [← Array.getElem?_toList]; exact hu
      · cases hu
    let pick : Nat → Nat × Nat := fun i => if hi : i < xs.length then (Classical.choose (one i hi), Classical.choose (Classical.choose_spec (one i hi))) else (0, 0)
    let hs : List (Nat × Nat) := (List.range xs.length).map pick
    have hget : ∀ i, i < xs.length → hs.getD i (0, 0) = pick i := by
      intro i hi
      show ((List.range xs.length).map pick).getD i (0, 0) = pick i
      rw [List.getD_eq_getElem?_getD, List.getElem?_map, List.getElem?_range hi]
      rfl
    have all : ∀ i, i < xs.length → ∃ R, inner[i]? = some (.slice (some ⟨bk hs i, 0, none⟩) (row xs i).length (cp hs i)) ∧ ((row xs i).length ≤ cp hs i ∧ cp hs i ≤ maxLen) ∧ base ≤ bk hs i ∧ f (bk hs i) = i ∧ w.heap[bk hs i]? = some (.cells R 3 (0, 0)) ∧ R.size = cp hs i ∧ ∀ j, j < (row xs i).length → R[j]? = some (.int .i64 ((row xs i).getD j 0)) := by
      intro i hi
      have e1 : bk hs i = Classical.choose (one i hi) := by unfold bk; rw [hget i hi]; show (if hi : i < xs.length then _ else _ : Nat × Nat).1 = _; rw [dif_pos hi]
      have e2 : cp hs i = Classical.choose (Classical.choose_spec (one i hi)) := by unfold cp; rw [hget i hi]; show (if hi : i < xs.length then _ else _ : Nat × Nat).2 = _; rw [dif_pos hi]
      rw [e1, e2]
      exact Classical.choose_spec (Classical.choose_spec (one i hi))
    refine ⟨L, cap, hs, rfl, hc, ⟨⟨cur, hheap, fun i hi => ?_⟩, fun i hi => ?_, fun i hi => ?_, fun i j hi hj e => ?_, by show ((List.range xs.length).map pick).length = _; simp⟩, hL, fun i hi => ?_⟩
    · obtain ⟨R, a1, _⟩ := all i hi
      exact hcell i htake _ a1
    · obtain ⟨R, _, _, _, _, a2, a3, a4⟩ := all i hi
      exact ⟨R, a2, a3, a4⟩
    · obtain ⟨R, _, a2, _⟩ := all i hi
      exact a2
    · obtain ⟨R, _, _, _, a2, _⟩ := all i hi
      obtain ⟨R', _, _, _, a2', _⟩ := all j hj
      rw [← a2, ← a2', e]
    · obtain ⟨R, _, _, a2, _⟩ := all i hi
      exact a2
end Go.Proofs.Ythfddndmhjkeiaa.L
end
section
/- matrix.Inverse at a square matrix of elements: its rows with the unit beside them, reduced. -/
namespace Go.Proofs.Ythfddndmhjkeiaa.L
open Go.RowKit Go.Proofs.YthfddndmhjkeiaaW.PrintWords Go.Proofs.YthfddndmhjkeiaaW.PrintLast Go.Proofs.YthfddndmhjkeiaaW.PrintMore
set_option linter.unusedVariables false
set_option linter.unusedSimpArgs false

/-- The rows 0 to n - 1 of a matrix, those below j with a unit row beside them. -/
def unitRow (n i : Nat) : List Int := (List.replicate n 0).set i 1
def augTo (l : List Int) (n j : Nat) : List (List Int) := (List.range n).map fun i => if i < j then cut l n i ++ unitRow n i else cut l n i
def invRows (l : List Int) (n : Nat) : List (List Int) × Nat := reduceTo (augTo l n n) n
def tails (rows : List (List Int)) (n j : Nat) : List Int := (rows.take j).flatMap fun r => r.drop n
def matrix_Inverse.f (a0_0 a0_1 : Int) (l0_2 : List Int) : Option (Int × Int × List Int × Int) :=
  if 1 ≤ a0_0 ∧ a0_0 ≤ 16 ∧ a0_1 = a0_0 ∧ (l0_2.length : Int) = a0_0 * a0_0 ∧ ElL l0_2 then
    (if (invRows l0_2 a0_0.toNat).2 < a0_0.toNat then some (0, 0, [], 14) else some (a0_0, a0_0, tails (invRows l0_2 a0_0.toNat).1 a0_0.toNat a0_0.toNat, 0))
  else none
theorem augTo_length (l : List Int) (n j : Nat) : (augTo l n j).length = n := by simp [augTo]
theorem augTo_row (l : List Int) (n j i : Nat) (h : i < n) : row (augTo l n j) i = if i < j then cut l n i ++ unitRow n i else cut l n i := row_map _ n i h
theorem augTo_set (l : List Int) (n j : Nat) (h : j < n) : (augTo l n j).set j (cut l n j ++ unitRow n j) = augTo l n (j + 1) := by
  apply list_ext_row
  · rw [List.length_set, augTo_length, augTo_length]
  · intro i hi
    rw [List.length_set, augTo_length] at hi
    rw [row_set _ _ _ _ (by rw [augTo_length]; exact h), augTo_row _ _ _ _ hi, augTo_row _ _ _ _ hi]
    by_cases e : j = i
    · subst e
      rw [if_pos rfl, if_pos (by omega)]
    · rw [if_neg e]
      by_cases h1 : i < j
      · rw [if_pos h1, if_pos (by omega)]
      · rw [if_neg h1, if_neg (by omega)]
theorem augTo_zero (l : List Int) (n : Nat) : augTo l n 0 = (List.range n).map (cut l n) := by
  unfold augTo
  simp only [Nat.not_lt_zero, if_false]
theorem unitRow_length (n i : Nat) : (unitRow n i).length = n := by simp [unitRow]
theorem unitRow_getD (n i j : Nat) (h : j < n) : (unitRow n i).getD j 0 = if i = j then 1 else 0 := by
  unfold unitRow
  rw [List.getD_eq_getElem?_getD, List.getElem?_set, List.length_replicate]
  by_cases e : i = j
  · subst e
    simp [h]
  · rw [if_neg e, if_neg e, List.getElem?_replicate, if_pos h]
    rfl
theorem cut_getD {l : List Int} {n i j : Nat} (hi : i < n) (hj : j < n) : (cut l n i).getD j 0 = l.getD (i * n + j) 0 := by
  unfold cut
  have h3 : (i + 1) * n = i * n + n := Nat.succ_mul _ _
  rw [List.getD_eq_getElem?_getD, List.getElem?_drop, List.getElem?_take, if_pos (by omega), ← List.getD_eq_getElem?_getD]
theorem aug_good {l : List Int} {n : Nat} (hl : l.length = n * n) (he : ElL l) : Good (2 * n) (augTo l n n) := by
  intro i hi
  rw [augTo_length] at hi
  rw [augTo_row _ _ _ _ hi, if_pos hi]
  refine ⟨by rw [List.length_append, cut_length hl hi, unitRow_length]; omega, fun j hj => ?_⟩
  have hc := cut_length hl hi
  by_cases h1 : j < n
  · rw [List.getD_eq_getElem?_getD, List.getElem?_append_left (by omega), ← List.getD_eq_getElem?_getD, cut_getD hi h1]
    have hb : i * n + j < l.length := by
      have : (i + 1) * n ≤ n * n := Nat.mul_le_mul_right _ hi
      rw [Nat.succ_mul] at this
      omega
    rw [List.getD_eq_getElem?_getD, List.getElem?_eq_getElem hb]
    exact he _ (List.getElem_mem _)
  · rw [List.getD_eq_getElem?_getD, List.getElem?_append_right (by omega), ← List.getD_eq_getElem?_getD, hc, unitRow_getD _ _ _ (by omega)]
    split <;> (unfold El; omega)

theorem tails_succ (rows : List (List Int)) (n j : Nat) (h : j < rows.length) : tails rows n (j + 1) = tails rows n j ++ (row rows j).drop n := by
  unfold tails
  rw [List.take_succ_eq_append_getElem h, List.flatMap_append]
  have e : row rows j = rows[j] := by unfold row; rw [List.getD_eq_getElem?_getD, List.getElem?_eq_getElem h]; rfl
  rw [e]
  simp
theorem tails_length {rows : List (List Int)} {n : Nat} (hG : Good (2 * n) rows) (j : Nat) (h : j ≤ rows.length) : (tails rows n j).length = j * n := by
  induction j with
  | zero => simp [tails]
  | succ j ih =>
    have h1 := (hG j h).1
    have h2 := ih (by omega)
    have h3 : (j + 1) * n = j * n + n := Nat.succ_mul _ _
    rw [tails_succ _ _ _ h, List.length_append, List.length_drop]
    omega
theorem tails_le {rows : List (List Int)} {n j : Nat} (hG : Good (2 * n) rows) (hl : rows.length = n) (hn : n ≤ 16) (hj : j < n) : ((tails rows n j).length + (2 * n - n)) * 8 ≤ 140737488355328 := by
  rw [tails_length hG j (by omega)]
  have : j * n ≤ 16 * 16 := Nat.mul_le_mul (by omega) hn
  omega
set_option maxHeartbeats 2000000 in
set_option maxRecDepth 100000 in
theorem matrix_Inverse.calls (a0_0 a0_1 : Int) (A0_2 : Option Addr) (c0_2 : Nat) (l0_2 : List Int) (r1 r2 : Int) (r3 : List Int) (r4 : Int) (w : World) (hr0_2 : Kd.C (Kd.int .i64) w A0_2 l0_2.length l0_2) (hc0_2 : l0_2.length ≤ c0_2) (h : matrix_Inverse.f a0_0 a0_1 l0_2 = some (r1, r2, r3, r4)) :
    Calls Try.prog 46 #[.agg #[.int .i64 a0_0, .int .i64 a0_1, .slice A0_2 l0_2.length c0_2]] w fun e w' => ∃ v2_ : Value, e = .returned (.tuple #[.agg #[.int .i64 r1, .int .i64 r2, v2_], .int .i64 r4]) ∧ Kd.R (Kd.int .i64) 3 w' w.heap.size (fun _ => True) v2_ r3 ∧ Below w.heap.size w w' := by
  unfold matrix_Inverse.f at h
  split at h
  case isFalse => cases h
  rename_i hc
  obtain ⟨g1, g2, rfl, g4, g5⟩ := hc
  obtain ⟨n, rfl⟩ : ∃ n : Nat, a0_1 = (n : Int) := ⟨a0_1.toNat, by omega⟩
  rw [Int.toNat_natCast] at h
  have hn1 : 1 ≤ n := by omega
  have hn2 : n ≤ 16 := by omega
  have hln : l0_2.length = n * n := by
    have : ((l0_2.length : Int)) = ((n * n : Nat) : Int) := by rw [g4, Int.natCast_mul]
    omega
  have H := Aside0.mk h
  have HCK := Aside0.mk (check_ok g1 g2 g4 g5)
  have HRW := Aside0.mk (rows_ok hn1 hn2 hln)
  have HLN := Aside0.mk hln
  have HEL := Aside0.mk g5
  have HR := Aside0.mk hr0_2
  have HC := Aside0.mk hc0_2
  clear h g1 g2 g4 g5 hln hr0_2 hc0_2
  have hu79 := Try.underlying79
  go_enter Try.func46, Try.ntmps46
  go_wp2_with fail
  refine (matrix_Check.calls 300 _ _ _ _ _ _ _ (Kd.C_below HR.out (below_alloc (below_alloc (Below.refl _ _) _) _)) HC.out HCK.out).mono ?_
  rintro e w1 ⟨rfl, hb1⟩
  obtain ⟨k1, k2, HB1⟩ : Aside0 (w1.heap[w.heap.size]? = some (.cells #[.int .i64 n, .int .i64 n, .slice A0_2 l0_2.length c0_2] 79 (0, 0))) ∧ Aside0 (w1.heap[w.heap.size + 1]? = some (.cells #[.int .i64 0, .int .i64 0, .slice none 0 0] 79 (0, 0))) ∧ Aside0 (Below w.heap.size w w1) := by
    have e1 := blk_new w (.cells #[.int .i64 n, .int .i64 n, .slice A0_2 l0_2.length c0_2] 79)
    have e2 := blk_new (w.alloc (.cells #[.int .i64 n, .int .i64 n, .slice A0_2 l0_2.length c0_2] 79)) (.cells #[.int .i64 0, .int .i64 0, .slice none 0 0] 79)
    rw [show (w.alloc (.cells #[.int .i64 n, .int .i64 n, .slice A0_2 l0_2.length c0_2] 79)).heap.size = w.heap.size + 1 by simp] at e2
    have e3 := blk_alloc e1 (.cells #[.int .i64 0, .int .i64 0, .slice none 0 0] 79)
    refine ⟨⟨blk_below e3 (hb1.mono ?_)⟩, ⟨blk_below e2 (hb1.mono ?_)⟩, ⟨(below_alloc (below_alloc (Below.refl _ _) _) _).trans (hb1.mono ?_)⟩⟩ <;> simp
    omega
  clear hb1
  have hn3 : ((n : Int) != (n : Int)) = false := by simp
  have c10 : w1.cell? ⟨w.heap.size, 0, none⟩ = some (.int .i64 n) := (blk_cell k1.out 0).trans rfl
  have c11 : w1.cell? ⟨w.heap.size, 1, none⟩ = some (.int .i64 n) := (blk_cell k1.out 1).trans rfl
  have c12 : w1.cell? ⟨w.heap.size, 2, none⟩ = some (.slice A0_2 l0_2.length c0_2) := (blk_cell k1.out 2).trans rfl
  go_wp2_with fail
  refine (matrix_rows.calls 20 _ _ _ _ _ _ _ (Kd.C_below HR.out (HB1.out)) HC.out HRW.out).mono ?_
  rintro e w2 ⟨v0, rfl, hS, hb2⟩
  obtain ⟨L, cap, hs, rfl, hcap, hM, hL0, hB0⟩ := S_mat hS (by simp; omega) (fun i hi => by
    rw [List.length_map, List.length_range] at hi
    rw [row_map _ _ _ hi, cut_length HLN.out hi]
    omega)
  rw [List.length_map, List.length_range] at hcap hB0 ⊢
  rw [← augTo_zero] at hM
  have K1 := Aside0.mk (blk_below k1.out hb2)
  have K2 := Aside0.mk (blk_below k2.out hb2)
  have hlt1 := blk_lt k2.out
  have HB2 := Aside0.mk (HB1.out.trans (hb2.mono HB1.out.size))
  clear hS hb2 k1 k2 c10 c11 c12 hn3 HB1
  have HM := Aside0.mk hM
  have HLB := Aside0.mk (show w.heap.size + 2 ≤ L ∧ ∀ i, i < n → w.heap.size + 2 ≤ bk hs i from ⟨by omega, fun i hi => by have := hB0 i hi; omega⟩)
  clear hM hL0 hB0 hlt1
  go_wp2_with fail
  clear HCK HRW HR HC
  go_loopw [30] (fun v wr => ∃ (j : Nat) (hs1 : List (Nat × Nat)), v = .int .i64 (j : Int) ∧ j ≤ n ∧ Aside0 (Mat wr L hs1 (augTo l0_2 n j)) ∧ Aside0 (∀ i, i < n → w.heap.size + 2 ≤ bk hs1 i) ∧ Aside0 (wr.heap[w.heap.size + 1]? = some (.cells #[.int .i64 0, .int .i64 0, .slice none 0 0] 79 (0, 0))) ∧ Aside0 (Below w.heap.size w wr)) (fun v _ => n - (intOf v).toNat)
  case atStart => exact ⟨0, hs, rfl, Nat.zero_le _, HM, ⟨HLB.out.2⟩, K2, HB2⟩
  case round =>
    clear HM K1 K2 HB2
    obtain ⟨j, hs1, rfl, hj, HM, HBJ, K2, HB2⟩ := hrel
    by_cases hjn : j < n
    · have hjb : decide ((j : Int) < (n : Int)) = true := decide_eq_true (by omega)
      have hjl : j < (augTo l0_2 n j).length := by rw [augTo_length]; exact hjn
      have hrj : row (augTo l0_2 n j) j = cut l0_2 n j := by rw [augTo_row _ _ _ _ hjn, if_neg (by omega)]
      have hcl : (cut l0_2 n j).length = n := cut_length HLN.out hjn
      have HRJ := Aside0.mk hrj
      have HCL := Aside0.mk hcl
      clear hrj hcl
      go_wp2_with (first
        | ((with_reducible refine gate_dst (N := 34) rfl ?_); refine Kd.R_make (Kd.int .i64) _ 3 rfl (N := 34) rfl 22 _ _ rfl (n : Int) rfl rfl Try.underlying22 (.int .i64 0) 8 info3 rfl (by decide) (by omega) 0 (ok := fun _ => True) (okp := fun _ => True) rfl (fun _ hk => hk) trivial (by omega) (by omega) (Below.refl _ _) (Nat.le_refl _) ?_; intro v1 w3 ho hb hg_ hnew_; obtain ⟨g, co, rfl, hgb, hgl, hgc⟩ := Kd.R_form ho (by simp; omega); clear hg_ hnew_ hgc; rw [show (List.replicate (n : Int).toNat (0 : Int)).length = n by simp] at ho ⊢; rw [show (n : Int).toNat = n by simp] at ho; obtain ⟨hx, hf⟩ := Kd.R_celln 0 ho (j : Int) (by omega) (by omega); have hset := Aside0.mk (Kd.R_putn ho (j : Int) 1); rw [show (j : Int).toNat = j by simp] at hx hf hset; have HM3 := Aside0.mk (HM.out.below hb); have K3 := Aside0.mk (blk_below K2.out hb); have HB3 := Aside0.mk (HB2.out.trans (hb.mono HB2.out.size)); have HM4 := Aside0.mk (HM3.out.far (p := ⟨g, j, none⟩) (by have := HM.out.ltL; show L ≠ g; omega) (fun i hi => by have := HM.out.ltI hi; show bk hs1 i ≠ g; omega) (.int .i64 1)); have hOj := HM4.out.cellO hjl; rw [HRJ.out, HCL.out] at hOj; have HGW := Aside0.mk (show w.heap.size + 2 ≤ g from by have := blk_lt K2.out; omega); have HG := Aside0.mk (show g ≠ L ∧ bk hs1 j ≠ g from ⟨by have := HM.out.ltL; omega, by have := HM.out.ltI hjl; omega⟩); clear ho hb hgl hgb HM K2 HB2)
        | (at_builtin; refine Kd.R_append_rows (Kd.int .i64) (Rr := (Kd.int .i64).K wr) (w0 := w) w.heap.size (by rfl) (.tmp 43) (.tmp 44) 22 3 (.int .i64 0) 8 rfl Try.underlying22 info3 rfl (by decide) (by omega) _ (cut l0_2 n j) (unitRow n j) (some ⟨g, 0, none⟩) n co (fun _ => True) (fun _ => False) rfl rfl ?aO ?aR (fun _ _ h => h) (fun _ h => h.elim) (fun _ _ => trivial) ?aB ?aS ?aL ?_))
      case aO =>
        have hR := HM4.out.rowR hjl (base := w.heap.size) (by have := HBJ.out j hjn; omega)
        rw [HRJ.out, HCL.out] at hR
        exact Kd.R_mono hR (fun _ _ => trivial)
      case aR =>
        have h9 := (Kd.R_reads' hset.out).2.2
        rw [show ((List.replicate n (0 : Int)).set j 1).length = n by simp] at h9
        exact h9
      case aB => exact HB3.out.setCell (by have := HGW.out; show w.heap.size ≤ g; omega) _
      case aS => exact (HB3.out.setCell (by have := HGW.out; show w.heap.size ≤ g; omega) _).size
      case aL => rw [HCL.out]; omega
      intro v2 w5 ho2 hb2 hg2 hat2
      obtain ⟨g2, c2, rfl, hg2a, hg2b, hM5⟩ := HM4.out.putBack hjl (by rw [List.length_append, HCL.out, unitRow_length]; omega) ho2 hg2 (hat2.imp (fun h => h) (fun ⟨b, h1, h2⟩ => ⟨b, h1, by simpa using h2⟩))
      rw [augTo_set _ _ _ hjn] at hM5
      have HM5 := Aside0.mk hM5
      have hblk := (hg2.block L HM4.out.ltL (by intro e; have e2 : L = bk hs1 j := by simpa [Value.ownBlock] using e
                                                exact HM4.out.ne hjl e2.symm))
      have hoc : ∃ C, w5.heap[L]? = some (.cells C 22 (0, 0)) ∧ j < C.size := by
        obtain ⟨C, hC, hcc⟩ := HM4.out.outer
        exact ⟨C, hblk.trans hC, (Array.getElem?_eq_some_iff.1 (hcc j hjl)).1⟩
      obtain ⟨C, hC, hCj⟩ := hoc
      obtain ⟨vo, hvo⟩ : ∃ vo, w5.cell? ⟨L, j, none⟩ = some vo := ⟨_, (blk_cell hC j).trans (Array.getElem?_eq_getElem hCj)⟩
      have hfo : w5.frozen? ⟨L, j, none⟩ = false := blk_frozen hC j
      have K5 : w5.heap[w.heap.size + 1]? = some (.cells #[.int .i64 0, .int .i64 0, .slice none 0 0] 79 (0, 0)) := by
        refine blk_grown (blk_far K3.out (p := ⟨g, j, none⟩) (by have := HGW.out; show w.heap.size + 1 ≠ g; omega) _) hg2 ?_
        intro e
        have e2 : w.heap.size + 1 = bk hs1 j := by simpa [Value.ownBlock] using e
        have := HBJ.out j hjn
        omega
      have K6 := Aside0.mk (blk_far K5 (p := ⟨L, j, none⟩) (by have := HLB.out.1; show w.heap.size + 1 ≠ L; omega) (.slice (some ⟨g2, 0, none⟩) (cut l0_2 n j ++ unitRow n j).length c2))
      have HB6 := Aside0.mk (hb2.setCell (p := ⟨L, j, none⟩) (by have := HLB.out.1; show w.heap.size ≤ L; omega) (.slice (some ⟨g2, 0, none⟩) (cut l0_2 n j ++ unitRow n j).length c2))
      have HBJ6 := Aside0.mk (show ∀ i, i < n → w.heap.size + 2 ≤ bk (hs1.set j (g2, c2)) i from fun i hi => by
        unfold bk
        rw [List.getD_eq_getElem?_getD, List.getElem?_set]
        by_cases e : j = i
        · rw [if_pos e, if_pos (by rw [HM4.out.len]; exact hjl)]
          show w.heap.size + 2 ≤ g2
          rcases hg2b with h1 | h1
          · have := HBJ.out j hjn; omega
          · have h2 := blk_lt (blk_far K3.out (p := ⟨g, j, none⟩) (by have := HGW.out; show w.heap.size + 1 ≠ g; omega) (.int .i64 1)); omega
        · rw [if_neg e, ← List.getD_eq_getElem?_getD]
          exact HBJ.out i hi)
      simp only [List.length_append] at HM5 K6 HB6
      clear ho2 hb2 hg2 hat2 hM5 hblk hC hCj K5 hx hf hset HM3 K3 HB3 HM4 hOj HGW HG hg2a hg2b HRJ HCL hjl
      go_wp2_with fail
      exact ⟨⟨j + 1, _, rfl, by omega, HM5, HBJ6, K6, HB6⟩, by simp [intOf]; omega⟩
    · have hjb : decide ((j : Int) < (n : Int)) = false := decide_eq_false (by omega)
      obtain rfl : n = j := by omega
      have HGD := Aside0.mk (aug_good HLN.out HEL.out)
      go_wp2_with fail
      have hcon := matrix_reduce.calls (fun k => k = L ∨ ∃ i, i < n ∧ k = bk hs1 i) w.heap.size L cap hs1 (augTo l0_2 n n) (2 * n) n w _ HM.out HGD.out (by omega) (by rw [augTo_length]; omega) (by rw [augTo_length]; exact hcap) (by omega) (fun i hi => .inr ⟨i, by rw [augTo_length] at hi; exact hi, rfl⟩) (.inl rfl) (fun k hk => by
        rcases hk with rfl | ⟨i, hi, rfl⟩
        · have := HLB.out.1; omega
        · have := HBJ.out i hi; omega) HB2.out
      rw [augTo_length] at hcon
      refine hcon.mono ?_
      clear hcon
      rintro e w3 ⟨rfl, hs2, hM2, hP2, hB2, hK2⟩
      have K3 := Aside0.mk ((hK2.2 (w.heap.size + 1) (blk_lt K2.out) (by
        rintro (e | ⟨i, hi, e⟩)
        · have := HLB.out.1; omega
        · have := HBJ.out i hi; omega)).trans K2.out)
      have HM2 := Aside0.mk hM2
      have HB3 := Aside0.mk hB2
      have HBL := Aside0.mk (show ∀ i, i < n → w.heap.size + 2 ≤ bk hs2 i from fun i hi => by
        rcases hP2 i hi with e | ⟨q, hq, e⟩
        · have := HLB.out.1; omega
        · have := HBJ.out q hq; omega)
      clear hM2 hB2 hK2 hP2 HM K2 HB2 HBJ
      have HINV := Aside0.mk (reduceTo_inv (n := n) (by omega) HGD.out)
      change Aside0 (Mat w3 L hs2 (invRows l0_2 n).1) at HM2
      have HLI := Aside0.mk (show (invRows l0_2 n).1.length = n by unfold invRows; rw [reduceTo_length, augTo_length])
      change Aside0 (Good (2 * n) (invRows l0_2 n).1 ∧ (invRows l0_2 n).2 ≤ (augTo l0_2 n n).length) at HINV
      obtain ⟨rk, hrk⟩ : ∃ rk, rk = (invRows l0_2 n).2 := ⟨_, rfl⟩
      obtain ⟨RR, hRR⟩ : ∃ RR, RR = (invRows l0_2 n).1 := ⟨_, rfl⟩
      rw [show (reduceTo (augTo l0_2 n n) n).2 = rk from hrk.symm]
      rw [← hrk, ← hRR] at H
      rw [← hRR] at HM2 HLI HINV
      clear hrk hRR
      by_cases hlt : rk < n
      · have h2 := H.out
        rw [if_pos hlt] at h2
        injection h2 with h2
        injection h2 with h21 h2
        injection h2 with h22 h2
        injection h2 with h23 h24
        subst h21 h22 h23 h24
        have hltb : decide ((rk : Int) < (n : Int)) = true := decide_eq_true (by omega)
        clear H
        have c20 : w3.cell? ⟨w.heap.size + 1, 0, none⟩ = some (.int .i64 0) := (blk_cell K3.out 0).trans rfl
        have c21 : w3.cell? ⟨w.heap.size + 1, 1, none⟩ = some (.int .i64 0) := (blk_cell K3.out 1).trans rfl
        have c22 : w3.cell? ⟨w.heap.size + 1, 2, none⟩ = some (.slice none 0 0) := (blk_cell K3.out 2).trans rfl
        have f20 := blk_frozen K3.out 0
        have f21 := blk_frozen K3.out 1
        have f22 := blk_frozen K3.out 2
        go_wp2_with fail
        refine bodyPost_ret (results_ct rfl _ _ (w.heap.size + 1) 79 #[.int .i64 0, .int .i64 0, .slice none 0 0] (0, 0) _ rfl (by refine blk_put (cs := #[.int .i64 0, .int .i64 0, .slice none 0 0]) ?_ 2 _ rfl; refine blk_put (cs := #[.int .i64 0, .int .i64 0, .slice none 0 0]) ?_ 1 _ rfl; refine blk_put (cs := #[.int .i64 0, .int .i64 0, .slice none 0 0]) ?_ 0 _ rfl; exact K3.out) Try.underlying79 rfl (by kernel_rfl)) rfl ?_
        exact ⟨_, rfl, Kd.R_nil _ _ _ _ _, by repeat (first | exact HB3.out | refine below_set ?_ (Nat.le_succ _))⟩
      · have h2 := H.out
        rw [if_neg hlt] at h2
        injection h2 with h2
        injection h2 with h21 h2
        injection h2 with h22 h2
        injection h2 with h23 h24
        subst h21 h22 h23 h24
        have hltb : decide ((rk : Int) < (n : Int)) = false := decide_eq_false (by omega)
        clear H
        go_wp2_with fail
        have hM4 := Aside0.mk (HM2.out.below (below_alloc (Below.refl _ _) (.cells #[.int .i64 n, .int .i64 n, .slice none 0 0] 79)))
        have hK4 := Aside0.mk (blk_alloc K3.out (.cells #[.int .i64 n, .int .i64 n, .slice none 0 0] 79))
        have HB30 := HB3
        have hB4 := Aside0.mk (below_alloc HB3.out (.cells #[.int .i64 n, .int .i64 n, .slice none 0 0] 79))
        have hlt3 := Aside0.mk (show w.heap.size + 2 ≤ w3.heap.size ∧ L < w3.heap.size ∧ ∀ i, i < n → bk hs2 i < w3.heap.size from ⟨by have := blk_lt K3.out; omega, HM2.out.ltL, fun i hi => HM2.out.ltI (by rw [HLI.out]; exact hi)⟩)
        clear hltb hlt
        go_loopw [59] (fun u wr => ∃ (j : Nat) (v : Value), u = .int .i64 (j : Int) ∧ j ≤ n ∧ Aside0 ((Kd.int .i64).R 3 wr w3.heap.size (fun _ => True) v (tails RR n j)) ∧ Aside0 (wr.heap[w3.heap.size]? = some (.cells #[.int .i64 n, .int .i64 n, v] 79 (0, 0))) ∧ Aside0 (wr.heap[w.heap.size + 1]? = some (.cells #[.int .i64 0, .int .i64 0, .slice none 0 0] 79 (0, 0))) ∧ Aside0 (Mat wr L hs2 RR) ∧ Aside0 (Below w.heap.size w wr) ∧ Aside0 (Below w3.heap.size w3 wr)) (fun u _ => n - (intOf u).toNat)
        case atStart => exact ⟨0, .slice none 0 0, rfl, Nat.zero_le _, ⟨Kd.R_nil _ _ _ _ _⟩, ⟨blk_new _ _⟩, hK4, hM4, hB4, ⟨below_alloc (Below.refl _ _) _⟩⟩
        case round =>
          clear HM2 K3 HB3 hM4 hK4 hB4
          obtain ⟨j, v, rfl, hj, HO, KB, K3, HM2, HB3, HBB⟩ := hrel
          by_cases hjn : j < n
          · have hjb : decide ((j : Int) < (n : Int)) = true := decide_eq_true (by omega)
            have hjl : j < RR.length := by rw [HLI.out]; exact hjn
            have hrl : (row RR j).length = 2 * n := (HINV.out.1 j hjl).1
            have hO := HM2.out.cellO hjl
            rw [hrl] at hO
            have hcp : n < cp hs2 j := by have := (HM2.out.caps j hjl).1; omega
            have hcc : wr.cell? ⟨w3.heap.size, 2, none⟩ = some v := (blk_cell KB.out 2).trans rfl
            obtain ⟨A4, c4, rfl⟩ := Kd.R_slice HO.out
            go_wp2_with fail
            have hRC := Kd.C_drop (Kd.R_reads' (HM2.out.rowR hjl (base := 0) (Nat.zero_le _))).2.2 (m := n) (c := cp hs2 j) (by rw [hrl]; omega) (HM2.out.caps j hjl).1
            rw [if_neg (by omega)] at hRC
            have hlen : ((row RR j).drop n).length = 2 * n - n := by rw [List.length_drop, hrl]
            have ha4 : (some (⟨bk hs2 j, 0, none⟩ : Addr)).map (fun x => x.add (n * (Kd.int .i64).sz)) = some ⟨bk hs2 j, n, none⟩ := by
              show some _ = _
              show some ((⟨bk hs2 j, 0, none⟩ : Addr).add (n * (Kd.int .i64).sz)) = _
              rw [show n * (Kd.int .i64).sz = n from Nat.mul_one n, add_plain]
            rw [hlen, ha4] at hRC
            clear hlen ha4
            have HTS := Aside0.mk (tails_succ RR n j hjl)
            obtain ⟨tl, htl⟩ : ∃ tl, tl = (row RR j).drop n := ⟨_, rfl⟩
            rw [← htl] at hRC HTS
            have HRC := Aside0.mk hRC
            clear hRC htl
            have hszz := HBB.out.size
            have hs1a : (n : Int) ≤ 2 * (n : Int) := by omega
            have hs2a : (2 * (n : Int)) ≤ (cp hs2 j : Int) := by have := (HM2.out.caps j hjl).1; omega
            have hs3a : ((cp hs2 j : Int) == (n : Int)) = false := beq_eq_false_iff_ne.mpr (by omega)
            have hs4a : ¬ (cp hs2 j = n) := by omega
            have HTL := Aside0.mk (tails_le HINV.out.1 HLI.out hn2 hjn)
            go_region_law (refine Kd.R_append_rows_step (Kd.int .i64) (Rr := (Kd.int .i64).K wr) (w0 := w3) w3.heap.size (by rfl) (.tmp 64) (.tmp 67) 22 3 (.int .i64 0) 8 rfl Try.underlying22 info3 rfl (by decide) (by omega) _ (tails RR n j) tl _ (2 * n - n) _ (fun _ => True) (fun _ => False) rfl rfl (Kd.R_drew HO.out) (Kd.C_drew HRC.out) (fun _ _ h => h) (fun _ h => h.elim) (fun _ _ => trivial) (below_drew HBB.out) hszz HTL.out ?_; intro v5 w5 ho5 hb5 hg5 hat5; have hk5 := blk_grown (blk_drew KB.out) hg5 (Kd.R_ne HO.out KB.out (by decide)); have hc5 : w5.cell? ⟨w3.heap.size, 2, none⟩ = some (.slice A4 (tails RR n j).length c4) := (blk_cell hk5 2).trans rfl; have hf5 := blk_frozen hk5 2; obtain ⟨A5, c5, rfl⟩ := Kd.R_slice ho5)
            rw [List.length_append, ← HTS.out] at ho5
            have hne1 := Kd.R_ne HO.out K3.out (by decide)
            have HO5 := Aside0.mk (Kd.R_set ho5 hk5 (t := 79) (by decide) 2 (.slice A5 ((tails RR n j).length + tl.length) c5))
            have KB5 := Aside0.mk (blk_put (cs' := #[.int .i64 n, .int .i64 n, .slice A5 ((tails RR n j).length + tl.length) c5]) hk5 2 (.slice A5 ((tails RR n j).length + tl.length) c5) rfl)
            have K5 := Aside0.mk (blk_far (blk_grown (blk_drew K3.out) hg5 hne1) (p := ⟨w3.heap.size, 2, none⟩) (by have := hlt3.out.1; show w.heap.size + 1 ≠ w3.heap.size; omega) (.slice A5 ((tails RR n j).length + tl.length) c5))
            have hrow : ∀ k, (Value.slice A4 (tails RR n j).length c4).ownBlock = some k → w3.heap.size ≤ k := fun k hk => by
              obtain ⟨inner, ho⟩ := Kd.R_own HO.out
              exact own_base ho k hk
            have HM5 := Aside0.mk ((HM2.out.move (w1 := w5) (hg5.block L HM2.out.ltL (fun e => by have := hrow L e.symm; have := hlt3.out.2.1; omega)) (fun i hi => hg5.block _ (HM2.out.ltI hi) (fun e => by have := hrow _ e.symm; have := hlt3.out.2.2 i (by rw [← HLI.out]; exact hi); omega))).far (p := ⟨w3.heap.size, 2, none⟩) (by have := hlt3.out.2.1; show L ≠ w3.heap.size; omega) (fun i hi => by have := hlt3.out.2.2 i (by rw [← HLI.out]; exact hi); show bk hs2 i ≠ w3.heap.size; omega) (.slice A5 ((tails RR n j).length + tl.length) c5))
            have HBa := Aside0.mk (hb5.setCell (p := ⟨w3.heap.size, 2, none⟩) (Nat.le_refl _) (.slice A5 ((tails RR n j).length + tl.length) c5))
            have HBb := Aside0.mk ((HB30.out.trans (hb5.mono HB30.out.size)).setCell (p := ⟨w3.heap.size, 2, none⟩) HB30.out.size (.slice A5 ((tails RR n j).length + tl.length) c5))
            clear ho5 hb5 hg5 hat5 hk5 hc5 hf5 hrow hne1 HTS HTL HRC hs1a hs2a hs3a hs4a hszz hcc hO
            go_wp2_with fail
            exact ⟨⟨j + 1, _, rfl, by omega, HO5, KB5, K5, HM5, HBb, HBa⟩, by simp [intOf]; omega⟩
          · have hjb : decide ((j : Int) < (n : Int)) = false := decide_eq_false (by omega)
            obtain rfl : n = j := by omega
            obtain ⟨A4, c4, rfl⟩ := Kd.R_slice HO.out
            have d0 : wr.cell? ⟨w3.heap.size, 0, none⟩ = some (.int .i64 n) := (blk_cell KB.out 0).trans rfl
            have d1 : wr.cell? ⟨w3.heap.size, 1, none⟩ = some (.int .i64 n) := (blk_cell KB.out 1).trans rfl
            have d2 : wr.cell? ⟨w3.heap.size, 2, none⟩ = some (.slice A4 (tails RR n n).length c4) := (blk_cell KB.out 2).trans rfl
            have c20 : wr.cell? ⟨w.heap.size + 1, 0, none⟩ = some (.int .i64 0) := (blk_cell K3.out 0).trans rfl
            have c21 : wr.cell? ⟨w.heap.size + 1, 1, none⟩ = some (.int .i64 0) := (blk_cell K3.out 1).trans rfl
            have c22 : wr.cell? ⟨w.heap.size + 1, 2, none⟩ = some (.slice none 0 0) := (blk_cell K3.out 2).trans rfl
            have f20 := blk_frozen K3.out 0
            have f21 := blk_frozen K3.out 1
            have f22 := blk_frozen K3.out 2
            go_wp2_with fail
            refine bodyPost_ret (results_ct rfl _ _ (w.heap.size + 1) 79 #[.int .i64 n, .int .i64 n, .slice A4 (tails RR n n).length c4] (0, 0) _ rfl (by refine blk_put (cs := #[.int .i64 n, .int .i64 n, .slice none 0 0]) ?_ 2 _ rfl; refine blk_put (cs := #[.int .i64 n, .int .i64 0, .slice none 0 0]) ?_ 1 _ rfl; refine blk_put (cs := #[.int .i64 0, .int .i64 0, .slice none 0 0]) ?_ 0 _ rfl; exact K3.out) Try.underlying79 rfl (by kernel_rfl)) rfl ?_
            refine ⟨_, rfl, ?_, by repeat (first | exact HB3.out | refine below_set ?_ (Nat.le_succ _))⟩
            have hR2 := Kd.R_lower HO.out HB30.out.size
            exact Kd.R_set (Kd.R_set (Kd.R_set hR2 K3.out (t := 79) (by decide) 0 _) (blk_put K3.out 0 _ rfl) (t := 79) (by decide) 1 _) (blk_put (blk_put K3.out 0 _ rfl) 1 _ rfl) (t := 79) (by decide) 2 _
end Go.Proofs.Ythfddndmhjkeiaa.L
end
section
/- slices.Clone at the shards: a new row of the same shards. -/
namespace Go.Proofs.Ythfddndmhjkeiaa.L
open Go.RowKit Go.Proofs.YthfddndmhjkeiaaW.PrintWords Go.Proofs.YthfddndmhjkeiaaW.PrintLast Go.Proofs.YthfddndmhjkeiaaW.PrintMore
set_option linter.unusedVariables false
set_option linter.unusedSimpArgs false

def api_Shard.f (l0 : List S41) : Option (List S41) := if l0.length ≤ 5864062014805 then some l0 else none
theorem k41_KM {w W : World} {base : Nat} {ok : Nat → Prop} {x : S41} {cs : List Value} (h : k41.K w x cs) : k41.M W base ok x cs := by
  obtain rfl := k41_open h
  exact k41_mkM _ _ _ x
set_option maxHeartbeats 1000000 in
set_option maxRecDepth 100000 in
theorem api_Shard.calls (A0 : Option Addr) (c0 : Nat) (l0 : List S41) (r : List S41) (w : World) (hr0 : Kd.C k41 w A0 l0.length l0) (hc0 : l0.length ≤ c0) (h : api_Shard.f l0 = some r) :
    Calls Try.prog 42 #[.slice A0 l0.length c0] w fun e w' => ∃ v0_ : Value, e = .returned (v0_) ∧ Kd.R k41 41 w' w.heap.size (fun _ => True) v0_ r ∧ Below w.heap.size w w' := by
  have hl : l0.length ≤ 5864062014805 := by
    unfold api_Shard.f at h
    split at h
    · assumption
    · cases h
  have hr : l0 = r := by
    unfold api_Shard.f at h
    rw [if_pos hl] at h
    exact Option.some.inj h
  subst hr
  clear h
  have q30 : ∀ (w : World) (a : Option Addr) (n c n' c' : Nat), (binOp .eql 23 (.slice a n c) (.slice none n' c')).run Try.prog w = .ok (.bool a.isNone) w := fun w a n c n' c' => Lib.run_eql_slice_nil w _ _ a n c n' c' Try.underlying23
  have HR0 := Aside0.mk hr0
  have HB := Aside0.mk (Below.refl w.heap.size w)
  clear hr0
  cases A0 with
  | none =>
    have h0 : l0.length = 0 := by
      rcases Nat.eq_zero_or_pos l0.length with h0 | h0
      · exact h0
      · obtain ⟨ad, h, _⟩ := HR0.out.2.2 h0
        cases h
    obtain rfl : l0 = [] := List.eq_nil_of_length_eq_zero h0
    clear h0
    go_enter Try.func42, Try.ntmps42
    go_wp2
    go_ret
    exact ⟨_, rfl, Kd.R_nil _ _ _ _ _, HB.out⟩
  | some ad =>
    go_enter Try.func42, Try.ntmps42
    go_wp2_with (at_builtin; refine Kd.R_append_rows k41 (Rr := k41.K w) (w0 := w) w.heap.size (by rfl) (.tmp 5) (.tmp 6) 23 41 (.agg #[.int .i64 0, .string ⟨#[]⟩]) 24 rfl Try.underlying23 info41 rfl (by decide) (by omega) _ [] l0 (some ad) l0.length c0 (fun _ => True) (fun _ => False) rfl rfl ?aO ?aR (fun _ _ h => k41_KM h) (fun _ h => h.elim) (fun _ _ => trivial) ?aB ?aS ?aL ?_)
    case aO => exact ⟨fun _ _ => trivial, [], World.ownsRow_made w #[] 0 (Nat.le_refl _) (Nat.zero_le _) (by simp), Reps.none _ _⟩
    case aR => exact Kd.C_below HR0.out (below_alloc (Below.refl _ _) _)
    case aB => exact below_alloc (Below.refl _ _) _
    case aS => simp
    case aL => simp only [List.length_nil]; omega
    intro v1 w1 ho hb hg hat
    go_wp2
    go_ret
    exact ⟨_, rfl, ho, hb⟩
end Go.Proofs.Ythfddndmhjkeiaa.L
end
