/- Texts of this claim, put together by a small program of the session's own: PI2, PI3, PB, PD, PE, PF, PG, PH, PS0, PT1, PT2, PT3, PT4. -/
import Derived.Test.YthfddndmhjkeiaaQ7
import Derived.Test.YthfddndmhjkeiaaQ4
import Derived.Test.YthfddndmhjkeiaaQ1
import Derived.Test.YthfddndmhjkeiaaQ5
import Derived.Test.YthfddndmhjkeiaaQ2
import Derived.Test.YthfddndmhjkeiaaQ0
import Derived.Test.YthfddndmhjkeiaaQ6
import Derived.Test.YthfddndmhjkeiaaQ3
section
/- The plain law of the erasure code, part I2: the reduced form of a square matrix without a kernel, the unit beside it: the inverse. -/
namespace Go.Proofs.Ythfddndmhjkeiaa.L
open Go.RowKit Go.Proofs.YthfddndmhjkeiaaW.PrintWords Go.Proofs.YthfddndmhjkeiaaW.PrintLast Go.Proofs.YthfddndmhjkeiaaW.PrintMore
set_option linter.unusedVariables false
set_option linter.unusedSimpArgs false

abbrev At (rows : List (List Int)) (i j : Nat) : Int := (row rows i).getD j 0
theorem at_swap {rows : List (List Int)} {a b : Nat} (ha : a < rows.length) (hb : b < rows.length) (i j : Nat) : At (swapR rows a b) i j = if b = i then At rows a j else if a = i then At rows b j else At rows i j := by
  unfold At
  rw [row_swap _ _ _ _ ha hb]
  split
  · rfl
  · split <;> rfl
theorem at_scale {rows : List (List Int)} {r k : Nat} (hr : r < rows.length) (i j : Nat) (hj : j < (row rows r).length) : At (scaleRow rows r k) i j = if r = i then gm (At rows r j) (ginv (At rows r k)) else At rows i j := by
  unfold At scaleRow
  rw [row_set _ _ _ _ hr]
  split
  · rw [mid_getD _ _ _ _ hj, if_pos hj]
  · rfl
theorem at_elim {rows : List (List Int)} {r k : Nat} {i : Nat} (hi : i < rows.length) (j : Nat) (hj : j < (row rows i).length) : At (elimTo rows r k rows.length) i j = if i ≠ r ∧ At rows i k ≠ 0 then gx (At rows i j) (gm (At rows r j) (At rows i k)) else At rows i j := by
  unfold At
  rw [elimTo_row _ _ _ _ _ hi, if_pos hi]
  unfold elimRow
  split
  · rw [mid_getD _ _ _ _ hj, if_pos hj]
  · rfl
/-- A row whose right half says how its left half comes out of P's rows. -/
def Lin (n : Nat) (P : Nat → Nat → Int) (f : Nat → Int) : Prop := ∀ j, j < n → gsum n (fun l => gm (f (n + l)) (P l j)) = f j
/-- A row that takes x to nought. -/
def Ker (n : Nat) (f x : Nat → Int) : Prop := gsum n (fun j => gm (f j) (x j)) = 0
section
variable {n : Nat} {P : Nat → Nat → Int} {f g h x : Nat → Int} {c : Int}
theorem Lin.scale (hP : ∀ i j, i < n → j < n → El (P i j)) (hf : ∀ j, j < 2 * n → El (f j)) (hc : El c) (L : Lin n P f) (e : ∀ j, j < 2 * n → h j = gm (f j) c) : Lin n P h := by
  intro j hj
  rw [e j (by omega), ← L j hj, gsum_mul' hc n fun l hl => gm_el (hf _ (by omega)) (hP l j hl hj)]
  refine gsum_congr n fun l hl => ?_
  rw [e _ (by omega), ← gm_gm (hf _ (by omega)) hc (hP l j hl hj), ← gm_gm (hf _ (by omega)) (hP l j hl hj) hc, gm_comm hc (hP l j hl hj)]
theorem Lin.add (hP : ∀ i j, i < n → j < n → El (P i j)) (hf : ∀ j, j < 2 * n → El (f j)) (hg : ∀ j, j < 2 * n → El (g j)) (hc : El c) (L : Lin n P f) (M : Lin n P g) (e : ∀ j, j < 2 * n → h j = gx (f j) (gm (g j) c)) : Lin n P h := by
  have M2 := M.scale hP hg hc (fun j _ => rfl)
  intro j hj
  have m2 : gsum n (fun l => gm (gm (g (n + l)) c) (P l j)) = gm (g j) c := M2 j hj
  rw [e j (by omega), ← L j hj, ← m2, ← gsum_add n (fun l hl => gm_el (hf _ (by omega)) (hP l j hl hj)) (fun l hl => gm_el (gm_el (hg _ (by omega)) hc) (hP l j hl hj))]
  refine gsum_congr n fun l hl => ?_
  rw [e _ (by omega), gx_gm (hP l j hl hj) (hf _ (by omega)) (gm_el (hg _ (by omega)) hc)]
theorem Ker.unscale (hf : ∀ j, j < n → El (f j)) (hx : ∀ j, j < n → El (x j)) (hc : El c) (h0 : c ≠ 0) (e : ∀ j, j < n → h j = gm (f j) c) (K : Ker n h x) : Ker n f x := by
  have e1 : gsum n (fun j => gm (h j) (x j)) = gm c (gsum n fun j => gm (f j) (x j)) := by
    rw [gsum_mul hc n fun j hj => gm_el (hf j hj) (hx j hj)]
    refine gsum_congr n fun j hj => ?_
    rw [e j hj, gm_comm (hf j hj) hc, gm_gm hc (hf j hj) (hx j hj)]
  unfold Ker at K ⊢
  rw [e1] at K
  rcases gm_zero hc (gsum_el n fun j hj => gm_el (hf j hj) (hx j hj)) K with h | h
  · exact absurd h h0
  · exact h
theorem Ker.sub (hf : ∀ j, j < n → El (f j)) (hg : ∀ j, j < n → El (g j)) (hx : ∀ j, j < n → El (x j)) (hc : El c) (e : ∀ j, j < n → h j = gx (f j) (gm (g j) c)) (K : Ker n h x) (G : Ker n g x) : Ker n f x := by
  have e1 : gsum n (fun j => gm (h j) (x j)) = gx (gsum n fun j => gm (f j) (x j)) (gm c (gsum n fun j => gm (g j) (x j))) := by
    rw [gsum_mul hc n fun j hj => gm_el (hg j hj) (hx j hj), ← gsum_add n (fun j hj => gm_el (hf j hj) (hx j hj)) (fun j hj => gm_el hc (gm_el (hg j hj) (hx j hj)))]
    refine gsum_congr n fun j hj => ?_
    rw [e j hj, gx_gm (hx j hj) (hf j hj) (gm_el (hg j hj) hc), gm_comm (hg j hj) hc, gm_gm hc (hg j hj) (hx j hj)]
  unfold Ker at K G ⊢
  rw [e1, G, (gx_0 hc).2.2.1, (gx_0 (gsum_el n fun j hj => gm_el (hf j hj) (hx j hj))).1] at K
  exact K
end
/-- What holds when the first k columns are done. -/
structure Red (n : Nat) (P : Nat → Nat → Int) (rows : List (List Int)) (k : Nat) : Prop where
  len : rows.length = n
  good : Good (2 * n) rows
  lin : ∀ i, i < n → Lin n P (At rows i)
  ker : ∀ x : Nat → Int, (∀ j, j < n → El (x j)) → (∀ i, i < n → Ker n (At rows i) x) → ∀ i, i < n → Ker n (P i) x
  unit : ∀ i j, i < n → j < k → At rows i j = if i = j then 1 else 0
section
variable {n k : Nat} {P : Nat → Nat → Int} {rows : List (List Int)}
theorem Red.el (R : Red n P rows k) {i j : Nat} (hi : i < n) (hj : j < 2 * n) : El (At rows i j) := R.good.getD (by rw [R.len]; exact hi) hj
theorem Red.rlen (R : Red n P rows k) {i : Nat} (hi : i < n) : (row rows i).length = 2 * n := (R.good i (by rw [R.len]; exact hi)).1
/-- There is a pivot: else x would be taken to nought. -/
theorem Red.pivot (R : Red n P rows k) (hk : k < n) (hN : ∀ x : Nat → Int, (∀ j, j < n → El (x j)) → (∀ i, i < n → Ker n (P i) x) → ∀ j, j < n → x j = 0) : ∃ i, i < n ∧ k ≤ i ∧ At rows i k ≠ 0 ∧ L.pivot rows k k = i := by
  have go : ∀ d i, i + d = n → k ≤ i → (∀ q, k ≤ q → q < i → At rows q k = 0) → L.pivot rows k k = L.pivot rows k i → ∃ i, i < n ∧ k ≤ i ∧ At rows i k ≠ 0 ∧ L.pivot rows k k = i := by
    intro d
    induction d with
    | zero =>
      intro i hi hki hz hp
      exfalso
      have hz2 : ∀ q, k ≤ q → q < n → At rows q k = 0 := fun q h1 h2 => hz q h1 (by omega)
      have hx := hN (fun j => if j = k then 1 else if j < k then At rows j k else 0) (fun j hj => by
        show El (if j = k then 1 else if j < k then At rows j k else 0)
        split
        · exact El1
        · split
          · exact R.el hj (by omega)
          · exact El0) ?_ k hk
      · rw [if_pos rfl] at hx
        exact absurd hx (by decide)
      · refine R.ker _ (fun j hj => by
          show El (if j = k then 1 else if j < k then At rows j k else 0)
          split
          · exact El1
          · split
            · exact R.el hj (by omega)
            · exact El0) ?_
        intro i hi
        unfold Ker
        by_cases hik : i < k
        · have e1 : gsum n (fun j => gm (At rows i j) (if j = k then 1 else if j < k then At rows j k else 0)) = gsum n (fun j => gx (gm (if i = j then 1 else 0) (At rows i k)) (gm (if k = j then 1 else 0) (At rows i k))) := by
            refine gsum_congr n fun j hj => ?_
            have ek := R.el hi (show k < 2 * n by omega)
            have ej := R.el hi (show j < 2 * n by omega)
            by_cases h1 : j = k
            · subst h1
              rw [if_pos rfl, if_neg (by omega), if_pos rfl, (gx_0 ej).2.2.2.2.2, (gx_0 ej).2.2.2.1, (gx_0 ej).2.2.2.2.1, (gx_0 ej).2.1]
            · rw [if_neg h1, if_neg (show ¬ k = j by omega), (gx_0 ek).2.2.2.1]
              by_cases h2 : j < k
              · rw [if_pos h2, R.unit i j hi h2]
                by_cases h3 : i = j
                · subst h3
                  rw [if_pos rfl, (gx_0 ek).2.2.2.2.1, (gx_0 ek).1]
                · rw [if_neg h3, (gx_0 ek).2.2.2.1, (gx_0 (R.el hj (show k < 2 * n by omega))).2.2.2.1, (gx_0 El0).1]
              · rw [if_neg h2, if_neg (by omega), (gx_0 ej).2.2.1, (gx_0 ek).2.2.2.1, (gx_0 El0).1]
          have ek := R.el hi (show k < 2 * n by omega)
          rw [e1, gsum_add n (fun j hj => gm_el (by split <;> first | exact El1 | exact El0) ek) (fun j hj => gm_el (by split <;> first | exact El1 | exact El0) ek), gsum_unit (F := fun _ => At rows i k) n (fun _ _ => ek), gsum_unit (F := fun _ => At rows i k) n (fun _ _ => ek), if_pos hi, if_pos hk, gx_self ek]
        · rw [gsum_congr n (G := fun _ => 0) fun j hj => ?_, gsum_zero]
          have ej := R.el hi (show j < 2 * n by omega)
          show gm (At rows i j) (if j = k then 1 else if j < k then At rows j k else 0) = 0
          by_cases h1 : j = k
          · subst h1
            rw [if_pos rfl, hz2 i (by omega) hi]
            exact (gx_0 El1).2.2.2.1
          · rw [if_neg h1]
            by_cases h2 : j < k
            · rw [if_pos h2, R.unit i j hi h2, if_neg (by omega)]
              exact (gx_0 (R.el hj (show k < 2 * n by omega))).2.2.2.1
            · rw [if_neg h2]
              exact (gx_0 ej).2.2.1
    | succ d ih =>
      intro i hi hki hz hp
      by_cases h : At rows i k = 0
      · exact ih (i + 1) (by omega) (by omega) (fun q h1 h2 => by
          by_cases e : q = i
          · rw [e]; exact h
          · exact hz q h1 (by omega)) (hp.trans (pivot_go (by rw [R.len]; omega) h))
      · exact ⟨i, by omega, hki, h, hp.trans (pivot_stop (by rw [R.len]; omega) h)⟩
  exact go (n - k) k (by omega) (Nat.le_refl _) (fun q h1 h2 => by omega) rfl
theorem Red.step (R : Red n P rows k) (hk : k < n) (hP : ∀ i j, i < n → j < n → El (P i j)) (hN : ∀ x : Nat → Int, (∀ j, j < n → El (x j)) → (∀ i, i < n → Ker n (P i) x) → ∀ j, j < n → x j = 0) :
    (stepP k (rows, k)).2 = k + 1 ∧ Red n P (stepP k (rows, k)).1 (k + 1) := by
  obtain ⟨p, hp, hkp, hz, hpv⟩ := R.pivot hk hN
  have hst : stepP k (rows, k) = (elimTo (scaleRow (swapR rows k p) k k) k k rows.length, k + 1) := by
    unfold stepP
    rw [if_neg (by show ¬ L.pivot rows k k = rows.length; rw [hpv, R.len]; omega)]
    show _ = _
    rw [hpv]
  rw [hst]
  refine ⟨rfl, ?_⟩
  show Red n P (elimTo (scaleRow (swapR rows k p) k k) k k rows.length) (k + 1)
  have hkl : k < rows.length := by rw [R.len]; exact hk
  have hpl : p < rows.length := by rw [R.len]; exact hp
  -- the swap
  have R1 : Red n P (swapR rows k p) k := by
    refine ⟨by rw [swap_length, R.len], R.good.swap hkl hpl, fun i hi => ?_, fun x hx K => R.ker x hx fun i hi => ?_, fun i j hi hj => ?_⟩
    · by_cases e1 : p = i
      · have : ∀ j, At (swapR rows k p) i j = At rows k j := fun j => by rw [at_swap hkl hpl, if_pos e1]
        intro j hj
        simp only [this]
        exact R.lin k hk j hj
      · by_cases e2 : k = i
        · have : ∀ j, At (swapR rows k p) i j = At rows p j := fun j => by rw [at_swap hkl hpl, if_neg e1, if_pos e2]
          intro j hj
          simp only [this]
          exact R.lin p hp j hj
        · have : ∀ j, At (swapR rows k p) i j = At rows i j := fun j => by rw [at_swap hkl hpl, if_neg e1, if_neg e2]
          intro j hj
          simp only [this]
          exact R.lin i hi j hj
    · have get : ∀ a b, a < n → (∀ j, At (swapR rows k p) a j = At rows b j) → Ker n (At rows b) x := fun a b ha h => by
        have := K a ha
        unfold Ker at this ⊢
        simp only [h] at this
        exact this
      by_cases e1 : i = k
      · subst e1
        exact get p i hp fun j => by rw [at_swap hkl hpl, if_pos rfl]
      · by_cases e2 : i = p
        · subst e2
          exact get k i hk fun j => by
            rw [at_swap hkl hpl]
            by_cases e3 : i = k
            · rw [if_pos e3, e3]
            · rw [if_neg e3, if_pos rfl]
        · exact get i i hi fun j => by rw [at_swap hkl hpl, if_neg (fun e => e2 e.symm), if_neg (fun e => e1 e.symm)]
    · rw [at_swap hkl hpl]
      by_cases e1 : p = i
      · rw [if_pos e1, R.unit k j hk hj, if_neg (by omega), if_neg (by omega)]
      · rw [if_neg e1]
        by_cases e2 : k = i
        · rw [if_pos e2, R.unit p j hp hj, if_neg (by omega), if_neg (by omega)]
        · rw [if_neg e2, R.unit i j hi hj]
  have hz1 : At (swapR rows k p) k k ≠ 0 := by
    rw [at_swap hkl hpl]
    by_cases e1 : p = k
    · rw [if_pos e1]; rw [e1] at hz; exact hz
    · rw [if_neg e1, if_pos rfl]; exact hz
  have hlen : rows.length = (swapR rows k p).length := (swap_length rows k p).symm
  rw [hlen]
  generalize swapR rows k p = A at R1 hz1
  clear hst hpv hz hpl hkl R hlen
  -- the scaling
  have hkA : k < A.length := by rw [R1.len]; exact hk
  have hc := ginv_el (R1.el hk (show k < 2 * n by omega))
  have hg := gm_ginv (R1.el hk (show k < 2 * n by omega)) hz1
  have eS : ∀ i j, j < 2 * n → At (scaleRow A k k) i j = if k = i then gm (At A k j) (ginv (At A k k)) else At A i j := fun i j hj => at_scale hkA i j (by rw [R1.rlen hk]; exact hj)
  have R2 : Red n P (scaleRow A k k) k := by
    refine ⟨by rw [scale_length, R1.len], R1.good.scale hkA (by omega), fun i hi => ?_, fun x hx K => R1.ker x hx fun i hi => ?_, fun i j hi hj => ?_⟩
    · by_cases e1 : k = i
      · subst e1
        exact (R1.lin k hk).scale hP (fun j hj => R1.el hk hj) hc fun j hj => by rw [eS k j hj, if_pos rfl]
      · have L := R1.lin i hi
        intro j hj
        rw [eS i j (by omega), if_neg e1, ← L j hj]
        exact gsum_congr n fun l hl => by rw [eS i (n + l) (by omega), if_neg e1]
    · by_cases e1 : k = i
      · subst e1
        exact (K k hk).unscale (fun j hj => R1.el hk (by omega)) hx hc hg.2 fun j hj => by rw [eS k j (by omega), if_pos rfl]
      · have := K i hi
        unfold Ker at this ⊢
        rw [← this]
        exact gsum_congr n fun j hj => by rw [eS i j (by omega), if_neg e1]
    · rw [eS i j (by omega)]
      by_cases e1 : k = i
      · rw [if_pos e1, R1.unit k j hk hj, if_neg (by omega), if_neg (by omega)]
        exact (gx_0 hc).2.2.2.1
      · rw [if_neg e1, R1.unit i j hi hj]
  have h1 : At (scaleRow A k k) k k = 1 := by rw [eS k k (by omega), if_pos rfl, hg.1]
  have hlen : A.length = (scaleRow A k k).length := (scale_length A k k).symm
  rw [hlen]
  generalize scaleRow A k k = B at R2 h1
  clear eS hg hc hkA hz1 R1 hlen
  -- the elimination
  have eE : ∀ i j, i < n → j < 2 * n → At (elimTo B k k B.length) i j = if i ≠ k ∧ At B i k ≠ 0 then gx (At B i j) (gm (At B k j) (At B i k)) else At B i j := fun i j hi hj => at_elim (by rw [R2.len]; exact hi) j (by rw [R2.rlen hi]; exact hj)
  refine ⟨by rw [elimTo_length, R2.len], R2.good.elim (by rw [R2.len]; exact hk) (by omega) _, fun i hi => ?_, fun x hx K => R2.ker x hx fun i hi => ?_, fun i j hi hj => ?_⟩
  · by_cases e1 : i ≠ k ∧ At B i k ≠ 0
    · exact (R2.lin i hi).add hP (fun j hj => R2.el hi hj) (fun j hj => R2.el hk hj) (R2.el hi (show k < 2 * n by omega)) (R2.lin k hk) fun j hj => by rw [eE i j hi hj, if_pos e1]
    · have L := R2.lin i hi
      intro j hj
      rw [eE i j hi (by omega), if_neg e1, ← L j hj]
      exact gsum_congr n fun l hl => by rw [eE i (n + l) hi (by omega), if_neg e1]
  · have Kk : Ker n (At B k) x := by
      have := K k hk
      unfold Ker at this ⊢
      rw [← this]
      exact gsum_congr n fun j hj => by rw [eE k j hk (by omega), if_neg (fun h => h.1 rfl)]
    by_cases e1 : i ≠ k ∧ At B i k ≠ 0
    · exact (K i hi).sub (fun j hj => R2.el hi (by omega)) (fun j hj => R2.el hk (by omega)) hx (R2.el hi (show k < 2 * n by omega)) (fun j hj => by rw [eE i j hi (by omega), if_pos e1]) Kk
    · have := K i hi
      unfold Ker at this ⊢
      rw [← this]
      exact gsum_congr n fun j hj => by rw [eE i j hi (by omega), if_neg e1]
  · rw [eE i j hi (by omega)]
    have eik := R2.el hi (show k < 2 * n by omega)
    by_cases hjk : j = k
    · subst hjk
      by_cases e1 : i = j
      · subst e1
        rw [if_neg (fun h => h.1 rfl), if_pos rfl, h1]
      · rw [if_neg e1]
        by_cases e2 : At B i j = 0
        · rw [if_neg (fun h => h.2 e2), e2]
        · rw [if_pos ⟨e1, e2⟩, h1, (gx_0 eik).2.2.2.2.1, gx_self eik]
    · have hj2 : j < k := by omega
      by_cases e1 : i ≠ k ∧ At B i k ≠ 0
      · rw [if_pos e1, R2.unit k j hk hj2, if_neg (by omega), (gx_0 eik).2.2.2.1, (gx_0 (R2.el hi (by omega))).1, R2.unit i j hi hj2]
      · rw [if_neg e1, R2.unit i j hi hj2]
end
theorem Red.all {n : Nat} {P : Nat → Nat → Int} {rows : List (List Int)} (R : Red n P rows 0) (hP : ∀ i j, i < n → j < n → El (P i j)) (hN : ∀ x : Nat → Int, (∀ j, j < n → El (x j)) → (∀ i, i < n → Ker n (P i) x) → ∀ j, j < n → x j = 0) :
    ∀ k, k ≤ n → (reduceTo rows k).2 = k ∧ Red n P (reduceTo rows k).1 k
  | 0, _ => ⟨rfl, R⟩
  | k + 1, hk => by
    have ih := Red.all R hP hN k (by omega)
    have e : reduceTo rows k = ((reduceTo rows k).1, k) := by
      rw [← ih.1]
      rw [ih.1]
      exact Prod.ext rfl ih.1
    rw [reduceTo_succ, e]
    exact ih.2.step (by omega) hP hN
theorem getD_lt {l : List Int} {i : Nat} (h : i < l.length) : l.getD i 0 ∈ l := by
  rw [List.getD_eq_getElem?_getD, List.getElem?_eq_getElem h]
  exact List.getElem_mem h
theorem tails_getD {rows : List (List Int)} {n : Nat} (hG : Good (2 * n) rows) : ∀ k, k ≤ rows.length → ∀ i l, i < k → l < n → (tails rows n k).getD (i * n + l) 0 = At rows i (n + l)
  | 0, _, i, l, hi, _ => absurd hi (by omega)
  | k + 1, hk, i, l, hi, hl => by
    have hlen := tails_length hG k (by omega)
    rw [tails_succ _ _ _ (by omega)]
    by_cases h : i < k
    · have : (i + 1) * n ≤ k * n := Nat.mul_le_mul_right _ h
      rw [Nat.succ_mul] at this
      rw [List.getD_eq_getElem?_getD, List.getElem?_append_left (by omega), ← List.getD_eq_getElem?_getD]
      exact tails_getD hG k (by omega) i l h hl
    · obtain rfl : i = k := by omega
      rw [List.getD_eq_getElem?_getD, List.getElem?_append_right (by omega), hlen, List.getElem?_drop, ← List.getD_eq_getElem?_getD]
      congr 1
      omega
def invL (n : Nat) (p : List Int) : List Int := tails (invRows p n).1 n n
/-- The inverse of a square matrix without a kernel. -/
theorem inv_of {n : Nat} {p : List Int} (hl : p.length = n * n) (he : ElL p) (hN : ∀ x : Nat → Int, (∀ j, j < n → El (x j)) → (∀ i, i < n → gsum n (fun j => gm (p.getD (i * n + j) 0) (x j)) = 0) → ∀ j, j < n → x j = 0) :
    (invRows p n).2 = n ∧ (invL n p).length = n * n ∧ ElL (invL n p) ∧ ∀ i j, i < n → j < n → (gsum n fun l => gm ((invL n p).getD (i * n + l) 0) (p.getD (l * n + j) 0)) = if i = j then 1 else 0 := by
  have hP : ∀ i j, i < n → j < n → El (p.getD (i * n + j) 0) := fun i j hi hj => he _ (getD_lt (by
    have : (i + 1) * n ≤ n * n := Nat.mul_le_mul_right _ hi
    rw [Nat.succ_mul] at this
    omega))
  have hG := aug_good hl he
  have c1 : ∀ i j, i < n → j < n → At (augTo p n n) i j = p.getD (i * n + j) 0 := fun i j hi hj => by
    unfold At
    rw [augTo_row _ _ _ _ hi, if_pos hi, List.getD_eq_getElem?_getD, List.getElem?_append_left (by rw [cut_length hl hi]; exact hj), ← List.getD_eq_getElem?_getD, cut_getD hi hj]
  have c2 : ∀ i l, i < n → l < n → At (augTo p n n) i (n + l) = if i = l then 1 else 0 := fun i l hi hl2 => by
    unfold At
    rw [augTo_row _ _ _ _ hi, if_pos hi, List.getD_eq_getElem?_getD, List.getElem?_append_right (by rw [cut_length hl hi]; omega), cut_length hl hi, ← List.getD_eq_getElem?_getD, show n + l - n = l by omega, unitRow_getD _ _ _ hl2]
  have R0 : Red n (fun i j => p.getD (i * n + j) 0) (augTo p n n) 0 := by
    refine ⟨augTo_length p n n, hG, fun i hi j hj => ?_, fun x hx K i hi => ?_, fun i j _ hj => absurd hj (by omega)⟩
    · rw [c1 i j hi hj, gsum_congr n (G := fun l => gm (if i = l then 1 else 0) (p.getD (l * n + j) 0)) fun l hl2 => by rw [c2 i l hi hl2], gsum_unit (F := fun l => p.getD (l * n + j) 0) n fun l hl2 => hP l j hl2 hj, if_pos hi]
    · have := K i hi
      unfold Ker at this ⊢
      refine Eq.trans (gsum_congr n fun j hj => ?_) this
      rw [c1 i j hi hj]
  obtain ⟨a1, a2⟩ := R0.all hP hN n (Nat.le_refl _)
  have hlen : (reduceTo (augTo p n n) n).1.length = n := a2.len
  have t1 : (invL n p).length = n * n := tails_length a2.good n (by rw [hlen]; exact Nat.le_refl _)
  have t2 : ∀ i l, i < n → l < n → (invL n p).getD (i * n + l) 0 = At (reduceTo (augTo p n n) n).1 i (n + l) := fun i l hi hl2 => tails_getD a2.good n (by rw [hlen]; exact Nat.le_refl _) i l hi hl2
  refine ⟨a1, t1, ?_, fun i j hi hj => ?_⟩
  · intro x hx
    obtain ⟨q, hq, rfl⟩ := List.getElem_of_mem hx
    have hn : 0 < n := by
      rcases Nat.eq_zero_or_pos n with rfl | h
      · rw [t1] at hq; omega
      · exact h
    have hqi : q / n < n := by rw [t1] at hq; exact (Nat.div_lt_iff_lt_mul hn).2 hq
    have hql := Nat.mod_lt q hn
    have e := t2 _ _ hqi hql
    rw [Nat.div_add_mod' q n, List.getD_eq_getElem?_getD, List.getElem?_eq_getElem hq] at e
    show El (invL n p)[q]
    have e2 : (invL n p)[q] = At (reduceTo (augTo p n n) n).1 (q / n) (n + q % n) := e
    rw [e2]
    exact a2.el hqi (by omega)
  · rw [gsum_congr n (G := fun l => gm (At (reduceTo (augTo p n n) n).1 i (n + l)) (p.getD (l * n + j) 0)) fun l hl2 => by rw [t2 i l hi hl2]]
    have := a2.lin i hi j hj
    rw [a2.unit i j hi hj] at this
    exact this
end Go.Proofs.Ythfddndmhjkeiaa.L
end
section
/- The plain law of the erasure code, part I3: the matrices of all codes up to 16 shards; every Need of their rows have an inverse. -/
namespace Go.Proofs.Ythfddndmhjkeiaa.L
open Go.RowKit Go.Proofs.YthfddndmhjkeiaaW.PrintWords Go.Proofs.YthfddndmhjkeiaaW.PrintLast Go.Proofs.YthfddndmhjkeiaaW.PrintMore
set_option linter.unusedVariables false
set_option linter.unusedSimpArgs false

def rowsL (n a : Nat) : List Int := ((erasure_rowsOf.f 300 n a).getD (0, 0, [])).2.2
def pickL (n a : Nat) (idx : List Nat) : List Int := idx.flatMap fun i => cut (rowsL n a) n i
def specAt (n a i j : Nat) : Int := if i < n then (if i = j then 1 else 0) else ginv (gx ((i - n : Nat) : Int) ((a - n + j : Nat) : Int))
def specRow (n a i : Nat) : List Int := (List.range n).map fun j => specAt n a i j
def specL (n a : Nat) : List Int := (List.range a).flatMap (specRow n a)
set_option maxRecDepth 100000 in
theorem rows_spec_all : ∀ n a : Fin 17, 1 ≤ n.1 → n.1 ≤ a.1 → erasure_rowsOf.f 300 (n.1 : Int) (a.1 : Int) = some ((a.1 : Int), (n.1 : Int), specL n.1 a.1) := by decide +kernel
theorem rows_spec {n a : Nat} (h1 : 1 ≤ n) (ha : n ≤ a) (h16 : a ≤ 16) : erasure_rowsOf.f 300 n a = some ((a : Int), (n : Int), specL n a) := rows_spec_all ⟨n, by omega⟩ ⟨a, by omega⟩ h1 ha
theorem rowsL_spec {n a : Nat} (h1 : 1 ≤ n) (ha : n ≤ a) (h16 : a ≤ 16) : rowsL n a = specL n a := by
  unfold rowsL
  rw [rows_spec h1 ha h16]
  rfl
theorem specRow_length (n a i : Nat) : (specRow n a i).length = n := by simp [specRow]
theorem flat_length {f : Nat → List Int} {n : Nat} (h : ∀ i, (f i).length = n) : ∀ a, ((List.range a).flatMap f).length = a * n
  | 0 => by simp
  | a + 1 => by
    rw [List.range_succ, List.flatMap_append, List.length_append, flat_length h a, List.flatMap_cons, List.flatMap_nil, List.append_nil, h, Nat.succ_mul]
theorem flat_getD {f : Nat → List Int} {n : Nat} (h : ∀ i, (f i).length = n) : ∀ a i j, i < a → j < n → ((List.range a).flatMap f).getD (i * n + j) 0 = (f i).getD j 0
  | 0, i, j, hi, _ => absurd hi (by omega)
  | a + 1, i, j, hi, hj => by
    have hlen := flat_length h a
    rw [List.range_succ, List.flatMap_append, List.flatMap_cons, List.flatMap_nil, List.append_nil]
    by_cases h1 : i < a
    · have : (i + 1) * n ≤ a * n := Nat.mul_le_mul_right _ h1
      rw [Nat.succ_mul] at this
      rw [List.getD_eq_getElem?_getD, List.getElem?_append_left (by omega), ← List.getD_eq_getElem?_getD]
      exact flat_getD h a i j h1 hj
    · obtain rfl : i = a := by omega
      rw [List.getD_eq_getElem?_getD, List.getElem?_append_right (by omega), hlen, ← List.getD_eq_getElem?_getD, show i * n + j - i * n = j by omega]
theorem spec_getD {n a i j : Nat} (hi : i < a) (hj : j < n) : (specL n a).getD (i * n + j) 0 = specAt n a i j := by
  unfold specL
  rw [flat_getD (specRow_length n a) a i j hi hj]
  unfold specRow
  rw [List.getD_eq_getElem?_getD, List.getElem?_map, List.getElem?_range hj]
  rfl
theorem El.nat {i : Nat} (h : i < 16) : El (i : Int) := ⟨by omega, by omega⟩
theorem specAt_el {n a i j : Nat} (h16 : a ≤ 16) (hi : i < a) (hj : j < n) (ha : n ≤ a) : El (specAt n a i j) := by
  unfold specAt
  split
  · split
    · exact El1
    · exact El0
  · exact ginv_el (gx_el (El.nat (by omega)) (El.nat (by omega)))
structure RowsOk (n a : Nat) : Prop where
  rows : erasure_rowsOf.f 300 n a = some ((a : Int), (n : Int), rowsL n a)
  len : (rowsL n a).length = a * n
  el : ElL (rowsL n a)
  unit : ∀ i j, i < n → j < n → (rowsL n a).getD (i * n + j) 0 = if i = j then 1 else 0
structure InvOk (n a : Nat) (idx : List Nat) : Prop where
  full : (invRows (pickL n a idx) n).2 = n
  len : (invL n (pickL n a idx)).length = n * n
  el : ElL (invL n (pickL n a idx))
  one : ∀ i j, i < n → j < n → (gsum n fun l => gm ((invL n (pickL n a idx)).getD (i * n + l) 0) ((pickL n a idx).getD (l * n + j) 0)) = if i = j then 1 else 0
theorem elL_getD {l : List Int} (h : ElL l) (j : Nat) : El (l.getD j 0) := by
  rw [List.getD_eq_getElem?_getD]
  by_cases hj : j < l.length
  · rw [List.getElem?_eq_getElem hj]
    exact h _ (List.getElem_mem hj)
  · rw [List.getElem?_eq_none (by omega)]
    exact El0
theorem rowsM_ok {n a : Nat} (h1 : 1 ≤ n) (ha : n ≤ a) (h16 : a ≤ 16) : RowsOk n a := by
  have e := rowsL_spec h1 ha h16
  refine ⟨by rw [e]; exact rows_spec h1 ha h16, by rw [e]; exact flat_length (specRow_length n a) a, ?_, fun i j hi hj => ?_⟩
  · rw [e]
    intro x hx
    obtain ⟨i, hi, hx⟩ := List.mem_flatMap.1 hx
    obtain ⟨j, hj, rfl⟩ := List.mem_map.1 hx
    exact specAt_el h16 (List.mem_range.1 hi) (List.mem_range.1 hj) ha
  · rw [e, spec_getD (by omega) hj]
    unfold specAt
    rw [if_pos hi]
section
variable {n a : Nat}
theorem cutR_length (hR : RowsOk n a) {i : Nat} (hi : i < a) : (cut (rowsL n a) n i).length = n := by
  unfold cut
  have : (i + 1) * n ≤ a * n := Nat.mul_le_mul_right _ hi
  rw [List.length_drop, List.length_take, hR.len, Nat.min_eq_left this, Nat.add_mul, Nat.one_mul]
  omega
theorem cutR_getD (l : List Int) (n i : Nat) {j : Nat} (hj : j < n) : (cut l n i).getD j 0 = l.getD (i * n + j) 0 := by
  unfold cut
  have h3 : (i + 1) * n = i * n + n := Nat.succ_mul _ _
  rw [List.getD_eq_getElem?_getD, List.getElem?_drop, List.getElem?_take, if_pos (by omega), ← List.getD_eq_getElem?_getD]
theorem pickL_getD (hR : RowsOk n a) : ∀ (idx : List Nat) (l j : Nat), (∀ x, x ∈ idx → x < a) → (hl : l < idx.length) → j < n → (pickL n a idx).getD (l * n + j) 0 = (cut (rowsL n a) n idx[l]).getD j 0
  | x :: idx, 0, j, h, hl, hj => by
    have hc := cutR_length hR (h x (List.mem_cons_self ..))
    unfold pickL
    rw [List.flatMap_cons, List.getD_eq_getElem?_getD, List.getElem?_append_left (by omega), Nat.zero_mul, Nat.zero_add]
    rfl
  | x :: idx, l + 1, j, h, hl, hj => by
    have hc := cutR_length hR (h x (List.mem_cons_self ..))
    have ih := pickL_getD hR idx l j (fun y hy => h y (List.mem_cons_of_mem _ hy)) (by simpa using hl) hj
    unfold pickL at ih ⊢
    rw [List.flatMap_cons, List.getD_eq_getElem?_getD, List.getElem?_append_right (by rw [hc, Nat.add_mul]; omega), hc, show (l + 1) * n + j - n = l * n + j by rw [Nat.add_mul]; omega, ← List.getD_eq_getElem?_getD, ih]
    rfl
theorem pickL_length (hR : RowsOk n a) : ∀ idx : List Nat, (∀ x, x ∈ idx → x < a) → (pickL n a idx).length = idx.length * n
  | [], _ => by simp [pickL]
  | x :: idx, h => by
    have ih := pickL_length hR idx fun y hy => h y (List.mem_cons_of_mem _ hy)
    unfold pickL at ih ⊢
    rw [List.flatMap_cons, List.length_append, cutR_length hR (h x (List.mem_cons_self ..)), ih, List.length_cons, Nat.add_mul]
    omega
theorem pickL_el (hR : RowsOk n a) (idx : List Nat) : ElL (pickL n a idx) := by
  intro x hx
  unfold pickL at hx
  obtain ⟨i, _, hi⟩ := List.mem_flatMap.1 hx
  unfold cut at hi
  exact hR.el x (List.mem_of_mem_take (List.mem_of_mem_drop hi))
/-- Two growing lists with the same members are the same. -/
theorem sorted_ext : ∀ l l' : List Nat, l.Pairwise (· < ·) → l'.Pairwise (· < ·) → (∀ x, x ∈ l ↔ x ∈ l') → l = l'
  | [], [], _, _, _ => rfl
  | [], y :: l', _, _, h => absurd ((h y).2 (List.mem_cons_self ..)) (List.not_mem_nil)
  | x :: l, [], _, _, h => absurd ((h x).1 (List.mem_cons_self ..)) (List.not_mem_nil)
  | x :: l, y :: l', hl, hl', h => by
    have p := List.pairwise_cons.1 hl
    have p' := List.pairwise_cons.1 hl'
    have hxy : x = y := by
      rcases List.mem_cons.1 ((h x).1 (List.mem_cons_self ..)) with e | e
      · exact e
      · rcases List.mem_cons.1 ((h y).2 (List.mem_cons_self ..)) with e2 | e2
        · exact e2.symm
        · have h1 := p'.1 x e
          have h2 := p.1 y e2
          omega
    subst hxy
    rw [sorted_ext l l' p.2 p'.2 fun z => ?_]
    constructor
    · intro hz
      rcases List.mem_cons.1 ((h z).1 (List.mem_cons_of_mem _ hz)) with e | e
      · have := p.1 z hz
        omega
      · exact e
    · intro hz
      rcases List.mem_cons.1 ((h z).2 (List.mem_cons_of_mem _ hz)) with e | e
      · have := p'.1 z hz
        omega
      · exact e
theorem filter_parts {α : Type} (p : α → Bool) : ∀ l : List α, (l.filter p).length + (l.filter fun x => !p x).length = l.length
  | [] => rfl
  | x :: l => by
    have ih := filter_parts p l
    rw [List.filter_cons, List.filter_cons]
    cases h : p x <;> simp <;> omega
theorem inv_ok (h1 : 1 ≤ n) (ha : n ≤ a) (h16 : a ≤ 16) {idx : List Nat} (hl : idx.length = n) (hp : idx.Pairwise (· < ·)) (hx : ∀ x, x ∈ idx → x < a) : InvOk n a idx := by
  have hR := rowsM_ok h1 ha h16
  have hpl := pickL_length hR idx hx
  rw [hl] at hpl
  suffices h : ∀ x : Nat → Int, (∀ j, j < n → El (x j)) → (∀ i, i < n → gsum n (fun j => gm ((pickL n a idx).getD (i * n + j) 0) (x j)) = 0) → ∀ j, j < n → x j = 0 by
    obtain ⟨a1, a2, a3, a4⟩ := inv_of hpl (pickL_el hR idx) h
    exact ⟨a1, a2, a3, a4⟩
  intro x ex hk
  have row : ∀ q, q ∈ idx → gsum n (fun j => gm (specAt n a q j) (x j)) = 0 := by
    intro q hq
    obtain ⟨i, hi, rfl⟩ := List.getElem_of_mem hq
    rw [← hk i (by omega)]
    refine gsum_congr n fun j hj => ?_
    rw [pickL_getD hR idx i j hx hi hj, cutR_getD _ _ _ hj, rowsL_spec h1 ha h16, spec_getD (hx _ hq) hj]
  have z1 : ∀ q, q ∈ idx → q < n → x q = 0 := by
    intro q hq hqn
    have := row q hq
    rw [gsum_congr n (G := fun j => gm (if q = j then 1 else 0) (x j)) fun j hj => by unfold specAt; rw [if_pos hqn], gsum_unit n ex, if_pos hqn] at this
    exact this
  let J := (List.range n).filter fun j => !decide (j ∈ idx)
  let I := idx.filter fun i => !decide (i < n)
  have mJ : ∀ j, j ∈ J → j < n ∧ j ∉ idx := fun j hj => by
    have := List.mem_filter.1 hj
    exact ⟨List.mem_range.1 this.1, by simpa using this.2⟩
  have mI : ∀ i, i ∈ I → i ∈ idx ∧ n ≤ i := fun i hi => by
    have := List.mem_filter.1 hi
    exact ⟨this.1, by simpa using this.2⟩
  have hlen : J.length ≤ I.length := by
    have a1 := filter_parts (fun j => decide (j ∈ idx)) (List.range n)
    have a2 := filter_parts (fun i => decide (i < n)) idx
    have a3 : (List.range n).filter (fun j => decide (j ∈ idx)) = idx.filter (fun i => decide (i < n)) := by
      refine sorted_ext _ _ (List.Pairwise.filter _ List.pairwise_lt_range) (hp.filter _) fun z => ?_
      rw [List.mem_filter, List.mem_filter, List.mem_range]
      simp only [decide_eq_true_eq]
      exact And.comm
    rw [a3, List.length_range] at a1
    show ((List.range n).filter fun j => !decide (j ∈ idx)).length ≤ (idx.filter fun i => !decide (i < n)).length
    omega
  have z2 := cauchy (al := fun i => ((i - n : Nat) : Int)) (be := fun j => ((a - n + j : Nat) : Int)) J I x
    ((List.Pairwise.filter _ List.pairwise_lt_range).imp fun h => by omega)
    (List.Pairwise.imp_of_mem (fun {u v} hu hv h => by have := (mI u hu).2; have := (mI v hv).2; omega) (hp.filter _))
    (fun j hj => El.nat (by have := (mJ j hj).1; omega)) (fun i hi => El.nat (by have := hx i (mI i hi).1; omega))
    (fun i hi j hj => by have := hx i (mI i hi).1; have := (mI i hi).2; have := (mJ j hj).1; omega)
    (fun j hj => ex j (mJ j hj).1) hlen (fun i hi => ?_)
  · intro j hj
    by_cases h : j ∈ idx
    · exact z1 j h hj
    · exact z2 j (List.mem_filter.2 ⟨List.mem_range.2 hj, by simpa using h⟩)
  · have hi2 := mI i hi
    have hia := hx i hi2.1
    have e := row i hi2.1
    have el : ∀ j, j < n → El (gm (specAt n a i j) (x j)) := fun j hj => gm_el (specAt_el h16 hia hj ha) (ex j hj)
    rw [gsum_lsum n el, ← lsum_filter (fun j => !decide (j ∈ idx)) (List.range n) (fun j hj => el j (List.mem_range.1 hj)) (fun j hj h => by
      have hjn := List.mem_range.1 hj
      rw [z1 j (by simpa using h) hjn]
      exact (gx_0 (specAt_el h16 hia hjn ha)).2.2.1)] at e
    refine Eq.trans (lsum_congr J fun j hj => ?_) e
    have hjn := (mJ j hj).1
    have es := specAt_el h16 hia hjn ha
    have hs : specAt n a i j = ginv (gx ((i - n : Nat) : Int) ((a - n + j : Nat) : Int)) := by unfold specAt; rw [if_neg (by omega)]
    rw [← hs]
    exact gm_comm (ex j hjn) es
end
end Go.Proofs.Ythfddndmhjkeiaa.L
end
section
/- The plain law of the erasure code, part B: combine and shard. -/
namespace Go.Proofs.Ythfddndmhjkeiaa.L
open Go.RowKit Go.Proofs.YthfddndmhjkeiaaW.PrintWords Go.Proofs.YthfddndmhjkeiaaW.PrintLast Go.Proofs.YthfddndmhjkeiaaW.PrintMore
set_option linter.unusedVariables false
set_option linter.unusedSimpArgs false

theorem bt_by (s : ByteArray) (i : Int) : By (bt s i) := bt_range s i
theorem lo_el {b : Int} (h : By b) : El (lo b) := by
  obtain ⟨i, rfl⟩ := h.fin
  exact (b_nib i).1
theorem hi_el {b : Int} (h : By b) : El (hi b) := by
  obtain ⟨i, rfl⟩ := h.fin
  exact (b_nib i).2.1
theorem nib_ext {a b : Int} (ha : By a) (hb : By b) (h1 : lo a = lo b) (h2 : hi a = hi b) : a = b := by
  obtain ⟨i, rfl⟩ := ha.fin
  obtain ⟨j, rfl⟩ := hb.fin
  have e1 := (b_nib i).2.2
  have e2 := (b_nib j).2.2
  rw [e1, e2, h1, h2]
theorem mulb_by {c b : Int} (hc : El c) (hb : By b) : By (mulb c b) ∧ lo (mulb c b) = gm c (lo b) ∧ hi (mulb c b) = gm c (hi b) := by
  unfold mulb
  obtain ⟨i, hi'⟩ := (gm_el hc (lo_el hb)).fin
  obtain ⟨j, hj'⟩ := (gm_el hc (hi_el hb)).fin
  rw [hi', hj']
  exact b_pack i j
theorem halves_eq {b : Int} (hb : By b) : erasure_halves_int.f (wrap64 b) = some (lo b, hi b) := by
  have h1 : wrap64 b = b := w64 (by have := hb.1; omega) (by have := hb.2; omega)
  rw [h1]
  rfl
theorem emul_some {k : Nat} (hk : 40 ≤ k) {a b : Int} (ha : El a) (hb : El b) : erasure_mul.f k a b = some (gm a b) := by
  have h : erasure_mul.f 40 a b = some (gm a b) := gm_some ha hb
  exact upk (fun k => erasure_mul.mono a b k) hk h
/-- What combine leaves, having gone over the first t bytes. -/
def comb (acc : List Int) (c : Int) (s : ByteArray) (t : Nat) : List Int := mid acc (fun i => x8 (acc.getD i 0) (mulb c (bt s (i : Int)))) t
theorem combine_loop {acc : List Int} {c : Int} {s : ByteArray} (hc : El c) (hl : s.size = acc.length) (hs : s.size ≤ 1000000) : ∀ (m t k : Nat), t + m = s.size → m + 41 ≤ k →
    erasure_combine.l0 k (comb acc c s t) c s (s.size : Int) (t : Int) = some (comb acc c s s.size)
  | 0, t, k, ht, hk => by
    obtain ⟨k, rfl⟩ : ∃ k', k = k' + 1 := ⟨k - 1, by omega⟩
    unfold erasure_combine.l0
    rw [if_neg (by omega)]
    obtain rfl : t = s.size := by omega
    rfl
  | m + 1, t, k, ht, hk => by
    obtain ⟨k, rfl⟩ : ∃ k', k = k' + 1 := ⟨k - 1, by omega⟩
    have hlen : (comb acc c s t).length = acc.length := mid_length _ _ _
    unfold erasure_combine.l0
    have hb := bt_by s (t : Int)
    rw [if_pos (by omega), if_pos (by omega), if_pos (by omega), halves_eq hb]
    simp only [Option.bind_some]
    rw [if_pos (by omega), emul_some (by omega) hc (lo_el hb)]
    simp only [Option.bind_some]
    rw [emul_some (by omega) hc (hi_el hb)]
    simp only [Option.bind_some]
    rw [show wrap64 ((t : Int) + 1) = ((t + 1 : Nat) : Int) from (w64 (by omega) (by omega)).trans rfl]
    have hrd : rd (comb acc c s t) (t : Int) = acc.getD t 0 := by
      unfold rd
      rw [Int.toNat_natCast]
      unfold comb
      rw [mid_getD _ _ _ _ (by omega), if_neg (Nat.lt_irrefl _)]
    rw [hrd, Int.toNat_natCast]
    have hset : (comb acc c s t).set t (Go.bits .xor .u8 (acc.getD t 0) ((Go.bits .or .i64 (gm c (lo (bt s (t : Int)))) (wrap64 (gm c (hi (bt s (t : Int))) * 16))) % 256)) = comb acc c s (t + 1) := mid_set acc (fun i => x8 (acc.getD i 0) (mulb c (bt s (i : Int)))) t
    rw [hset]
    exact combine_loop hc hl hs m (t + 1) k (by omega) (by omega)
theorem combine_some {acc : List Int} {c : Int} {s : ByteArray} (hc : El c) (hl : s.size = acc.length) (hs : s.size ≤ 1000000) {k : Nat} (hk : s.size + 41 ≤ k) : erasure_combine.f k acc c s = some (comb acc c s s.size) := by
  have h := combine_loop hc hl hs s.size 0 k (by omega) hk
  unfold comb at h
  rw [mid_zero] at h
  exact h
/-- Byte t of the combination of the first j parts. -/
def accB (row : List Int) (parts : List ByteArray) (t : Nat) : Nat → Int
  | 0 => 0
  | j + 1 => x8 (accB row parts t j) (mulb (row.getD j 0) (bt (parts.getD j ByteArray.empty) (t : Int)))
def accL (row : List Int) (parts : List ByteArray) (len j : Nat) : List Int := (List.range len).map fun t => accB row parts t j
theorem accL_length (row : List Int) (parts : List ByteArray) (len j : Nat) : (accL row parts len j).length = len := by simp [accL]
theorem accL_getD (row : List Int) (parts : List ByteArray) {len t : Nat} (j : Nat) (h : t < len) : (accL row parts len j).getD t 0 = accB row parts t j := by
  unfold accL
  rw [List.getD_eq_getElem?_getD, List.getElem?_map, List.getElem?_range h]
  rfl
theorem comb_accL {row : List Int} {parts : List ByteArray} {len : Nat} (j : Nat) : comb (accL row parts len j) (row.getD j 0) (parts.getD j ByteArray.empty) len = accL row parts len (j + 1) := by
  apply List.ext_getElem?
  intro t
  by_cases ht : t < len
  · have h1 : ∀ l : List Int, l.length = len → l[t]? = some (l.getD t 0) := fun l hl => by
      rw [List.getD_eq_getElem?_getD, List.getElem?_eq_getElem (by omega)]
      rfl
    rw [h1 _ (by unfold comb; rw [mid_length, accL_length]), h1 _ (accL_length _ _ _ _), accL_getD _ _ _ ht]
    unfold comb
    rw [mid_getD _ _ _ _ (by rw [accL_length]; exact ht), if_pos ht, accL_getD _ _ _ ht]
    rfl
  · rw [List.getElem?_eq_none (by unfold comb; rw [mid_length, accL_length]; omega), List.getElem?_eq_none (by rw [accL_length]; omega)]
theorem shard_loop {row : List Int} {parts : List ByteArray} {len : Nat} (hr : ∀ j, j < row.length → El (row.getD j 0)) (hl : row.length = parts.length) (hp : ∀ j, j < parts.length → (parts.getD j ByteArray.empty).size = len) (hs : len ≤ 1000000) (hn : row.length ≤ 1000) :
    ∀ (m j k : Nat), j + m = row.length → m + len + 42 ≤ k → erasure_shard.l0 k parts (accL row parts len j) row (row.length : Int) (j : Int) = some (strOfNums (accL row parts len row.length))
  | 0, j, k, hj, hk => by
    obtain ⟨k, rfl⟩ : ∃ k', k = k' + 1 := ⟨k - 1, by omega⟩
    unfold erasure_shard.l0
    rw [if_neg (by omega)]
    obtain rfl : j = row.length := by omega
    rfl
  | m + 1, j, k, hj, hk => by
    obtain ⟨k, rfl⟩ : ∃ k', k = k' + 1 := ⟨k - 1, by omega⟩
    unfold erasure_shard.l0
    rw [if_pos (by omega), if_pos (by omega), if_pos (by omega), if_pos (by omega)]
    have h1 : rd row (j : Int) = row.getD j 0 := by unfold rd; rw [Int.toNat_natCast]
    have h2 : rdOf ByteArray.empty parts (j : Int) = parts.getD j ByteArray.empty := by unfold rdOf; rw [Int.toNat_natCast]
    have hpj := hp j (by omega)
    rw [h1, h2, combine_some (hr j (by omega)) (by rw [accL_length]; exact hpj) (by omega) (by omega), hpj, comb_accL]
    simp only [Option.bind_some]
    rw [show wrap64 ((j : Int) + 1) = ((j + 1 : Nat) : Int) from (w64 (by omega) (by omega)).trans rfl]
    exact shard_loop hr hl hp hs hn m (j + 1) k (by omega) (by omega)
theorem shard_some {row : List Int} {parts : List ByteArray} {len : Nat} (hr : ∀ j, j < row.length → El (row.getD j 0)) (hl : row.length = parts.length) (hp : ∀ j, j < parts.length → (parts.getD j ByteArray.empty).size = len) (hs : len ≤ 1000000) (hn : row.length ≤ 1000)
    {k : Nat} (hk : row.length + len + 42 ≤ k) : erasure_shard.f k row parts (len : Int) = some (strOfNums (accL row parts len row.length)) := by
  unfold erasure_shard.f
  rw [if_pos (by omega), if_pos (by rw [Int.toNat_natCast]; omega), Int.toNat_natCast]
  have h0 : List.replicate len (0 : Int) = accL row parts len 0 := by
    unfold accL
    apply List.ext_getElem?
    intro t
    rw [List.getElem?_replicate, List.getElem?_map]
    by_cases ht : t < len
    · rw [if_pos ht, List.getElem?_range ht]; rfl
    · rw [if_neg ht, List.getElem?_eq_none (by simp; omega)]; rfl
  rw [h0]
  exact shard_loop hr hl hp hs hn row.length 0 k (by omega) hk
theorem accB_by {row : List Int} {parts : List ByteArray} (t : Nat) : ∀ j, (∀ i, i < j → El (row.getD i 0)) → By (accB row parts t j) ∧ lo (accB row parts t j) = gsum j (fun i => gm (row.getD i 0) (lo (bt (parts.getD i ByteArray.empty) (t : Int)))) ∧ hi (accB row parts t j) = gsum j (fun i => gm (row.getD i 0) (hi (bt (parts.getD i ByteArray.empty) (t : Int))))
  | 0, _ => by
    refine ⟨⟨Int.le_refl 0, ?_⟩, ?_, ?_⟩
    · show (0 : Int) ≤ 255
      decide
    · show lo 0 = 0
      decide +kernel
    · show hi 0 = 0
      decide +kernel
  | j + 1, h => by
    obtain ⟨h1, h2, h3⟩ := accB_by t j fun i hi => h i (by omega)
    have hm := mulb_by (h j (by omega)) (bt_by (parts.getD j ByteArray.empty) (t : Int))
    have hx := b_x8 h1 hm.1
    refine ⟨hx.1, ?_, ?_⟩
    · exact hx.2.1.trans (by rw [h2, hm.2.1]; rfl)
    · exact hx.2.2.trans (by rw [h3, hm.2.2]; rfl)
theorem bt_strOfNums {l : List Int} {t : Nat} (h : t < l.length) (hb : By (l.getD t 0)) : bt (strOfNums l) (t : Int) = l.getD t 0 := by
  unfold bt
  have hs : (t : Int).toNat < (strOfNums l).size := by rw [strOfNums_size, Int.toNat_natCast]; exact h
  rw [dif_pos hs]
  have hg : l.getD t 0 = l[t] := by rw [List.getD_eq_getElem?_getD, List.getElem?_eq_getElem h]; rfl
  rw [hg] at hb ⊢
  have e : (strOfNums l)[(t : Int).toNat]'hs = UInt8.ofNat (l[t]).toNat := by
    show (strOfNums l).data[(t : Int).toNat]'hs = _
    simp [strOfNums]
  rw [e, UInt8.toNat_ofNat_of_lt' (by have := hb.1; have := hb.2; show _ < 256; omega)]
  have := hb.1
  omega
end Go.Proofs.Ythfddndmhjkeiaa.L
end
section
/- The plain law of the erasure code, part D: what Encode tells. -/
namespace Go.Proofs.Ythfddndmhjkeiaa.L
open Go.RowKit Go.Proofs.YthfddndmhjkeiaaW.PrintWords Go.Proofs.YthfddndmhjkeiaaW.PrintLast Go.Proofs.YthfddndmhjkeiaaW.PrintMore
set_option linter.unusedVariables false
set_option linter.unusedSimpArgs false

/-- The length of the shards of size bytes. -/
def lenN (n size : Nat) : Nat := if size % n > 0 then size / n + 1 else size / n
theorem lenN_le {n size : Nat} (hn : 1 ≤ n) (hs : size ≤ 800) : lenN n size ≤ 801 := by
  unfold lenN
  have := Nat.div_le_self size n
  split <;> omega
theorem lenN_ge {n size : Nat} (hn : 1 ≤ n) : size ≤ lenN n size * n := by
  unfold lenN
  have h := Nat.div_add_mod size n
  have hm := Nat.mod_lt size (show n > 0 by omega)
  rw [Nat.mul_comm] at h
  split
  · rw [Nat.add_mul, Nat.one_mul]
    omega
  · omega
theorem lenN_top {n size : Nat} (hn : 1 ≤ n) (hn5 : n ≤ 16) (hs : size ≤ 800) : lenN n size * n ≤ 13000 := by
  have := Nat.mul_le_mul (lenN_le hn hs) hn5
  omega
theorem check_some {n a : Nat} (h1 : 1 ≤ n) (ha : n ≤ a) (h16 : a ≤ 16) : erasure_Check.f n a = some 0 := by
  unfold erasure_Check.f
  rw [if_neg (by omega), if_neg (by omega), if_neg (by omega)]
theorem length_some {n a size : Nat} (h1 : 1 ≤ n) (ha : n ≤ a) (h16 : a ≤ 16) (hs : size ≤ 800) : erasure_Length.f n a size = some ((lenN n size : Int), 0) := by
  unfold erasure_Length.f
  rw [check_some h1 ha h16]
  simp only [Option.bind_some, if_true]
  have e1 : Int.tmod (size : Int) (n : Int) = ((size % n : Nat) : Int) := Int.ofNat_tmod size n
  have e2 : Int.tdiv (size : Int) (n : Int) = ((size / n : Nat) : Int) := Int.ofNat_tdiv size n
  have hd := Nat.div_le_self size n
  rw [if_neg (by omega), if_neg (by omega), e1, e2]
  unfold lenN
  generalize size / n = q at hd ⊢
  have w1 : wrap64 (q : Int) = (q : Int) := w64 (by omega) (by omega)
  have w2 : wrap64 ((q : Int) + 1) = (q : Int) + 1 := w64 (by omega) (by omega)
  rw [w1, w2]
  by_cases hm : size % n > 0
  · rw [if_pos (by omega), if_neg (by omega), if_pos hm]
    rfl
  · rw [if_neg (by omega), if_neg (by omega), if_neg hm]
theorem repeatL_replicate (x : UInt8) : ∀ c, Lib.repeatL [x] c = List.replicate c x
  | 0 => rfl
  | c + 1 => by
    show [x] ++ Lib.repeatL [x] c = _
    rw [repeatL_replicate x c]
    rfl
theorem size_rep (c : Nat) : (⟨(List.replicate c (0 : UInt8)).toArray⟩ : ByteArray).size = c := by
  show (List.replicate c (0 : UInt8)).toArray.size = c
  rw [List.size_toArray, List.length_replicate]
theorem repeat_some {c : Nat} (h : c ≤ 100000) : strings_Repeat.f (⟨#[0]⟩ : ByteArray) (c : Int) = some ⟨(List.replicate c (0 : UInt8)).toArray⟩ := by
  unfold strings_Repeat.f
  have h1 : (⟨#[0]⟩ : ByteArray).size = 1 := rfl
  have h2 : (⟨#[0]⟩ : ByteArray).data.toList = [0] := rfl
  rw [Int.toNat_natCast, h1, h2, repeatL_replicate, if_pos ⟨by omega, by omega, by omega⟩]
/-- The data, filled up with noughts. -/
def padded (n : Nat) (s : ByteArray) : ByteArray := s ++ ⟨(List.replicate (lenN n s.size * n - s.size) (0 : UInt8)).toArray⟩
theorem padded_size {n : Nat} {s : ByteArray} (hn : 1 ≤ n) : (padded n s).size = lenN n s.size * n := by
  unfold padded
  rw [ByteArray.size_append]
  have h := lenN_ge (size := s.size) hn
  rw [size_rep]
  omega
def partN (L : Nat) (d : ByteArray) (j : Nat) : ByteArray := d.extract (j * L) ((j + 1) * L)
def partsN (n L : Nat) (d : ByteArray) : List ByteArray := (List.range n).map (partN L d)
theorem partsN_length (n L : Nat) (d : ByteArray) : (partsN n L d).length = n := by simp [partsN]
theorem partsN_getD {n L : Nat} {d : ByteArray} {j : Nat} (h : j < n) : (partsN n L d).getD j ByteArray.empty = partN L d j := by
  unfold partsN
  rw [List.getD_eq_getElem?_getD, List.getElem?_map, List.getElem?_range h]
  rfl
theorem partN_size {n L : Nat} {d : ByteArray} (hd : d.size = L * n) {j : Nat} (h : j < n) : (partN L d j).size = L := by
  unfold partN
  have : (j + 1) * L ≤ L * n := by rw [Nat.mul_comm L n]; exact Nat.mul_le_mul_right _ h
  rw [ByteArray.size_extract, hd, Nat.min_eq_left this, Nat.add_mul, Nat.one_mul]
  omega
theorem mulw {i n : Nat} (h : i * n ≤ 1000000) : wrap64 ((i : Int) * (n : Int)) = ((i * n : Nat) : Int) := by
  rw [← Int.natCast_mul, w64] <;> omega
theorem incw {i : Nat} (h : i ≤ 1000000) : wrap64 ((i : Int) + 1) = ((i + 1 : Nat) : Int) := (w64 (by omega) (by omega)).trans rfl
/-- Shard i. -/
def shardN (n a L : Nat) (d : ByteArray) (i : Nat) : S41 := ⟨(i : Int), strOfNums (accL (cut (rowsL n a) n i) (partsN n L d) L n)⟩
def shardsN (n a L : Nat) (d : ByteArray) : List S41 := (List.range a).map (shardN n a L d)
section
variable {n a L : Nat} {d : ByteArray}
theorem cut_el (hR : RowsOk n a) (i : Nat) : ∀ j, El ((cut (rowsL n a) n i).getD j 0) := by
  intro j
  refine elL_getD (fun x hx => hR.el x ?_) j
  unfold cut at hx
  exact List.mem_of_mem_take (List.mem_of_mem_drop hx)
theorem enc_shard (hR : RowsOk n a) (hn : n ≤ 16) (hL : L ≤ 801) (hd : d.size = L * n) {i : Nat} (hi : i < a) {k : Nat} (hk : 1000 ≤ k) : erasure_shard.f k (cut (rowsL n a) n i) (partsN n L d) (L : Int) = some (shardN n a L d i).f1 := by
  have hl := cutR_length hR hi
  have h := shard_some (row := cut (rowsL n a) n i) (parts := partsN n L d) (len := L) (fun j _ => cut_el hR i j) (by rw [hl, partsN_length]) (fun j hj => by rw [partsN_length] at hj; rw [partsN_getD hj, partN_size hd hj]) (by omega) (by omega) (k := k) (by omega)
  rw [hl] at h
  exact h
theorem enc_l1 (hR : RowsOk n a) (h1 : 1 ≤ n) (hn : n ≤ 16) (ha : a ≤ 16) (hL : L ≤ 801) (hd : d.size = L * n) : ∀ (m i k : Nat), i + m = a → m + 1001 ≤ k →
    erasure_Encode.l1 k (L : Int) (partsN n L d) ((List.range i).map (shardN n a L d)) (a : Int) (i : Int) (n : Int) (a : Int) (a : Int) (n : Int) (rowsL n a) = some (shardsN n a L d, 0)
  | 0, i, k, hi, hk => by
    obtain ⟨k, rfl⟩ : ∃ k', k = k' + 1 := ⟨k - 1, by omega⟩
    unfold erasure_Encode.l1
    obtain rfl : i = a := by omega
    rw [if_neg (by omega)]
    rfl
  | m + 1, i, k, hi, hk => by
    obtain ⟨k, rfl⟩ : ∃ k', k = k' + 1 := ⟨k - 1, by omega⟩
    have hb : (i + 1) * n ≤ a * n := Nat.mul_le_mul_right _ (by omega)
    have hb2 : a * n ≤ 16 * 16 := Nat.mul_le_mul ha hn
    have hb3 : i * n ≤ (i + 1) * n := Nat.mul_le_mul_right _ (by omega)
    unfold erasure_Encode.l1
    rw [if_pos (by omega), mulw (i := i) (n := n) (by omega), incw (by omega), mulw (i := i + 1) (n := n) (by omega), if_pos (by omega), if_pos (by omega), if_pos (by rw [hR.len]; omega), Int.toNat_natCast, Int.toNat_natCast]
    have hc : ((rowsL n a).take ((i + 1) * n)).drop (i * n) = cut (rowsL n a) n i := rfl
    rw [hc, enc_shard hR hn hL hd (show i < a by omega) (by omega)]
    simp only [Option.bind_some]
    rw [if_pos (by simp; omega)]
    have hs : (List.range i).map (shardN n a L d) ++ [(⟨(i : Int), (shardN n a L d i).f1⟩ : S41)] = (List.range (i + 1)).map (shardN n a L d) := by
      rw [List.range_succ, List.map_append]
      rfl
    rw [hs]
    exact enc_l1 hR h1 hn ha hL hd m (i + 1) k (by omega) (by omega)
theorem enc_l0 (hR : RowsOk n a) (h1 : 1 ≤ n) (hn : n ≤ 16) (ha : a ≤ 16) (hL : L ≤ 801) (hd : d.size = L * n) : ∀ (m j k : Nat), j + m = n → m + 1100 ≤ k →
    erasure_Encode.l0 k d (L : Int) ((List.range j).map (partN L d)) (n : Int) (j : Int) (n : Int) (a : Int) = some (shardsN n a L d, 0)
  | 0, j, k, hj, hk => by
    obtain ⟨k, rfl⟩ : ∃ k', k = k' + 1 := ⟨k - 1, by omega⟩
    unfold erasure_Encode.l0
    obtain rfl : j = n := by omega
    rw [if_neg (by omega), upk (fun k => erasure_rowsOf.mono _ _ k) (show 300 ≤ k by omega) hR.rows]
    simp only [Option.bind_some]
    exact enc_l1 hR h1 hn ha hL hd a 0 k (by omega) (by omega)
  | m + 1, j, k, hj, hk => by
    obtain ⟨k, rfl⟩ : ∃ k', k = k' + 1 := ⟨k - 1, by omega⟩
    have hb : (j + 1) * L ≤ L * n := by rw [Nat.mul_comm L n]; exact Nat.mul_le_mul_right _ (by omega)
    have hb2 : L * n ≤ 801 * 16 := Nat.mul_le_mul hL hn
    have hb3 : j * L ≤ (j + 1) * L := Nat.mul_le_mul_right _ (by omega)
    unfold erasure_Encode.l0
    rw [if_pos (by omega), mulw (i := j) (n := L) (by omega), incw (by omega), mulw (i := j + 1) (n := L) (by omega), if_pos (by omega), if_pos (by omega), if_pos (by rw [hd]; omega), if_pos (by simp; omega), Int.toNat_natCast, Int.toNat_natCast]
    have hs : (List.range j).map (partN L d) ++ [d.extract (j * L) ((j + 1) * L)] = (List.range (j + 1)).map (partN L d) := by
      rw [List.range_succ, List.map_append]
      rfl
    rw [hs]
    exact enc_l0 hR h1 hn ha hL hd m (j + 1) k (by omega) (by omega)
end
end Go.Proofs.Ythfddndmhjkeiaa.L
end
section
/- Encode as a whole. -/
namespace Go.Proofs.Ythfddndmhjkeiaa.L
open Go.RowKit Go.Proofs.YthfddndmhjkeiaaW.PrintWords Go.Proofs.YthfddndmhjkeiaaW.PrintLast Go.Proofs.YthfddndmhjkeiaaW.PrintMore
set_option linter.unusedVariables false
set_option linter.unusedSimpArgs false

theorem encode_some {n a : Nat} {s : ByteArray} (h1 : 1 ≤ n) (hn : n ≤ 16) (ha : n ≤ a) (ha4 : a ≤ 16) (hs : s.size ≤ 800) {k : Nat} (hk : 1200 ≤ k) : erasure_Encode.f k n a s = some (shardsN n a (lenN n s.size) (padded n s), 0) := by
  unfold erasure_Encode.f
  rw [length_some h1 ha (by omega) hs]
  rw [Option.bind_some, if_pos rfl]
  have hge := lenN_ge (size := s.size) h1
  have htop := lenN_top h1 hn hs
  have hw : wrap64 (wrap64 ((lenN n s.size : Int) * (n : Int)) - (s.size : Int)) = ((lenN n s.size * n - s.size : Nat) : Int) := by
    rw [mulw (by omega), w64 (by omega) (by omega)]
    omega
  rw [hw]
  rw [repeat_some (by omega), Option.bind_some, if_pos (by rw [size_rep]; omega)]
  have e := enc_l0 (rowsM_ok h1 ha ha4) h1 hn (by omega) (lenN_le h1 hs) (padded_size h1) n 0 k (by omega) (by omega)
  exact e
end Go.Proofs.Ythfddndmhjkeiaa.L
end
section
/- The plain law of the erasure code, part F: look, the sorted indices, Pick, Inverse. -/
namespace Go.Proofs.Ythfddndmhjkeiaa.L
open Go.RowKit Go.Proofs.YthfddndmhjkeiaaW.PrintWords Go.Proofs.YthfddndmhjkeiaaW.PrintLast Go.Proofs.YthfddndmhjkeiaaW.PrintMore
set_option linter.unusedVariables false
set_option linter.unusedSimpArgs false

/-- Shards of one code: in their bounds, all of one length, each once. -/
def Fit (a L : Nat) (l : List S41) : Prop := (∀ s, s ∈ l → 0 ≤ s.f0 ∧ s.f0 < (a : Int) ∧ s.f1.size = L) ∧ l.Pairwise (fun x y => x.f0 ≠ y.f0)
theorem lookAt_zero {a L : Nat} : ∀ (l : List S41) (seen : Nat → Bool), (∀ s, s ∈ l → 0 ≤ s.f0 ∧ s.f0 < (a : Int) ∧ s.f1.size = L ∧ seen s.f0.toNat = false) → l.Pairwise (fun x y => x.f0 ≠ y.f0) → lookAt a L l seen = 0
  | [], _, _, _ => rfl
  | x :: l, seen, h, hp => by
    obtain ⟨h1, h2, h3, h4⟩ := h x (List.mem_cons_self ..)
    have hp' := List.pairwise_cons.1 hp
    unfold lookAt
    rw [if_neg (by omega), if_neg (by omega), if_neg (by omega), if_neg (by rw [h4]; decide)]
    refine lookAt_zero l _ (fun s hs => ?_) hp'.2
    obtain ⟨b1, b2, b3, b4⟩ := h s (List.mem_cons_of_mem _ hs)
    have hne := hp'.1 s hs
    refine ⟨b1, b2, b3, ?_⟩
    rw [if_neg (by omega)]
    exact b4
theorem look_some {n a size : Nat} {l : List S41} (h1 : 1 ≤ n) (ha : n ≤ a) (h16 : a ≤ 16) (hs : size ≤ 800) (hf : Fit a (lenN n size) l) :
    erasure_look.f n a size l = if l.length < n then some (0, 14) else some ((lenN n size : Int), 0) := by
  unfold erasure_look.f
  rw [length_some h1 ha h16 hs, Option.bind_some, if_pos rfl, if_pos (lookAt_zero l _ (fun s hs => ⟨(hf.1 s hs).1, (hf.1 s hs).2.1, (hf.1 s hs).2.2, rfl⟩) hf.2)]
  by_cases h : l.length < n
  · rw [if_pos (by omega), if_pos h]
  · rw [if_neg (by omega), if_neg h]
theorem sortS_sorted (l : List S41) : (sortS l).Pairwise (fun x y => x.f0 ≤ y.f0) := by
  have h := List.pairwise_mergeSort (le := fun a b : S41 => decide (a.f0 ≤ b.f0)) (fun a b c h1 h2 => by simp only [decide_eq_true_eq] at *; omega) (fun a b => by simp only [Bool.or_eq_true, decide_eq_true_eq]; omega) l
  exact h.imp fun h => of_decide_eq_true h
def idxOf (l : List S41) (n : Nat) : List Nat := (usedS l n).map fun s => s.f0.toNat
theorem used_mem {l : List S41} {n : Nat} {s : S41} (h : s ∈ usedS l n) : s ∈ l := (sortS_perm l).mem_iff.1 (List.mem_of_mem_take h)
theorem used_length {l : List S41} {n : Nat} (h : n ≤ l.length) : (usedS l n).length = n := by
  unfold usedS
  rw [List.length_take, sortS_length]
  omega
theorem idx_facts {a L n : Nat} {l : List S41} (hf : Fit a L l) (hn : n ≤ l.length) : (idxOf l n).length = n ∧ (idxOf l n).Pairwise (· < ·) ∧ (∀ x, x ∈ idxOf l n → x < a) ∧ (usedS l n).map S41.f0 = (idxOf l n).map (fun i : Nat => (i : Int)) := by
  refine ⟨by unfold idxOf; rw [List.length_map, used_length hn], ?_, fun x hx => ?_, ?_⟩
  · unfold idxOf
    rw [List.pairwise_map]
    have h1 := sortS_sorted l
    have h2 : (sortS l).Pairwise (fun x y => x.f0 ≠ y.f0) := (List.Perm.pairwise_iff (fun {x y} (h : x.f0 ≠ y.f0) => Ne.symm h) (sortS_perm l)).2 hf.2
    have h3 := (h1.and h2).sublist (List.take_sublist n (sortS l))
    refine List.Pairwise.imp_of_mem ?_ h3
    intro x y hx hy hxy
    have e1 := hf.1 x (used_mem hx)
    have e2 := hf.1 y (used_mem hy)
    omega
  · unfold idxOf at hx
    obtain ⟨s, hs, rfl⟩ := List.mem_map.1 hx
    have := hf.1 s (used_mem hs)
    omega
  · unfold idxOf
    rw [List.map_map]
    refine List.map_congr_left fun s hs => ?_
    have := hf.1 s (used_mem hs)
    show s.f0 = ((s.f0.toNat : Nat) : Int)
    omega

/-! ### Pick -/
section
variable {n a : Nat}
theorem checkR (hR : RowsOk n a) (h1 : 1 ≤ n) (hn : n ≤ 16) (ha : n ≤ a) (ha4 : a ≤ 16) {k : Nat} (hk : 300 ≤ k) : matrix_Check.f k (a : Int) (n : Int) (rowsL n a) = some 0 := by
  have hb : a * n ≤ 16 * 16 := Nat.mul_le_mul (by omega) hn
  obtain ⟨k, rfl⟩ : ∃ k', k = k' + 1 := ⟨k - 1, by omega⟩
  unfold matrix_Check.f
  rw [if_neg (by omega), if_neg (by omega), if_neg (by omega)]
  have : decide ((n : Int) > 16) = false := decide_eq_false (by omega)
  rw [this]
  simp only [matrix_Check.j0, Bool.false_eq_true, if_false]
  rw [mulw (i := a) (n := n) (by omega), hR.len, if_pos rfl, ← hR.len]
  exact check_loop hR.el (by rw [hR.len]; omega) (a * n) k 0 (by omega) (by rw [hR.len]; omega) (by omega)
theorem pick_loop (hR : RowsOk n a) (h1 : 1 ≤ n) (hn : n ≤ 16) (ha : n ≤ a) (ha4 : a ≤ 16) {idx : List Nat} (hl : idx.length ≤ 16) (hx : ∀ x, x ∈ idx → x < a) : ∀ (m j k : Nat), j + m = idx.length → m + 1 ≤ k →
    matrix_Pick.l0 k (idx.map fun i : Nat => (i : Int)) (idx.length : Int) (j : Int) (a : Int) (n : Int) (rowsL n a) (idx.length : Int) (n : Int) (pickL n a (idx.take j)) = some ((idx.length : Int), (n : Int), pickL n a idx, 0)
  | 0, j, k, hj, hk => by
    obtain ⟨k, rfl⟩ : ∃ k', k = k' + 1 := ⟨k - 1, by omega⟩
    unfold matrix_Pick.l0
    rw [if_neg (by omega), List.take_of_length_le (by omega)]
  | m + 1, j, k, hj, hk => by
    obtain ⟨k, rfl⟩ : ∃ k', k = k' + 1 := ⟨k - 1, by omega⟩
    have hjl : j < idx.length := by omega
    have hxa := hx _ (List.getElem_mem hjl)
    have hrd : rd (idx.map fun i : Nat => (i : Int)) (j : Int) = ((idx[j] : Nat) : Int) := by
      unfold rd
      rw [Int.toNat_natCast, List.getD_eq_getElem?_getD, List.getElem?_map, List.getElem?_eq_getElem hjl]
      rfl
    have htk : idx.take (j + 1) = idx.take j ++ [idx[j]] := by
      rw [List.take_add_one, List.getElem?_eq_getElem hjl]
      rfl
    generalize idx[j] = q at hxa hrd htk
    have hb : (q + 1) * n ≤ a * n := Nat.mul_le_mul_right _ (by omega)
    have hb2 : a * n ≤ 16 * 16 := Nat.mul_le_mul (by omega) hn
    have hb3 : q * n ≤ (q + 1) * n := Nat.mul_le_mul_right _ (by omega)
    unfold matrix_Pick.l0
    rw [if_pos (by omega), if_pos (by omega), if_pos (by rw [List.length_map]; omega), hrd, if_neg (by omega), if_neg (by omega), mulw (i := q) (n := n) (by omega), incw (by omega), mulw (i := q + 1) (n := n) (by omega), if_pos (by omega), if_pos (by omega), if_pos (by rw [hR.len]; omega), Int.toNat_natCast, Int.toNat_natCast, incw (by omega)]
    have hc : ((rowsL n a).take ((q + 1) * n)).drop (q * n) = cut (rowsL n a) n q := rfl
    rw [hc, cutR_length hR hxa]
    have hpl : (pickL n a (idx.take j)).length ≤ 16 * n := by
      have : ∀ l : List Nat, (∀ x, x ∈ l → x < a) → (pickL n a l).length = l.length * n := by
        intro l
        induction l with
        | nil => intro _; simp [pickL]
        | cons y l ih =>
          intro h
          unfold pickL at ih ⊢
          rw [List.flatMap_cons, List.length_append, cutR_length hR (h y (List.mem_cons_self ..)), ih fun x hx' => h x (List.mem_cons_of_mem _ hx'), List.length_cons, Nat.add_mul, Nat.one_mul]
          omega
      rw [this _ fun x hx' => hx x (List.mem_of_mem_take hx'), List.length_take]
      exact Nat.mul_le_mul_right _ (by omega)
    rw [if_pos (by omega)]
    have hp : pickL n a (idx.take j) ++ cut (rowsL n a) n q = pickL n a (idx.take (j + 1)) := by
      rw [htk]
      unfold pickL
      rw [List.flatMap_append]
      simp
    rw [hp]
    exact pick_loop hR h1 hn ha ha4 hl hx m (j + 1) k (by omega) (by omega)
theorem pick_some (hR : RowsOk n a) (h1 : 1 ≤ n) (hn : n ≤ 16) (ha : n ≤ a) (ha4 : a ≤ 16) {idx : List Nat} (hl1 : 1 ≤ idx.length) (hl : idx.length ≤ 16) (hx : ∀ x, x ∈ idx → x < a) {k : Nat} (hk : 400 ≤ k) : matrix_Pick.f k (a : Int) (n : Int) (rowsL n a) (idx.map fun i : Nat => (i : Int)) = some ((idx.length : Int), (n : Int), pickL n a idx, 0) := by
  unfold matrix_Pick.f
  rw [checkR hR h1 hn ha ha4 (by omega), Option.bind_some, if_pos rfl, List.length_map, if_neg (by omega)]
  have : decide ((idx.length : Int) > 16) = false := decide_eq_false (by omega)
  rw [this]
  obtain ⟨k, rfl⟩ : ∃ k', k = k' + 1 := ⟨k - 1, by omega⟩
  simp only [matrix_Pick.j0, Bool.false_eq_true, if_false]
  rw [List.length_map]
  exact pick_loop hR h1 hn ha ha4 hl hx idx.length 0 k (by omega) (by omega)
end
theorem inverse_some {n a : Nat} {idx : List Nat} (h1 : 1 ≤ n) (hn : n ≤ 16) (hI : InvOk n a idx) (hp : (pickL n a idx).length = n * n) (hpe : ElL (pickL n a idx)) : matrix_Inverse.f (n : Int) (n : Int) (pickL n a idx) = some ((n : Int), (n : Int), invL n (pickL n a idx), 0) := by
  unfold matrix_Inverse.f
  rw [if_pos ⟨by omega, by omega, rfl, by rw [hp, Int.natCast_mul], hpe⟩, Int.toNat_natCast, hI.full, if_neg (by omega)]
  rfl
end Go.Proofs.Ythfddndmhjkeiaa.L
end
section
/- The plain law of the erasure code, part G: what Decode tells of the shards of one content. -/
namespace Go.Proofs.Ythfddndmhjkeiaa.L
open Go.RowKit Go.Proofs.YthfddndmhjkeiaaW.PrintWords Go.Proofs.YthfddndmhjkeiaaW.PrintLast Go.Proofs.YthfddndmhjkeiaaW.PrintMore
set_option linter.unusedVariables false
set_option linter.unusedSimpArgs false

theorem strOfNums_bt {s : ByteArray} {L : Nat} (h : s.size = L) {F : Nat → Int} (hF : ∀ t, t < L → F t = bt s (t : Int)) : strOfNums ((List.range L).map F) = s := by
  apply ByteArray.ext
  apply Array.ext'
  show ((List.range L).map F).map (fun n => UInt8.ofNat n.toNat) = s.data.toList
  apply List.ext_getElem?
  intro t
  have hs : s.data.toList.length = L := by rw [Array.length_toList]; exact h
  by_cases ht : t < L
  · rw [List.map_map, List.getElem?_map, List.getElem?_range ht, List.getElem?_eq_getElem (by omega)]
    simp only [Option.map_some, Function.comp]
    rw [hF t ht]
    unfold bt
    rw [dif_pos (by rw [Int.toNat_natCast, h]; exact ht), Int.toNat_natCast, UInt8.ofNat_toNat]
    rfl
  · rw [List.getElem?_eq_none (by simp; omega), List.getElem?_eq_none (by omega)]
section
variable {n a L : Nat} {d : ByteArray} {part : List S41}
theorem shardN_fit (hmem : ∀ x, x ∈ part → ∃ i, i < a ∧ x = shardN n a L d i) (hd : part.Pairwise (fun x y => x.f0 ≠ y.f0)) : Fit a L part := by
  refine ⟨fun s hs => ?_, hd⟩
  obtain ⟨i, hi, rfl⟩ := hmem s hs
  refine ⟨by show 0 ≤ (i : Int); omega, by show (i : Int) < a; omega, ?_⟩
  show (strOfNums _).size = L
  rw [strOfNums_size, accL_length]
theorem used_eq (hmem : ∀ x, x ∈ part → ∃ i, i < a ∧ x = shardN n a L d i) : (usedS part n).map S41.f1 = (idxOf part n).map (fun i => (shardN n a L d i).f1) := by
  unfold idxOf
  rw [List.map_map]
  refine List.map_congr_left fun s hs => ?_
  obtain ⟨i, hi, rfl⟩ := hmem s (used_mem hs)
  rfl
theorem nib_back (hR : RowsOk n a) {idx : List Nat} (hl : idx.length = n) (hx : ∀ x, x ∈ idx → x < a) (hI : InvOk n a idx) (hn : n ≤ 16) (hL : L ≤ 801) (hd : d.size = L * n) (N : Int → Int) (hN : ∀ b, By b → El (N b)) (hacc : ∀ (row : List Int) (parts : List ByteArray) (t j : Nat), (∀ i, i < j → El (row.getD i 0)) → N (accB row parts t j) = gsum j (fun i => gm (row.getD i 0) (N (bt (parts.getD i ByteArray.empty) (t : Int)))))
    {i t : Nat} (hi : i < n) (ht : t < L) : N (accB (cut (invL n (pickL n a idx)) n i) (idx.map (fun i => (shardN n a L d i).f1)) t n) = N (bt (partN L d i) (t : Int)) := by
  have hq : ∀ l, El ((cut (invL n (pickL n a idx)) n i).getD l 0) := fun l => elL_getD (fun x hx' => hI.el x (by unfold cut at hx'; exact List.mem_of_mem_take (List.mem_of_mem_drop hx'))) l
  rw [hacc _ _ _ _ fun l _ => hq l]
  have e1 : (gsum n fun l => gm ((cut (invL n (pickL n a idx)) n i).getD l 0) (N (bt ((idx.map (fun i => (shardN n a L d i).f1)).getD l ByteArray.empty) (t : Int)))) =
      gsum n fun l => gm ((invL n (pickL n a idx)).getD (i * n + l) 0) (gsum n fun j => gm ((pickL n a idx).getD (l * n + j) 0) (N (bt (partN L d j) (t : Int)))) := by
    refine gsum_congr n fun l hll => ?_
    have hll' : l < idx.length := by omega
    rw [cut_getD hi hll]
    congr 1
    have hpart : (idx.map (fun i => (shardN n a L d i).f1)).getD l ByteArray.empty = strOfNums (accL (cut (rowsL n a) n idx[l]) (partsN n L d) L n) := by
      rw [List.getD_eq_getElem?_getD, List.getElem?_map, List.getElem?_eq_getElem hll']
      rfl
    have hby := accB_by (row := cut (rowsL n a) n idx[l]) (parts := partsN n L d) t n fun j _ => cut_el hR _ j
    rw [hpart, bt_strOfNums (by rw [accL_length]; exact ht) (by rw [accL_getD _ _ _ ht]; exact hby.1), accL_getD _ _ _ ht, hacc _ _ _ _ fun j _ => cut_el hR _ j]
    refine gsum_congr n fun j hj => ?_
    rw [pickL_getD hR idx l j hx hll' hj, partsN_getD hj]
  rw [e1]
  exact back (Q := fun i l => (invL n (pickL n a idx)).getD (i * n + l) 0) (P := fun l j => (pickL n a idx).getD (l * n + j) 0) (x := fun j => N (bt (partN L d j) (t : Int))) (fun i j _ _ => elL_getD hI.el _) (fun i j _ _ => elL_getD (pickL_el hR idx) _) (fun j _ => hN _ (bt_by _ _)) hI.one hi
theorem dec_shard (hR : RowsOk n a) {idx : List Nat} (hl : idx.length = n) (hx : ∀ x, x ∈ idx → x < a) (hI : InvOk n a idx) (hn : n ≤ 16) (hL : L ≤ 801) (hd : d.size = L * n) {i : Nat} (hi : i < n) : erasure_shard.f KK (cut (invL n (pickL n a idx)) n i) (idx.map (fun i => (shardN n a L d i).f1)) (L : Int) = some (partN L d i) := by
  have hc : (cut (invL n (pickL n a idx)) n i).length = n := cut_length hI.len hi
  have hq : ∀ l, El ((cut (invL n (pickL n a idx)) n i).getD l 0) := fun l => elL_getD (fun x hx' => hI.el x (by unfold cut at hx'; exact List.mem_of_mem_take (List.mem_of_mem_drop hx'))) l
  have h := shard_some (row := cut (invL n (pickL n a idx)) n i) (parts := idx.map (fun i => (shardN n a L d i).f1)) (len := L) (fun j _ => hq j) (by rw [hc, List.length_map, hl]) (fun j hj => by
    rw [List.length_map] at hj
    rw [List.getD_eq_getElem?_getD, List.getElem?_map, List.getElem?_eq_getElem hj]
    show (strOfNums _).size = L
    rw [strOfNums_size, accL_length]) (by omega) (by omega) (k := KK) (by unfold KK; omega)
  rw [h, hc]
  congr 1
  refine strOfNums_bt (partN_size hd hi) fun t ht => ?_
  have hby := accB_by (row := cut (invL n (pickL n a idx)) n i) (parts := idx.map (fun i => (shardN n a L d i).f1)) t n fun j _ => hq j
  refine nib_ext hby.1 (bt_by _ _) ?_ ?_
  · exact nib_back hR hl hx hI hn hL hd lo (fun b hb => lo_el hb) (fun row parts t j h => (accB_by t j h).2.1) hi ht
  · exact nib_back hR hl hx hI hn hL hd Go.Proofs.Ythfddndmhjkeiaa.L.hi (fun b hb => hi_el hb) (fun row parts t j h => (accB_by t j h).2.2) hi ht
theorem dec_to (hR : RowsOk n a) {idx : List Nat} (hl : idx.length = n) (hx : ∀ x, x ∈ idx → x < a) (hI : InvOk n a idx) (hn : n ≤ 16) (hL : L ≤ 801) (hd : d.size = L * n) : ∀ i, i ≤ n → decodeTo (invL n (pickL n a idx)) n (idx.map (fun i => (shardN n a L d i).f1)) (L : Int) i = some (d.data.toList.take (i * L))
  | 0, _ => by
    unfold decodeTo
    rw [Nat.zero_mul]
    rfl
  | i + 1, hi => by
    have hdl : d.data.toList.length = L * n := by rw [Array.length_toList]; exact hd
    have hb : (i + 1) * L ≤ L * n := by rw [Nat.mul_comm L n]; exact Nat.mul_le_mul_right _ hi
    have hb2 : L * n ≤ 801 * 16 := Nat.mul_le_mul hL hn
    unfold decodeTo
    rw [dec_to hR hl hx hI hn hL hd i (by omega), Option.bind_some, dec_shard hR hl hx hI hn hL hd (show i < n from hi), Option.bind_some, partN_size hd (show i < n from hi), if_pos (by rw [List.length_take]; omega)]
    congr 1
    have e : (partN L d i).data.toList = (d.data.toList.drop (i * L)).take L := by
      unfold partN
      rw [ByteArray.data_extract, Array.toList_extract, List.extract_eq_take_drop, Nat.add_mul, Nat.one_mul, Nat.add_sub_cancel_left]
    rw [e, Nat.add_mul, Nat.one_mul, List.take_add]
end
theorem padded_back (n : Nat) (s : ByteArray) : (⟨(padded n s).data.toList.toArray⟩ : ByteArray).extract 0 s.size = s := by
  apply ByteArray.ext
  apply Array.ext'
  rw [ByteArray.data_extract, Array.toList_extract, List.extract_eq_take_drop]
  unfold padded
  rw [ByteArray.data_append]
  simp
end Go.Proofs.Ythfddndmhjkeiaa.L
end
section
/- The plain law of the erasure code, part H: Decode as a whole; the deck. -/
namespace Go.Proofs.Ythfddndmhjkeiaa.L
open Go.RowKit Go.Proofs.YthfddndmhjkeiaaW.PrintWords Go.Proofs.YthfddndmhjkeiaaW.PrintLast Go.Proofs.YthfddndmhjkeiaaW.PrintMore
set_option linter.unusedVariables false
set_option linter.unusedSimpArgs false

theorem decode_some {n a : Nat} {s : ByteArray} (h1 : 1 ≤ n) (hn : n ≤ 16) (ha : n ≤ a) (ha4 : a ≤ 16) (hs : s.size ≤ 800) {part : List S41} (hmem : ∀ x, x ∈ part → ∃ i, i < a ∧ x = shardN n a (lenN n s.size) (padded n s) i) (hd : part.Pairwise (fun x y => x.f0 ≠ y.f0)) (hlen : n ≤ part.length) :
    erasure_Decode.f n a s.size part = some (s, 0) := by
  have hf := shardN_fit hmem hd
  obtain ⟨f1, f2, f3, f4⟩ := idx_facts hf hlen
  have hR := rowsM_ok h1 ha ha4
  have hI := inv_ok h1 ha ha4 f1 f2 f3
  have hpl : (pickL n a (idxOf part n)).length = n * n := by rw [pickL_length hR _ f3, f1]
  have hL := lenN_le h1 hs
  have hsz := padded_size (s := s) h1
  have hge := lenN_ge (size := s.size) h1
  have hpick := pick_some hR h1 hn ha ha4 (idx := idxOf part n) (by omega) (by omega) f3 (k := KK) (by unfold KK; omega)
  rw [f1] at hpick
  have hdec := dec_to (L := lenN n s.size) (d := padded n s) hR f1 f3 hI hn hL hsz n (Nat.le_refl _)
  have hdl : (padded n s).data.toList.length = lenN n s.size * n := by rw [Array.length_toList]; exact hsz
  rw [List.take_of_length_le (by rw [hdl, Nat.mul_comm]; exact Nat.le_refl _)] at hdec
  unfold erasure_Decode.f
  rw [look_some h1 ha (by omega) hs hf, if_neg (by omega), Option.bind_some, if_pos rfl, upk (fun k => erasure_rowsOf.mono _ _ k) (show 300 ≤ KK by unfold KK; omega) hR.rows, Option.bind_some, Int.toNat_natCast, f4, hpick, Option.bind_some, inverse_some h1 hn hI hpl (pickL_el hR _), Option.bind_some, if_pos hI.len, used_eq hmem, hdec, Option.bind_some, if_pos (by rw [hdl]; omega), Int.toNat_natCast, padded_back]
theorem decode_few {n a : Nat} {s : ByteArray} (h1 : 1 ≤ n) (hn : n ≤ 16) (ha : n ≤ a) (ha4 : a ≤ 16) (hs : s.size ≤ 800) {part : List S41} (hmem : ∀ x, x ∈ part → ∃ i, i < a ∧ x = shardN n a (lenN n s.size) (padded n s) i) (hd : part.Pairwise (fun x y => x.f0 ≠ y.f0)) (hlen : part.length < n) :
    erasure_Decode.f n a s.size part = some (⟨#[]⟩, 14) := by
  unfold erasure_Decode.f
  rw [look_some h1 ha (by omega) hs (shardN_fit hmem hd), if_pos hlen, Option.bind_some, if_neg (by decide)]

/-! ### the deck -/
theorem next_some {l : List Int} {s m : Int} (hl : l.length ≤ 1000000) (hs : 0 ≤ s) (hm : 1 ≤ m) (hm2 : m ≤ 1000000) : ∃ r s', storagebartermake_Deck_Next.f l s m = some (r, s') ∧ 0 ≤ r ∧ r < m ∧ 0 ≤ s' := by
  unfold storagebartermake_Deck_Next.f
  rw [if_neg (by omega)]
  by_cases h : s ≥ (l.length : Int)
  · rw [if_pos h]
    exact ⟨0, s, rfl, by omega, by omega, hs⟩
  · rw [if_neg h, if_pos hs, if_pos (by omega)]
    unfold storagebartermake_Mod.f
    rw [if_neg (by omega), Option.bind_some]
    have h1 := Int.tmod_lt_of_pos (rd l s) (show 0 < m by omega)
    have h2 : -m < Int.tmod (rd l s) m := by
      have := Int.lt_tmod_of_pos (rd l s) (show 0 < m by omega)
      omega
    rw [w64 (x := Int.tmod (rd l s) m + m) (by omega) (by omega), w64 (x := s + 1) (by omega) (by omega)]
    exact ⟨_, _, rfl, Int.tmod_nonneg _ (by omega), Int.tmod_lt_of_pos _ (by omega), by omega⟩
/-! ### some -/
theorem without_perm {l : List S41} {i : Nat} (h : i < l.length) : (l[i] :: without l i).Perm l := by
  unfold without
  have e : l = l.take i ++ l[i] :: l.drop (i + 1) := by
    rw [← List.drop_eq_getElem_cons h, List.take_append_drop]
  refine List.Perm.trans ?_ (List.Perm.of_eq e.symm)
  exact List.perm_middle.symm
theorem someAt_ok {deck : List Int} {n : Nat} (hdk : deck.length ≤ 1000000) : ∀ (k : Nat) (rest out : List S41) (s : Int), rest.length < k → rest.length ≤ 1000000 → 0 ≤ s → out.length ≤ n → (out ++ rest).Pairwise (fun x y => x.f0 ≠ y.f0) →
    ∃ out' s', someAt deck n k rest out s = some (out', s') ∧ (∀ x, x ∈ out' → x ∈ out ++ rest) ∧ out'.Pairwise (fun x y => x.f0 ≠ y.f0) ∧ out'.length = min n (out.length + rest.length)
  | 0, rest, out, s, h, _, _, _, _ => by omega
  | k + 1, rest, out, s, h, hr, hs, ho, hp => by
    unfold someAt
    by_cases hc : (out.length : Int) < (n : Int) ∧ 0 < rest.length
    · rw [if_pos hc]
      obtain ⟨r, s', e, h0, h1, h2⟩ := next_some (l := deck) (s := s) (m := (rest.length : Int)) hdk hs (by omega) (by omega)
      rw [e, Option.bind_some, if_pos ⟨h0, h1⟩]
      obtain ⟨i, rfl⟩ : ∃ i : Nat, r = (i : Int) := ⟨r.toNat, by omega⟩
      rw [Int.toNat_natCast]
      have hi : i < rest.length := by omega
      have hx : rd_T41 rest (i : Int) = rest[i] := by
        unfold rd_T41
        rw [Int.toNat_natCast, List.getD_eq_getElem?_getD, List.getElem?_eq_getElem hi]
        rfl
      rw [hx]
      have hperm : ((out ++ [rest[i]]) ++ without rest i).Perm (out ++ rest) := by
        rw [List.append_assoc]
        exact List.Perm.append_left out (without_perm hi)
      have hwl := without_length hi
      obtain ⟨out', s'', e2, a1, a2, a3⟩ := someAt_ok (n := n) hdk k (without rest i) (out ++ [rest[i]]) s' (by omega) (by omega) h2 (by rw [List.length_append, List.length_singleton]; omega) ((List.Perm.pairwise_iff (fun {x y} (h : x.f0 ≠ y.f0) => Ne.symm h) hperm).2 hp)
      refine ⟨out', s'', e2, fun x hx' => hperm.mem_iff.1 (a1 x hx'), a2, ?_⟩
      rw [a3, List.length_append, List.length_singleton, hwl]
      omega
    · rw [if_neg hc]
      refine ⟨out, s, rfl, fun x hx => List.mem_append_left _ hx, (List.pairwise_append.1 hp).1, ?_⟩
      omega
end Go.Proofs.Ythfddndmhjkeiaa.L
end
section
/- The plain law, part S: what the rows share: all shards, the code that is drawn. -/
namespace Go.Proofs.Ythfddndmhjkeiaa.Pure
open Go.RowKit Go.Proofs.Ythfddndmhjkeiaa.L Go.Proofs.YthfddndmhjkeiaaW.PrintWords Go.Proofs.YthfddndmhjkeiaaW.PrintLast Go.Proofs.YthfddndmhjkeiaaW.PrintMore
set_option linter.unusedVariables false
set_option linter.unusedSimpArgs false

theorem shardsN_length (n a L : Nat) (d : ByteArray) : (shardsN n a L d).length = a := by simp [shardsN]
theorem shardsN_mem {n a L : Nat} {d : ByteArray} {x : S41} (h : x ∈ shardsN n a L d) : ∃ i, i < a ∧ x = shardN n a L d i := by
  unfold shardsN at h
  obtain ⟨i, hi, rfl⟩ := List.mem_map.1 h
  exact ⟨i, List.mem_range.1 hi, rfl⟩
theorem shardsN_pw (n a L : Nat) (d : ByteArray) : (shardsN n a L d).Pairwise (fun x y => x.f0 ≠ y.f0) := by
  unfold shardsN
  rw [List.pairwise_map]
  refine List.pairwise_lt_range.imp ?_
  intro i j h
  show (i : Int) ≠ (j : Int)
  omega
theorem shardsN_rd {n a L : Nat} {d : ByteArray} {i : Nat} (h : i < a) : rd_T41 (shardsN n a L d) (i : Int) = shardN n a L d i := by
  unfold rd_T41 shardsN
  rw [Int.toNat_natCast, List.getD_eq_getElem?_getD, List.getElem?_map, List.getElem?_range h]
  rfl
theorem code_some {l0 : List Int} (hf : l0.length ≤ 500) : ∃ (n a : Nat) (p : Int), 1 ≤ n ∧ n ≤ 5 ∧ n ≤ a ∧ a ≤ n + 4 ∧ 0 ≤ p ∧ storagebartermake_Code.f l0 0 = some ((n : Int), (a : Int), p) := by
  obtain ⟨x, p1, e1, x0, x1, hp1⟩ := next_some (l := l0) (s := 0) (m := 5) (by omega) (by omega) (by omega) (by omega)
  obtain ⟨y, p2, e2, y0, y1, hp2⟩ := next_some (l := l0) (s := p1) (m := 5) (by omega) hp1 (by omega) (by omega)
  obtain ⟨n, hn⟩ : ∃ n : Nat, 1 + x = (n : Int) := ⟨(1 + x).toNat, by omega⟩
  obtain ⟨a, ha⟩ : ∃ a : Nat, (n : Int) + y = (a : Int) := ⟨((n : Int) + y).toNat, by omega⟩
  have w1 : wrap64 (1 + x) = (n : Int) := (w64 (by omega) (by omega)).trans hn
  have w2 : wrap64 ((n : Int) + y) = (a : Int) := (w64 (by omega) (by omega)).trans ha
  refine ⟨n, a, p2, by omega, by omega, by omega, by omega, hp2, ?_⟩
  unfold storagebartermake_Code.f
  rw [e1, Option.bind_some]
  simp only
  rw [e2, Option.bind_some, w1, w2]
theorem some_some {deck : List Int} {pos : Int} {n : Nat} {l : List S41} (hdk : deck.length ≤ 500) (hpos : 0 ≤ pos) (hl : l.length ≤ 1000000) (hp : l.Pairwise (fun x y => x.f0 ≠ y.f0)) :
    ∃ part p', storagebarterlaw13_some.f deck pos l n = some (part, p') ∧ (∀ x, x ∈ part → x ∈ l) ∧ part.Pairwise (fun x y => x.f0 ≠ y.f0) ∧ part.length = min n l.length := by
  obtain ⟨part, p', e, q1, q2, q3⟩ := someAt_ok (deck := deck) (n := n) (by omega) (l.length + 1) l [] pos (by omega) hl hpos (by simp) hp
  refine ⟨part, p', ?_, fun x hx => ?_, q2, ?_⟩
  · unfold storagebarterlaw13_some.f
    rw [if_pos hl]
    exact e
  · have := q1 x hx
    simpa using this
  · rw [q3]
    simp
theorem without_sublist (l : List S41) (i : Nat) : (without l i).Sublist l := by
  unfold without
  have h : (l.take i ++ l.drop (i + 1)).Sublist (l.take i ++ l.drop i) := List.Sublist.append (List.Sublist.refl _) (by rw [← List.drop_drop]; exact List.drop_sublist _ _)
  rwa [List.take_append_drop] at h
theorem repair_some {n a i : Nat} {s : ByteArray} (h1 : 1 ≤ n) (hn : n ≤ 16) (ha : n ≤ a) (ha4 : a ≤ 16) (hs : s.size ≤ 800) {part : List S41} (hmem : ∀ x, x ∈ part → ∃ i, i < a ∧ x = shardN n a (lenN n s.size) (padded n s) i) (hd : part.Pairwise (fun x y => x.f0 ≠ y.f0)) (hlen : n ≤ part.length) (hi : i < a) {k : Nat} (hk : 1300 ≤ k) :
    erasure_Repair.f k n a s.size part i = some ((i : Int), (shardN n a (lenN n s.size) (padded n s) i).f1, 0) := by
  obtain ⟨k, rfl⟩ : ∃ k', k = k' + 1 := ⟨k - 1, by omega⟩
  unfold erasure_Repair.f
  rw [decode_some h1 hn ha ha4 hs hmem hd hlen, Option.bind_some, if_pos rfl, if_neg (by omega), erasure_Repair.j0, if_neg (by rw [decide_eq_false (by omega)]; decide), encode_some h1 hn ha ha4 hs (by omega), Option.bind_some, if_pos rfl, if_pos (by omega)]
  simp only
  rw [shardsN_length, if_pos (by omega), shardsN_rd hi]
  rfl
end Go.Proofs.Ythfddndmhjkeiaa.Pure
end
section
/- The plain law of stripes, part 1: digests, right shards, kept shards, the sealed bytes, Make. -/
namespace Go.Proofs.Ythfddndmhjkeiaa.Pure
open Go.RowKit Go.Proofs.Ythfddndmhjkeiaa.L Go.Proofs.YthfddndmhjkeiaaW.PrintWords Go.Proofs.YthfddndmhjkeiaaW.PrintLast Go.Proofs.YthfddndmhjkeiaaW.PrintMore
set_option linter.unusedVariables false
set_option linter.unusedSimpArgs false

/-! ### the digest -/
def dsum (s : ByteArray) : Int := (digest_Sum.f (s.size + 2) s).getD 0
theorem sum_loop {s : ByteArray} (hs : s.size ≤ 1000000) : ∀ (m t k : Nat) (d : Int), t + m = s.size → m + 1 ≤ k → 0 ≤ d → d < 2147483647 → ∃ r, digest_Sum.l0 k s d (s.size : Int) (t : Int) = some r ∧ 0 ≤ r ∧ r < 2147483647
  | 0, t, k, d, ht, hk, h0, h1 => by
    obtain ⟨k, rfl⟩ : ∃ k', k = k' + 1 := ⟨k - 1, by omega⟩
    unfold digest_Sum.l0
    rw [if_neg (by omega)]
    exact ⟨d, rfl, h0, h1⟩
  | m + 1, t, k, d, ht, hk, h0, h1 => by
    obtain ⟨k, rfl⟩ : ∃ k', k = k' + 1 := ⟨k - 1, by omega⟩
    have hb := bt_range s (t : Int)
    unfold digest_Sum.l0
    rw [if_pos (by omega), if_pos (by omega), if_pos (by omega), incw (by omega), w64 (x := d * 1000003) (by omega) (by omega), w64 (x := bt s (t : Int)) (by omega) (by omega), w64 (x := d * 1000003 + bt s (t : Int)) (by omega) (by omega), w64 (x := d * 1000003 + bt s (t : Int) + 1) (by omega) (by omega)]
    exact sum_loop hs m (t + 1) k _ (by omega) (by omega) (Int.tmod_nonneg _ (by omega)) (Int.tmod_lt_of_pos _ (by omega))
theorem sum_some {s : ByteArray} (hs : s.size ≤ 1000000) {k : Nat} (hk : s.size + 2 ≤ k) : digest_Sum.f k s = some (dsum s) ∧ 0 ≤ dsum s ∧ dsum s < 2147483647 := by
  obtain ⟨r, e, h0, h1⟩ := sum_loop hs s.size 0 (s.size + 2) 1 (by omega) (by omega) (by omega) (by omega)
  have e2 : digest_Sum.f (s.size + 2) s = some r := e
  have e3 : dsum s = r := by unfold dsum; rw [e2]; rfl
  rw [e3]
  exact ⟨upk (fun k => digest_Sum.mono _ k) hk e2, h0, h1⟩

/-! ### right shards -/
def rightB (n a sz : Nat) (dg : List Int) (x : S41) : Bool := decide (0 ≤ x.f0) && (decide (x.f0 < (a : Int)) && (decide ((x.f1.size : Int) = (lenN n sz : Int)) && (dsum x.f1 == rd dg x.f0)))
section
variable {n a sz : Nat} {dg : List Int}
theorem right_some' (h1 : 1 ≤ n) (ha : n ≤ a) (h16 : a ≤ 16) (hs : sz ≤ 800) (hdg : dg.length = a) (x : S41) {k : Nat} (hk : 900 ≤ k ∨ x.f1.size + 2 ≤ k) : stripe_right.f k n a sz dg x.f0 x.f1 = some (rightB n a sz dg x) := by
  have hL := lenN_le (n := n) h1 hs
  unfold stripe_right.f rightB
  rw [length_some h1 ha h16 hs, Option.bind_some]
  by_cases c1 : x.f0 ≥ 0
  · rw [if_pos c1, decide_eq_true (show 0 ≤ x.f0 from c1), Bool.true_and]
    by_cases c2 : x.f0 < (a : Int)
    · rw [if_pos c2, decide_eq_true c2, Bool.true_and]
      by_cases c3 : (x.f1.size : Int) = (lenN n sz : Int)
      · rw [if_pos c3, decide_eq_true c3, Bool.true_and, (sum_some (s := x.f1) (k := k) (by omega) (by omega)).1, Option.bind_some, if_pos (by omega)]
      · rw [if_neg c3, decide_eq_false c3, Bool.false_and]
    · rw [if_neg c2, decide_eq_false c2, Bool.false_and]
  · rw [if_neg c1, decide_eq_false (show ¬ 0 ≤ x.f0 from c1), Bool.false_and]
theorem right_some (h1 : 1 ≤ n) (ha : n ≤ a) (h16 : a ≤ 16) (hs : sz ≤ 800) (hdg : dg.length = a) (x : S41) {k : Nat} (hx : x.f1.size ≤ 1000000) (hk : x.f1.size + 2 ≤ k) : stripe_right.f k n a sz dg x.f0 x.f1 = some (rightB n a sz dg x) := right_some' h1 ha h16 hs hdg x (.inr hk)
theorem keptAt_filter (h1 : 1 ≤ n) (ha : n ≤ a) (h16 : a ≤ 16) (hs : sz ≤ 800) (hdg : dg.length = a) : ∀ (l : List S41) (seen : List Int), (l.filter (rightB n a sz dg)).Pairwise (fun x y => x.f0 ≠ y.f0) → (∀ x, x ∈ l.filter (rightB n a sz dg) → x.f0 ∉ seen) → keptAt n a sz dg l seen = some (l.filter (rightB n a sz dg))
  | [], _, _, _ => rfl
  | x :: l, seen, hp, hn => by
    have hR := right_some' h1 ha h16 hs hdg x (.inr (Nat.le_refl _))
    unfold keptAt
    rw [hR, Option.bind_some]
    by_cases hr : rightB n a sz dg x = true
    · rw [List.filter_cons_of_pos hr] at hp hn ⊢
      have hp' := List.pairwise_cons.1 hp
      rw [if_neg (hn x (List.mem_cons_self ..)), if_pos hr, keptAt_filter h1 ha h16 hs hdg l (x.f0 :: seen) hp'.2 fun y hy => ?_]
      · rfl
      · intro hc
        rcases List.mem_cons.1 hc with e | e
        · exact hp'.1 y hy e.symm
        · exact hn y (List.mem_cons_of_mem _ hy) e
    · rw [List.filter_cons_of_neg hr] at hp hn ⊢
      rw [if_neg hr]
      have ih := keptAt_filter h1 ha h16 hs hdg l seen hp hn
      rw [ih]
      split <;> rfl
theorem kept_some' (h1 : 1 ≤ n) (ha : n ≤ a) (h16 : a ≤ 16) (hs : sz ≤ 800) (hdg : dg.length = a) {l : List S41} (hl : l.length ≤ 5864062014650) (hw : ∀ x, x ∈ l → (Lit.int .i64 x.f0).wf = true) (hp : (l.filter (rightB n a sz dg)).Pairwise (fun x y => x.f0 ≠ y.f0)) :
    stripe_kept.f n a sz dg l = some (l.filter (rightB n a sz dg)) := by
  unfold stripe_kept.f
  rw [if_pos ⟨List.all_eq_true.2 hw, hl⟩]
  exact keptAt_filter h1 ha h16 hs hdg l [] hp fun x _ => List.not_mem_nil
theorem kept_some (h1 : 1 ≤ n) (ha : n ≤ a) (h16 : a ≤ 16) (hs : sz ≤ 800) (hdg : dg.length = a) {l : List S41} (hl : l.length ≤ 1000000) (hw : ∀ x, x ∈ l → (Lit.int .i64 x.f0).wf = true) (hb : ∀ x, x ∈ l → x.f1.size ≤ 1000000) (hp : (l.filter (rightB n a sz dg)).Pairwise (fun x y => x.f0 ≠ y.f0)) :
    stripe_kept.f n a sz dg l = some (l.filter (rightB n a sz dg)) := kept_some' h1 ha h16 hs hdg (by omega) hw hp
theorem scheck_some (h1 : 1 ≤ n) (ha : n ≤ a) (h16 : a ≤ 16) (hs2 : 2 ≤ sz) (hs : sz ≤ 800) (hdg : dg.length = a) (hr : ∀ d, d ∈ dg → 0 ≤ d ∧ d < 2147483647) : stripe_Check.f n a sz dg = some 0 := by
  unfold stripe_Check.f
  rw [check_some h1 ha h16, Option.bind_some, if_pos rfl, if_neg (by omega), length_some h1 ha h16 hs, Option.bind_some, if_pos rfl, if_pos (by omega)]
  have : dg.any badD = false := by
    rw [List.any_eq_false]
    intro d hd
    have := hr d hd
    unfold badD
    rw [decide_eq_false (by omega), decide_eq_false (by omega)]
    decide
  rw [this]
  rfl
theorem sRight_some' (h1 : 1 ≤ n) (ha : n ≤ a) (h16 : a ≤ 16) (hs2 : 2 ≤ sz) (hs : sz ≤ 800) (hdg : dg.length = a) (hr : ∀ d, d ∈ dg → 0 ≤ d ∧ d < 2147483647) (x : S41) {k : Nat} (hk : 900 ≤ k ∨ x.f1.size + 2 ≤ k) : stripe_Right.f k n a sz dg x.f0 x.f1 = some (rightB n a sz dg x) := by
  unfold stripe_Right.f
  rw [scheck_some h1 ha h16 hs2 hs hdg hr, Option.bind_some, if_pos rfl, right_some' h1 ha h16 hs hdg x hk]
  rfl
theorem sRight_some (h1 : 1 ≤ n) (ha : n ≤ a) (h16 : a ≤ 16) (hs2 : 2 ≤ sz) (hs : sz ≤ 800) (hdg : dg.length = a) (hr : ∀ d, d ∈ dg → 0 ≤ d ∧ d < 2147483647) (x : S41) {k : Nat} (hx : x.f1.size ≤ 1000000) (hk : x.f1.size + 2 ≤ k) : stripe_Right.f k n a sz dg x.f0 x.f1 = some (rightB n a sz dg x) := sRight_some' h1 ha h16 hs2 hs hdg hr x (.inr hk)
end

/-! ### the sealed bytes -/
def sealB (lock : Int) (text : ByteArray) : ByteArray := strOfNums (bytesOf (strOfNums (bytesOf (⟨#[]⟩ : ByteArray) ++ grp 9 (zig lock))) ++ grp 9 (zig (text.size : Int))) ++ text
theorem grp_pos : ∀ k u, 1 ≤ (grp k u).length
  | 0, u => by simp [grp]
  | k + 1, u => by
    unfold grp
    split
    · simp
    · simp
theorem bytesOf_length (s : ByteArray) : (bytesOf s).length = s.size := by simp [bytesOf]
theorem sealB_size (lock : Int) (text : ByteArray) : text.size + 2 ≤ (sealB lock text).size ∧ (sealB lock text).size ≤ text.size + 20 := by
  unfold sealB
  rw [ByteArray.size_append, strOfNums_size, List.length_append, bytesOf_length, strOfNums_size, List.length_append, bytesOf_length]
  have a1 := grp_pos 9 (zig lock)
  have a2 := grp_len 9 (zig lock)
  have a3 := grp_pos 9 (zig (text.size : Int))
  have a4 := grp_len 9 (zig (text.size : Int))
  have a5 : (⟨#[]⟩ : ByteArray).size = 0 := rfl
  omega
theorem key_valid {key : Int} (h0 : 0 ≤ key) (h1 : key < 4294967294) : seal_key_valid.f key = some true := by
  unfold seal_key_valid.f
  rw [if_pos h0, decide_eq_true h1]
theorem key_lock {key : Int} (h0 : 0 ≤ key) (h1 : key < 4294967294) : seal_key_lock.f key = some (3 * key + 1) := by
  unfold seal_key_lock.f
  rw [w64 (x := 3 * key) (by omega) (by omega), w64 (by omega) (by omega)]
theorem seal_some {text : ByteArray} {key : Int} (h0 : 0 ≤ key) (h1 : key < 4294967294) (ht : text.size ≤ 16384) : seal_Seal.f text key = some (3 * key + 1, text, 0) := by
  unfold seal_Seal.f
  rw [key_valid h0 h1, Option.bind_some, if_pos rfl, if_neg (by omega), key_lock h0 h1]
  rfl
theorem valid_some {text : ByteArray} {key : Int} (h0 : 0 ≤ key) (h1 : key < 4294967294) (ht : text.size ≤ 16384) : seal_valid.f (3 * key + 1) text = some true := by
  unfold seal_valid.f seal_keyOf.f
  have e1 : Int.tmod (3 * key + 1) 3 = 1 := by rw [Int.tmod_eq_emod_of_nonneg (by omega)]; omega
  have e2 : Int.tdiv (3 * key + 1) 3 = key := by rw [Int.tdiv_eq_ediv_of_nonneg (by omega)]; omega
  rw [if_pos (by omega), if_pos e1, e2, w64 (by omega) (by omega), key_valid h0 h1, Option.bind_some, Option.bind_some, if_pos rfl, decide_eq_true (by omega)]
theorem sealEnc_some {text : ByteArray} {key : Int} (h0 : 0 ≤ key) (h1 : key < 4294967294) (ht : text.size ≤ 16384) : seal_Encode.f (3 * key + 1) text = some (sealB (3 * key + 1) text, 0) := by
  unfold seal_Encode.f
  have hl := grp_len 9 (zig (3 * key + 1))
  have hl2 := grp_len 9 (zig (text.size : Int))
  have e : wire_PutInt.f (⟨#[]⟩ : ByteArray) (3 * key + 1) = some (strOfNums (bytesOf (⟨#[]⟩ : ByteArray) ++ grp 9 (zig (3 * key + 1)))) := by
    unfold wire_PutInt.f
    rw [if_pos (by decide)]
  have hsz : (strOfNums (bytesOf (⟨#[]⟩ : ByteArray) ++ grp 9 (zig (3 * key + 1)))).size ≤ 10 := by
    rw [strOfNums_size, List.length_append, bytesOf_length]
    have a5 : (⟨#[]⟩ : ByteArray).size = 0 := rfl
    omega
  rw [valid_some h0 h1 ht, Option.bind_some, if_pos rfl, e, Option.bind_some]
  have e2 : wire_PutText.f (strOfNums (bytesOf (⟨#[]⟩ : ByteArray) ++ grp 9 (zig (3 * key + 1)))) text = some (sealB (3 * key + 1) text) := by
    unfold wire_PutText.f wire_PutInt.f
    rw [if_pos (by omega), Option.bind_some, if_pos (by rw [strOfNums_size, List.length_append, bytesOf_length]; omega)]
    rfl
  rw [e2]
  rfl

/-! ### Make -/
def sumsOf (l : List S41) : List Int := l.map fun x => dsum x.f1
theorem make_loop {l : List S41} (hl : l.length ≤ 1000) (hb : ∀ x, x ∈ l → x.f1.size ≤ 1000) (n a sz : Int) : ∀ (m t k : Nat), t + m = l.length → m + 1010 ≤ k →
    stripe_Make.l0 k l l (l.length : Int) (t : Int) n a sz (sumsOf (l.take t)) = some (n, a, sz, sumsOf l, l, 0)
  | 0, t, k, ht, hk => by
    obtain ⟨k, rfl⟩ : ∃ k', k = k' + 1 := ⟨k - 1, by omega⟩
    unfold stripe_Make.l0
    rw [if_neg (by omega), List.take_of_length_le (by omega)]
  | m + 1, t, k, ht, hk => by
    obtain ⟨k, rfl⟩ : ∃ k', k = k' + 1 := ⟨k - 1, by omega⟩
    have htl : t < l.length := by omega
    have hrd : rd_T41 l (t : Int) = l[t] := by
      unfold rd_T41
      rw [Int.toNat_natCast, List.getD_eq_getElem?_getD, List.getElem?_eq_getElem htl]
      rfl
    have hb1 := hb _ (List.getElem_mem htl)
    unfold stripe_Make.l0
    rw [if_pos (by omega), if_pos (by omega), if_pos (by omega), hrd, (sum_some (by omega) (by omega)).1, Option.bind_some, if_pos (by unfold sumsOf; rw [List.length_map, List.length_take]; omega), incw (by omega)]
    have e : sumsOf (l.take t) ++ [dsum l[t].f1] = sumsOf (l.take (t + 1)) := by
      unfold sumsOf
      rw [List.take_add_one, List.getElem?_eq_getElem htl, List.map_append]
      rfl
    rw [e]
    exact make_loop hl hb n a sz m (t + 1) k (by omega) (by omega)
theorem shardN_size (n a L : Nat) (d : ByteArray) (i : Nat) : (shardN n a L d i).f1.size = L := by
  show (strOfNums _).size = L
  rw [strOfNums_size, accL_length]
/-- The shards of a sealed text. -/
def shardsS (n a : Nat) (b : ByteArray) : List S41 := shardsN n a (lenN n b.size) (padded n b)
def shardS (n a : Nat) (b : ByteArray) (i : Nat) : S41 := shardN n a (lenN n b.size) (padded n b) i
theorem shardsS_size {n a : Nat} {b : ByteArray} (h1 : 1 ≤ n) (hb : b.size ≤ 800) : ∀ x, x ∈ shardsS n a b → x.f1.size = lenN n b.size ∧ lenN n b.size ≤ 801 := fun x hx => by
  obtain ⟨i, hi, rfl⟩ := shardsN_mem hx
  exact ⟨shardN_size _ _ _ _ _, lenN_le h1 hb⟩
theorem make_some {n a : Nat} {text : ByteArray} {key : Int} (h1 : 1 ≤ n) (ha : n ≤ a) (h16 : a ≤ 16) (ht : text.size ≤ 700) (h0 : 0 ≤ key) (hk1 : key < 4294967294) {k : Nat} (hk : 1200 ≤ k) :
    stripe_Make.f k n a text key = some ((n : Int), (a : Int), ((sealB (3 * key + 1) text).size : Int), sumsOf (shardsS n a (sealB (3 * key + 1) text)), shardsS n a (sealB (3 * key + 1) text), 0) := by
  have hsz := sealB_size (3 * key + 1) text
  unfold stripe_Make.f
  rw [check_some h1 ha h16, Option.bind_some, if_pos rfl, seal_some (text := text) h0 hk1 (by omega), Option.bind_some, if_pos rfl, sealEnc_some (text := text) h0 hk1 (by omega), Option.bind_some, if_pos rfl, encode_some (s := sealB (3 * key + 1) text) h1 (by omega) ha h16 (by omega) hk, Option.bind_some, if_pos rfl]
  have hl : (shardsS n a (sealB (3 * key + 1) text)).length = a := shardsN_length ..
  have e := make_loop (l := shardsS n a (sealB (3 * key + 1) text)) (by omega) (fun x hx => by have := shardsS_size (a := a) h1 (show (sealB (3 * key + 1) text).size ≤ 800 by omega) x hx; omega) (n : Int) (a : Int) ((sealB (3 * key + 1) text).size : Int) a 0 k (by omega) (by omega)
  exact e
end Go.Proofs.Ythfddndmhjkeiaa.Pure
end
section
/- The plain law of stripes, part 2: two strings of one length that differ in one byte have different digests. -/
namespace Go.Proofs.Ythfddndmhjkeiaa.Pure
open Go.RowKit Go.Proofs.Ythfddndmhjkeiaa.L Go.Proofs.YthfddndmhjkeiaaW.PrintWords Go.Proofs.YthfddndmhjkeiaaW.PrintLast Go.Proofs.YthfddndmhjkeiaaW.PrintMore
set_option linter.unusedVariables false
set_option linter.unusedSimpArgs false
def stepD (d b : Int) : Int := (d * 1000003 + b + 1) % 2147483647
def dig : List Int → Int → Int
  | [], d => d
  | b :: l, d => dig l (stepD d b)
theorem stepD_range (d b : Int) : 0 ≤ stepD d b ∧ stepD d b < 2147483647 := by
  unfold stepD
  omega
theorem bt_bytesOf {s : ByteArray} {t : Nat} (h : t < s.size) : bt s (t : Int) = (bytesOf s).getD t 0 := by
  have h' : t < s.data.toList.length := by rw [Array.length_toList]; exact h
  unfold bt bytesOf
  rw [dif_pos (by rw [Int.toNat_natCast]; exact h), List.getD_eq_getElem?_getD, List.getElem?_map, List.getElem?_eq_getElem h']
  rfl
theorem sum_dig {s : ByteArray} (hs : s.size ≤ 1000000) : ∀ (m t k : Nat) (d : Int), t + m = s.size → m + 1 ≤ k → 0 ≤ d → d < 2147483647 → digest_Sum.l0 k s d (s.size : Int) (t : Int) = some (dig ((bytesOf s).drop t) d)
  | 0, t, k, d, ht, hk, h0, h1 => by
    obtain ⟨k, rfl⟩ : ∃ k', k = k' + 1 := ⟨k - 1, by omega⟩
    unfold digest_Sum.l0
    rw [if_neg (by omega), List.drop_of_length_le (by rw [bytesOf_length]; omega)]
    rfl
  | m + 1, t, k, d, ht, hk, h0, h1 => by
    obtain ⟨k, rfl⟩ : ∃ k', k = k' + 1 := ⟨k - 1, by omega⟩
    have hb := bt_range s (t : Int)
    have htl : t < (bytesOf s).length := by rw [bytesOf_length]; omega
    have hg : (bytesOf s)[t] = bt s (t : Int) := by rw [bt_bytesOf (by omega), List.getD_eq_getElem?_getD, List.getElem?_eq_getElem htl]; rfl
    unfold digest_Sum.l0
    rw [if_pos (by omega), if_pos (by omega), if_pos (by omega), incw (by omega), w64 (x := d * 1000003) (by omega) (by omega), w64 (x := bt s (t : Int)) (by omega) (by omega), w64 (x := d * 1000003 + bt s (t : Int)) (by omega) (by omega), w64 (x := d * 1000003 + bt s (t : Int) + 1) (by omega) (by omega)]
    have e : Int.tmod (d * 1000003 + bt s (t : Int) + 1) 2147483647 = stepD d (bt s (t : Int)) := Int.tmod_eq_emod_of_nonneg (by omega)
    have hr := stepD_range d (bt s (t : Int))
    rw [e, sum_dig hs m (t + 1) k _ (by omega) (by omega) hr.1 hr.2, List.drop_eq_getElem_cons htl, hg]
    rfl
theorem dsum_dig {s : ByteArray} (hs : s.size ≤ 1000000) : dsum s = dig (bytesOf s) 1 := by
  have e : digest_Sum.f (s.size + 2) s = some (dig ((bytesOf s).drop 0) 1) := sum_dig hs s.size 0 (s.size + 2) 1 (by omega) (by omega) (by omega) (by omega)
  unfold dsum
  rw [e]
  rfl
theorem inj_core {d d' c q1 q2 m : Int} (e1 : m + 2147483647 * q1 = d * 1000003 + c) (e2 : m + 2147483647 * q2 = d' * 1000003 + c) (h0 : 0 ≤ d) (h1 : d < 2147483647) (h2 : 0 ≤ d') (h3 : d' < 2147483647) : d = d' := by
  have h4 : (d - d') * 1000003 = 2147483647 * (q1 - q2) := by
    clear h0 h1 h2 h3
    omega
  have h5 : -2147483647 < d - d' ∧ d - d' < 2147483647 := by
    clear e1 e2 h4
    omega
  clear e1 e2 h0 h1 h2 h3
  suffices h : d - d' = 0 by
    clear h4 h5
    omega
  generalize d - d' = D at *
  generalize q1 - q2 = q at *
  have h7 : D * (1000003 * 1523789695) = 2147483647 * (q * 1523789695) := by rw [← Int.mul_assoc, h4, Int.mul_assoc]
  have h8 : D = D * (1000003 * 1523789695) - 2147483647 * (709572 * D) := by
    clear h5 h4 h7
    omega
  have h6 : D = 2147483647 * (q * 1523789695 - 709572 * D) := by
    rw [Int.mul_sub, ← h7]
    exact h8
  obtain ⟨t, ht⟩ : ∃ t, t = q * 1523789695 - 709572 * D := ⟨_, rfl⟩
  rw [← ht] at h6
  clear h4 h7 ht h8
  omega
theorem stepD_inj {d d' b : Int} (h0 : 0 ≤ d) (h1 : d < 2147483647) (h2 : 0 ≤ d') (h3 : d' < 2147483647) (h : stepD d b = stepD d' b) : d = d' := by
  have e1 := Int.emod_add_mul_ediv (d * 1000003 + b + 1) 2147483647
  have e2 := Int.emod_add_mul_ediv (d' * 1000003 + b + 1) 2147483647
  have e3 : (d * 1000003 + b + 1) % 2147483647 = (d' * 1000003 + b + 1) % 2147483647 := h
  rw [e3] at e1
  exact inj_core (c := b + 1) (e1.trans (Int.add_assoc _ _ _)) (e2.trans (Int.add_assoc _ _ _)) h0 h1 h2 h3
theorem dig_inj : ∀ (l : List Int) (d d' : Int), 0 ≤ d → d < 2147483647 → 0 ≤ d' → d' < 2147483647 → dig l d = dig l d' → d = d'
  | [], _, _, _, _, _, _, h => h
  | b :: l, d, d', h0, h1, h2, h3, h => by
    have r := stepD_range d b
    have r' := stepD_range d' b
    exact stepD_inj h0 h1 h2 h3 (dig_inj l _ _ r.1 r.2 r'.1 r'.2 h)
theorem dig_append : ∀ (l l' : List Int) (d : Int), dig (l ++ l') d = dig l' (dig l d)
  | [], _, _ => rfl
  | b :: l, l', d => dig_append l l' (stepD d b)
theorem dig_ne {l l' : List Int} {b b' d : Int} (hb : By b) (hb' : By b') (h : dig (l ++ b :: l') d = dig (l ++ b' :: l') d) : b = b' := by
  rw [dig_append, dig_append] at h
  have r := stepD_range (dig l d) b
  have r' := stepD_range (dig l d) b'
  have e : stepD (dig l d) b = stepD (dig l d) b' := dig_inj l' _ _ r.1 r.2 r'.1 r'.2 h
  unfold By at hb hb'
  unfold stepD at e
  omega
theorem bytesOf_by {s : ByteArray} {x : Int} (h : x ∈ bytesOf s) : By x := by
  unfold bytesOf at h
  obtain ⟨b, _, rfl⟩ := List.mem_map.1 h
  have := b.toNat_lt
  unfold By
  omega
theorem bytesOf_strOfNums {l : List Int} (h : ∀ x, x ∈ l → By x) : bytesOf (strOfNums l) = l := by
  unfold bytesOf strOfNums
  show ((l.map fun n => UInt8.ofNat n.toNat).toArray.toList).map (fun b => (b.toNat : Int)) = l
  rw [List.map_map]
  conv => rhs; rw [← List.map_id l]
  refine List.map_congr_left fun x hx => ?_
  have hb := h x hx
  unfold By at hb
  show ((UInt8.ofNat x.toNat).toNat : Int) = x
  rw [UInt8.toNat_ofNat']
  omega
theorem strOfNums_bytesOf (x : ByteArray) : strOfNums (bytesOf x) = x := by
  apply ByteArray.ext
  apply Array.ext'
  show (bytesOf x).map (fun n => UInt8.ofNat n.toNat) = x.data.toList
  unfold bytesOf
  rw [List.map_map]
  conv => rhs; rw [← List.map_id x.data.toList]
  refine List.map_congr_left fun b _ => ?_
  show UInt8.ofNat ((b.toNat : Int)).toNat = b
  rw [Int.toNat_natCast]
  exact UInt8.ofNat_toNat
/-- A string with one byte changed: of the same length; the same string if the byte was that; else of another digest. -/
theorem changed {x : ByteArray} {i : Nat} {v : Int} (hx : x.size ≤ 1000000) (hi : i < x.size) (hv : By v) :
    (strOfNums ((bytesOf x).set i v)).size = x.size ∧ ((bytesOf x).getD i 0 = v → strOfNums ((bytesOf x).set i v) = x) ∧ ((bytesOf x).getD i 0 ≠ v → dsum (strOfNums ((bytesOf x).set i v)) ≠ dsum x) := by
  have hil : i < (bytesOf x).length := by rw [bytesOf_length]; exact hi
  have hg : (bytesOf x).getD i 0 = (bytesOf x)[i] := by rw [List.getD_eq_getElem?_getD, List.getElem?_eq_getElem hil]; rfl
  have hs : (strOfNums ((bytesOf x).set i v)).size = x.size := by rw [strOfNums_size, List.length_set, bytesOf_length]
  refine ⟨hs, fun e => ?_, fun hne e => hne ?_⟩
  · rw [← e, hg, List.set_getElem_self, strOfNums_bytesOf]
  · have hby : ∀ y, y ∈ (bytesOf x).set i v → By y := fun y hy => by
      rcases List.mem_or_eq_of_mem_set hy with h | h
      · exact bytesOf_by h
      · rw [h]; exact hv
    rw [dsum_dig (by omega), dsum_dig hx, bytesOf_strOfNums hby, List.set_eq_take_append_cons_drop, if_pos hil] at e
    have e2 : bytesOf x = (bytesOf x).take i ++ (bytesOf x)[i] :: (bytesOf x).drop (i + 1) := by
      rw [← List.drop_eq_getElem_cons hil, List.take_append_drop]
    have e3 : dig ((bytesOf x).take i ++ v :: (bytesOf x).drop (i + 1)) 1 = dig ((bytesOf x).take i ++ (bytesOf x)[i] :: (bytesOf x).drop (i + 1)) 1 := by
      rw [← e2]
      exact e
    rw [hg]
    exact (dig_ne hv (bytesOf_by (List.getElem_mem hil)) e3).symm
end Go.Proofs.Ythfddndmhjkeiaa.Pure
end
section
/- The plain law of stripes, part 3: the sealed bytes read back. -/
namespace Go.Proofs.Ythfddndmhjkeiaa.Pure
open Go.RowKit Go.Proofs.Ythfddndmhjkeiaa.L Go.Proofs.YthfddndmhjkeiaaW.PrintWords Go.Proofs.YthfddndmhjkeiaaW.PrintLast Go.Proofs.YthfddndmhjkeiaaW.PrintMore
set_option linter.unusedVariables false
set_option linter.unusedSimpArgs false
theorem wrap64u {x : Int} (h0 : 0 ≤ x) (h1 : x < 18446744073709551616) : IntKind.u64.wrap x = x := by
  rw [IntKind.wrap_u64]
  omega
theorem or64 {x y : Nat} (hx : x < 2 ^ 64) (hy : y < 2 ^ 64) : Go.bits .or .u64 (x : Int) (y : Int) = ((x ||| y : Nat) : Int) := by
  have hq : x ||| y < 2 ^ 64 := Nat.or_lt_two_pow hx hy
  show IntKind.u64.wrap (((BitVec.ofInt 64 (x : Int) ||| BitVec.ofInt 64 (y : Int) : BitVec 64).toNat : Nat) : Int) = _
  rw [BitVec.toNat_or, BitVec.ofInt_natCast, BitVec.ofInt_natCast, BitVec.toNat_ofNat, BitVec.toNat_ofNat, Nat.mod_eq_of_lt hx, Nat.mod_eq_of_lt hy]
  generalize x ||| y = q at hq
  exact wrap64u (by omega) (by omega)
theorem and64 {x y : Nat} (hx : x < 2 ^ 64) (hy : y < 2 ^ 64) : Go.bits .and .u64 (x : Int) (y : Int) = ((x &&& y : Nat) : Int) := by
  have hq : x &&& y < 2 ^ 64 := Nat.and_lt_two_pow _ hy
  show IntKind.u64.wrap (((BitVec.ofInt 64 (x : Int) &&& BitVec.ofInt 64 (y : Int) : BitVec 64).toNat : Nat) : Int) = _
  rw [BitVec.toNat_and, BitVec.ofInt_natCast, BitVec.ofInt_natCast, BitVec.toNat_ofNat, BitVec.toNat_ofNat, Nat.mod_eq_of_lt hx, Nat.mod_eq_of_lt hy]
  generalize x &&& y = q at hq
  exact wrap64u (by omega) (by omega)
theorem xor64u {x y : Nat} (hx : x < 2 ^ 64) (hy : y < 2 ^ 64) : Go.bits .xor .u64 (x : Int) (y : Int) = ((x ^^^ y : Nat) : Int) := by
  have hq : x ^^^ y < 2 ^ 64 := Nat.xor_lt_two_pow hx hy
  show IntKind.u64.wrap (((BitVec.ofInt 64 (x : Int) ^^^ BitVec.ofInt 64 (y : Int) : BitVec 64).toNat : Nat) : Int) = _
  rw [BitVec.toNat_xor, BitVec.ofInt_natCast, BitVec.ofInt_natCast, BitVec.toNat_ofNat, BitVec.toNat_ofNat, Nat.mod_eq_of_lt hx, Nat.mod_eq_of_lt hy]
  generalize x ^^^ y = q at hq
  exact wrap64u (by omega) (by omega)
theorem xor64i {x : Nat} (hx : x < 2 ^ 62) : Go.bits .xor .i64 (x : Int) 0 = (x : Int) := by
  have hx2 : x < 2 ^ 64 := Nat.lt_trans hx (by decide)
  show IntKind.i64.wrap (((BitVec.ofInt 64 (x : Int) ^^^ BitVec.ofInt 64 ((0 : Nat) : Int) : BitVec 64).toNat : Nat) : Int) = _
  rw [BitVec.toNat_xor, BitVec.ofInt_natCast, BitVec.ofInt_natCast, BitVec.toNat_ofNat, BitVec.toNat_ofNat, Nat.mod_eq_of_lt hx2, Nat.zero_mod, Nat.xor_zero]
  exact (i64_w _).trans (w64 (by omega) (by omega))
theorem byte_all : ∀ x : Fin 256, Go.bits .and .u8 (x.1 : Int) 127 = ((x.1 % 128 : Nat) : Int) ∧ Go.bits .or .u8 (x.1 : Int) 128 = ((128 + x.1 % 128 : Nat) : Int) := by decide +kernel
theorem byte_and {x : Nat} (h : x < 256) : Go.bits .and .u8 (x : Int) 127 = ((x % 128 : Nat) : Int) := (byte_all ⟨x, h⟩).1
theorem byte_or {x : Nat} (h : x < 256) : Go.bits .or .u8 (x : Int) 128 = ((128 + x % 128 : Nat) : Int) := (byte_all ⟨x, h⟩).2
theorem zig_nat {v : Nat} (h : v < 2 ^ 61) : zig (v : Int) = ((2 * v : Nat) : Int) := by
  unfold zig
  have e1 : IntKind.u64.wrap (v : Int) = (v : Int) := wrap64u (by omega) (by omega)
  have e2 : IntKind.u64.wrap ((v : Int) * 2) = ((2 * v : Nat) : Int) := by rw [wrap64u (by omega) (by omega)]; omega
  have e3 : (v : Int) / 9223372036854775808 = ((0 : Nat) : Int) := by omega
  have e4 : IntKind.u64.wrap ((0 : Nat) : Int) = ((0 : Nat) : Int) := wrap64u (by omega) (by omega)
  rw [e1, e2, e3, e4, xor64u (by omega) (by decide), Nat.xor_zero]
theorem grp_cons {k u : Nat} (h : 127 < u) : grp (k + 1) (u : Int) = ((128 + u % 128 : Nat) : Int) :: grp k ((u / 128 : Nat) : Int) := by
  rw [grp, if_pos (by omega)]
  have e1 : (u : Int) % 256 = ((u % 256 : Nat) : Int) := by omega
  have e2 : (u : Int) / 128 = ((u / 128 : Nat) : Int) := by omega
  rw [e1, e2, byte_or (by omega), show u % 256 % 128 = u % 128 by omega]
theorem grp_one {k u : Nat} (h : u ≤ 127) : grp k (u : Int) = [(u : Int)] := by
  cases k with
  | zero => rfl
  | succ k => rw [grp, if_neg (by omega)]
theorem grp_by : ∀ (k u : Nat), u < 128 ^ (k + 1) → ∀ x, x ∈ grp k (u : Int) → By x
  | 0, u, h, x, hx => by
    have h' : u < 128 := by simpa using h
    rw [grp_one (by omega)] at hx
    rw [List.mem_singleton.1 hx]
    unfold By
    omega
  | k + 1, u, h, x, hx => by
    by_cases hu : 127 < u
    · rw [grp_cons hu] at hx
      rcases List.mem_cons.1 hx with rfl | hx
      · unfold By
        omega
      · refine grp_by k (u / 128) ?_ x hx
        rw [Nat.pow_succ] at h
        exact Nat.div_lt_of_lt_mul (by rw [Nat.mul_comm]; exact h)
    · rw [grp_one (by omega)] at hx
      rw [List.mem_singleton.1 hx]
      unfold By
      omega
theorem or_shift {acc u e : Nat} (h : acc < 2 ^ e) : acc ||| (u * 2 ^ e) = acc + u * 2 ^ e := by
  have h1 := Nat.shiftLeft_add_eq_or_of_lt h u
  rw [Nat.shiftLeft_eq] at h1
  rw [Nat.or_comm, ← h1, Nat.add_comm]
theorem ar1 (u : Nat) : ((128 + u % 128 : Nat) : Int) ≠ 0 := by omega
theorem ar2 (u : Nat) : u % 128 + u / 128 * 128 = u := by omega
theorem ar3 {acc u P : Nat} (h : acc < P) : acc + u % 128 * P < 128 * P := by
  have : (u % 128 + 1) * P ≤ 128 * P := Nat.mul_le_mul_right _ (by omega)
  rw [Nat.add_mul, Nat.one_mul] at this
  omega
theorem ar4 {x y v : Nat} (h : x + y = 2 * v) (hv : v < 2 ^ 60) : x < 2 ^ 62 := by omega
theorem ar5 {u : Nat} (h : u ≤ 127) (h0 : u ≠ 0) : ((u : Int) == 0) = false := beq_eq_false_iff_ne.mpr (by omega)
theorem ar6 {u : Nat} (h : ¬ u ≤ 127) : u / 128 ≠ 0 := by omega
/-- One group is taken in. -/
theorem take_group {acc y e : Nat} (he : e ≤ 63) (ha : acc < 2 ^ e) (hs : acc + y * 2 ^ e < 2 ^ 62) (hy : y < 128) :
    Go.bits .or .u64 (acc : Int) (shl .u64 (IntKind.u64.wrap (y : Int)) (e : Int)) = ((acc + y * 2 ^ e : Nat) : Int) := by
  have e1 : IntKind.u64.wrap (y : Int) = (y : Int) := wrap64u (by omega) (by omega)
  have hb : IntKind.u64.bits = 64 := rfl
  have e2 : shl .u64 (y : Int) (e : Int) = ((y * 2 ^ e : Nat) : Int) := by
    unfold shl
    rw [Int.toNat_natCast, hb, Nat.min_eq_left (by omega)]
    have : (y : Int) * 2 ^ e = ((y * 2 ^ e : Nat) : Int) := by rw [Int.natCast_mul, Int.natCast_pow]; rfl
    rw [this]
    exact wrap64u (by omega) (by omega)
  rw [e1, e2, or64 (by omega) (by omega), or_shift ha]
set_option maxHeartbeats 1000000 in
theorem int_loop {b : ByteArray} {at_ : Nat} (hb : b.size ≤ 1000000) (v : Nat) (hv : v < 2 ^ 60) : ∀ (g u acc kk K : Nat), kk + g = 9 → acc < 2 ^ (7 * kk) → acc + u * 2 ^ (7 * kk) = 2 * v → (0 < kk → u ≠ 0) →
    (∀ t, t < (grp g (u : Int)).length → bt b ((at_ + kk + t : Nat) : Int) = (grp g (u : Int)).getD t 0) → at_ + kk + (grp g (u : Int)).length ≤ b.size → 2 * g + 4 ≤ K →
    wire_Int.l0 K b (at_ : Int) (acc : Int) (kk : Int) = some ((v : Int), ((at_ + kk + (grp g (u : Int)).length : Nat) : Int), 0) := by
  intro g
  induction g with
  | zero =>
    intro u acc kk K hk ha hs hu hbt hsz hK
    exfalso
    obtain rfl : kk = 9 := by omega
    have h0 : u ≠ 0 := hu (by omega)
    have : 1 * 2 ^ (7 * 9) ≤ u * 2 ^ (7 * 9) := Nat.mul_le_mul_right _ (by omega)
    omega
  | succ g ih =>
    intro u acc kk K hk ha hs hu hbt hsz hK
    obtain ⟨K, rfl⟩ : ∃ k', K = k' + 2 := ⟨K - 2, by omega⟩
    have hlen : 1 ≤ (grp (g + 1) (u : Int)).length := grp_pos _ _
    have h7 : wrap64 (7 * (kk : Int)) = ((7 * kk : Nat) : Int) := (w64 (by clear hs ha; omega) (by clear hs ha; omega)).trans (by clear hs ha; omega)
    have hpos : wrap64 ((at_ : Int) + (kk : Int)) = ((at_ + kk : Nat) : Int) := (w64 (by clear hs ha; omega) (by clear hs ha; omega)).trans (by clear hs ha; omega)
    have hq1 : ¬ ((at_ + kk : Nat) : Int) = (b.size : Int) := by clear hs ha; omega
    have hq2 : (0 : Int) ≤ ((at_ + kk : Nat) : Int) := by clear hs ha; omega
    have hq3 : ((at_ + kk : Nat) : Int) < (b.size : Int) := by clear hs ha; omega
    have hq4 : ¬ (kk : Int) = 9 := by clear hs ha; omega
    have hq5 : (0 : Int) ≤ ((7 * kk : Nat) : Int) := by clear hs ha; omega
    have h63 : 7 * kk ≤ 63 := by clear hs ha; omega
    have hatk : at_ + kk ≤ 1000000 := by clear hs ha; omega
    by_cases hlast : u ≤ 127
    · have hg := grp_one (k := g + 1) hlast
      rw [hg] at hbt hsz ⊢
      have h0 := hbt 0 (by simp)
      have h0' : bt b ((at_ + kk : Nat) : Int) = (u : Int) := h0
      have hz : (if (kk : Int) > 0 then wire_Int.j2 (K + 1) b at_ acc kk (u : Int) ((u : Int) == 0) else wire_Int.j2 (K + 1) b at_ acc kk (u : Int) false) = wire_Int.j2 (K + 1) b at_ acc kk (u : Int) false := by
        by_cases hk0 : 0 < kk
        · rw [if_pos (by clear hs ha; omega), ar5 hlast (hu hk0)]
        · rw [if_neg (by clear hs ha; omega)]
      have hy : u < 128 := by clear hs ha; omega
      have hU := take_group (acc := acc) (y := u) (e := 7 * kk) h63 ha (by rw [hs]; omega) hy
      rw [hs] at hU
      have hy2 : (u : Int) < 128 := by clear hs ha; omega
      rw [wire_Int.l0, hpos, if_neg hq1, if_pos hq2, if_pos hq3, if_neg hq4, h0', hz, wire_Int.j2, if_neg (by decide), h7, if_pos hq5, if_pos hy2, byte_and (by clear hs ha; omega), Nat.mod_eq_of_lt hy, hU]
      clear hs ha hU hz h0 h0' hbt hsz
      have e1 : ((2 * v : Nat) : Int) / 2 = (v : Int) := by omega
      have e2 : Go.bits .and .u64 ((2 * v : Nat) : Int) 1 = 0 := by
        have := and64 (x := 2 * v) (y := 1) (by omega) (by decide)
        rw [show ((1 : Nat) : Int) = 1 from rfl] at this
        rw [this, Nat.and_one_is_mod]
        omega
      rw [e1, e2, w64 (x := (v : Int)) (by omega) (by omega), w64 (x := (0 : Int)) (by omega) (by omega), Int.neg_zero, w64 (x := (0 : Int)) (by omega) (by omega), xor64i (by omega), hpos, incw hatk]
      rfl
    · have hg := grp_cons (k := g) (show 127 < u by clear hs ha; omega)
      rw [hg] at hbt hsz ⊢
      have h0 := hbt 0 (by simp)
      have h0' : bt b ((at_ + kk : Nat) : Int) = ((128 + u % 128 : Nat) : Int) := h0
      have hz : (if (kk : Int) > 0 then wire_Int.j2 (K + 1) b at_ acc kk ((128 + u % 128 : Nat) : Int) (((128 + u % 128 : Nat) : Int) == 0) else wire_Int.j2 (K + 1) b at_ acc kk ((128 + u % 128 : Nat) : Int) false) = wire_Int.j2 (K + 1) b at_ acc kk ((128 + u % 128 : Nat) : Int) false := by
        by_cases hk0 : 0 < kk
        · rw [if_pos (by clear hs ha; omega), beq_eq_false_iff_ne.mpr (ar1 u)]
        · rw [if_neg (by clear hs ha; omega)]
      have hpow : 2 ^ (7 * (kk + 1)) = 128 * 2 ^ (7 * kk) := by rw [Nat.mul_add, Nat.pow_add, Nat.mul_comm]
      have hsplit : acc + u % 128 * 2 ^ (7 * kk) + u / 128 * 2 ^ (7 * (kk + 1)) = 2 * v := by
        rw [hpow, ← Nat.mul_assoc, Nat.add_assoc, ← Nat.add_mul, ar2 u]
        exact hs
      have hacc : acc + u % 128 * 2 ^ (7 * kk) < 2 ^ (7 * (kk + 1)) := by
        rw [hpow]
        exact ar3 ha
      have hy : u % 128 < 128 := Nat.mod_lt _ (by decide)
      have hU := take_group (acc := acc) (y := u % 128) (e := 7 * kk) h63 ha (ar4 hsplit hv) hy
      have hy2 : ¬ ((128 + u % 128 : Nat) : Int) < 128 := by clear hs ha hsplit hacc hpow; omega
      have hy3 : (128 + u % 128) % 128 = u % 128 := by clear hs ha hsplit hacc hpow; omega
      rw [wire_Int.l0, hpos, if_neg hq1, if_pos hq2, if_pos hq3, if_neg hq4, h0', hz, wire_Int.j2, if_neg (by decide), h7, if_pos hq5, if_neg hy2, byte_and (by clear hs ha hsplit hacc hpow; omega), hy3, hU, incw (by clear hs ha hsplit hacc hpow; omega)]
      clear hs ha hU hz h0' hpow
      rw [List.length_cons] at hsz ⊢
      have := ih (u / 128) (acc + u % 128 * 2 ^ (7 * kk)) (kk + 1) K (by clear hsplit hacc; omega) hacc hsplit (fun _ => ar6 hlast) (fun t ht => ?_) (by clear hsplit hacc; omega) (by clear hsplit hacc; omega)
      · rw [this, show at_ + (kk + 1) + (grp g ((u / 128 : Nat) : Int)).length = at_ + kk + ((grp g ((u / 128 : Nat) : Int)).length + 1) by clear hsplit hacc; omega]
      · have := hbt (t + 1) (by rw [List.length_cons]; exact Nat.succ_lt_succ ht)
        rw [show at_ + (kk + 1) + t = at_ + kk + (t + 1) by clear hsplit hacc; omega, this]
        rfl
theorem int_read {b : ByteArray} {at_ v K : Nat} (hb : b.size ≤ 1000000) (hv : v < 2 ^ 60) (hbt : ∀ t, t < (grp 9 (zig (v : Int))).length → bt b ((at_ + t : Nat) : Int) = (grp 9 (zig (v : Int))).getD t 0) (hsz : at_ + (grp 9 (zig (v : Int))).length ≤ b.size) (hK : 30 ≤ K) :
    wire_Int.f K b (at_ : Int) = some ((v : Int), ((at_ + (grp 9 (zig (v : Int))).length : Nat) : Int), 0) := by
  obtain ⟨K, rfl⟩ : ∃ k', K = k' + 1 := ⟨K - 1, by omega⟩
  rw [zig_nat (by omega)] at hbt hsz ⊢
  unfold wire_Int.f
  rw [if_neg (by omega), decide_eq_false (by omega)]
  rw [wire_Int.j0, if_neg (by decide)]
  have := int_loop (at_ := at_) hb v hv 9 (2 * v) 0 0 K (by omega) (by decide) (by omega) (fun h => absurd h (by omega)) (fun t ht => hbt t ht) (by omega) (by omega)
  exact this

/-! ### the sealed bytes -/
theorem bt_left {a b : ByteArray} {t : Nat} (h : t < a.size) : bt (a ++ b) (t : Int) = bt a (t : Int) := by
  unfold bt
  rw [dif_pos (by rw [Int.toNat_natCast, ByteArray.size_append]; omega), dif_pos (by rw [Int.toNat_natCast]; exact h)]
  congr 2
  exact ByteArray.getElem_append_left (by rw [Int.toNat_natCast]; exact h)
theorem grp_by9 {v : Nat} (h : v < 2 ^ 60) : ∀ x, x ∈ grp 9 (zig (v : Int)) → By x := by
  rw [zig_nat (by omega)]
  exact grp_by 9 (2 * v) (by have : 128 ^ (9 + 1) = 2 ^ 70 := by decide
                             omega)
theorem sealB_eq {lock : Nat} {text : ByteArray} (hl : lock < 2 ^ 60) : sealB (lock : Int) text = strOfNums (grp 9 (zig (lock : Int)) ++ grp 9 (zig (text.size : Int))) ++ text := by
  unfold sealB
  have e : bytesOf (⟨#[]⟩ : ByteArray) = [] := rfl
  rw [e, List.nil_append, bytesOf_strOfNums (grp_by9 hl)]
theorem sealDec_some {key : Int} {text : ByteArray} (h0 : 0 ≤ key) (h1 : key < 4294967294) (ht : text.size ≤ 16384) {K : Nat} (hK : 60 ≤ K) :
    seal_Decode.f K (sealB (3 * key + 1) text) 0 = some (3 * key + 1, text, ((sealB (3 * key + 1) text).size : Int), 0) := by
  obtain ⟨lock, hlk⟩ : ∃ lock : Nat, 3 * key + 1 = (lock : Int) := ⟨(3 * key + 1).toNat, by omega⟩
  have hv := valid_some (text := text) h0 h1 ht
  rw [hlk] at hv ⊢
  have hl : lock < 2 ^ 60 := by omega
  have hss := sealB_size (lock : Int) text
  have hE := sealB_eq (text := text) hl
  have hby : ∀ x, x ∈ grp 9 (zig (lock : Int)) ++ grp 9 (zig (text.size : Int)) → By x := fun x hx => by
    rcases List.mem_append.1 hx with h | h
    · exact grp_by9 hl x h
    · exact grp_by9 (show text.size < 2 ^ 60 by omega) x h
  have hsz : (sealB (lock : Int) text).size = (grp 9 (zig (lock : Int))).length + (grp 9 (zig (text.size : Int))).length + text.size := by
    rw [hE, ByteArray.size_append, strOfNums_size, List.length_append]
  have hat : ∀ t, t < (grp 9 (zig (lock : Int)) ++ grp 9 (zig (text.size : Int))).length → bt (sealB (lock : Int) text) (t : Int) = (grp 9 (zig (lock : Int)) ++ grp 9 (zig (text.size : Int))).getD t 0 := fun t ht => by
    rw [hE, bt_left (by rw [strOfNums_size]; exact ht)]
    refine bt_strOfNums ht (hby _ ?_)
    rw [List.getD_eq_getElem?_getD, List.getElem?_eq_getElem ht]
    exact List.getElem_mem ht
  have r1 := int_read (b := sealB (lock : Int) text) (at_ := 0) (v := lock) (K := K) (by omega) hl (fun t ht => by
    rw [Nat.zero_add, hat t (by rw [List.length_append]; omega), List.getD_eq_getElem?_getD, List.getElem?_append_left ht, ← List.getD_eq_getElem?_getD]) (by omega) (by omega)
  have r2 := int_read (b := sealB (lock : Int) text) (at_ := (grp 9 (zig (lock : Int))).length) (v := text.size) (K := K) (by omega) (by omega) (fun t ht => by
    rw [hat _ (by rw [List.length_append]; omega), List.getD_eq_getElem?_getD, List.getElem?_append_right (by omega), Nat.add_sub_cancel_left, ← List.getD_eq_getElem?_getD]) (by omega) (by omega)
  rw [Nat.zero_add] at r1
  unfold seal_Decode.f
  have r1' : wire_Int.f K (sealB (lock : Int) text) 0 = some ((lock : Int), (((grp 9 (zig (lock : Int))).length : Nat) : Int), 0) := r1
  rw [r1', Option.bind_some, if_pos rfl]
  have r3 : wire_Text.f K (sealB (lock : Int) text) (((grp 9 (zig (lock : Int))).length : Nat) : Int) 16384 = some (text, ((sealB (lock : Int) text).size : Int), 0) := by
    unfold wire_Text.f wire_count.f
    rw [r2, Option.bind_some, if_pos rfl, if_neg (by omega), if_neg (by omega), Option.bind_some, if_pos rfl]
    dsimp only
    have w1 : wrap64 (((sealB (lock : Int) text).size : Int) - (((grp 9 (zig (lock : Int))).length + (grp 9 (zig (text.size : Int))).length : Nat) : Int)) = (text.size : Int) := (w64 (by omega) (by omega)).trans (by omega)
    have w2 : wrap64 ((((grp 9 (zig (lock : Int))).length + (grp 9 (zig (text.size : Int))).length : Nat) : Int) + (text.size : Int)) = ((sealB (lock : Int) text).size : Int) := (w64 (by omega) (by omega)).trans (by omega)
    rw [w1, if_neg (by omega), if_pos (by omega), w2, if_pos (by omega), if_pos (by omega), Int.toNat_natCast, Int.toNat_natCast, hE, ByteArray.extract_append_eq_right (by rw [strOfNums_size, List.length_append]) (by rw [ByteArray.size_append])]
  rw [r3, Option.bind_some, if_pos rfl, hv, Option.bind_some, if_pos rfl]
theorem sealOpen_some {key k2 : Int} {text : ByteArray} (h0 : 0 ≤ key) (h1 : key < 4294967294) (h2 : 0 ≤ k2) (h3 : k2 < 4294967294) (ht : text.size ≤ 16384) : seal_Open.f (3 * key + 1) text k2 = some (if key = k2 then (text, 0) else (⟨#[]⟩, 9)) := by
  unfold seal_Open.f
  rw [valid_some h0 h1 ht, Option.bind_some, if_pos rfl, key_valid h2 h3, Option.bind_some, if_pos rfl, key_lock h2 h3, Option.bind_some]
  by_cases h : key = k2
  · rw [if_pos h, if_pos (by omega)]
  · rw [if_neg h, if_neg (by omega)]
end Go.Proofs.Ythfddndmhjkeiaa.Pure
end
section
/- The plain law of stripes, part 4: the shards of a sealed text: right, kept, repaired, read. -/
namespace Go.Proofs.Ythfddndmhjkeiaa.Pure
open Go.RowKit Go.Proofs.Ythfddndmhjkeiaa.L Go.Proofs.YthfddndmhjkeiaaW.PrintWords Go.Proofs.YthfddndmhjkeiaaW.PrintLast Go.Proofs.YthfddndmhjkeiaaW.PrintMore
set_option linter.unusedVariables false
set_option linter.unusedSimpArgs false
/-- The digests of a sealed text's shards. -/
theorem sums_mem {n a : Nat} {b : ByteArray} (h1 : 1 ≤ n) (hb : b.size ≤ 800) : ∀ d, d ∈ sumsOf (shardsS n a b) → 0 ≤ d ∧ d < 2147483647 := by
  intro d hd
  unfold sumsOf at hd
  obtain ⟨x, hx, rfl⟩ := List.mem_map.1 hd
  have := shardsS_size (a := a) h1 hb x hx
  exact (sum_some (s := x.f1) (by omega) (Nat.le_refl _)).2
theorem sums_length (n a : Nat) (b : ByteArray) : (sumsOf (shardsS n a b)).length = a := by
  unfold sumsOf
  rw [List.length_map]
  exact shardsN_length ..
/-- A shard of a sealed text is right. -/
theorem shard_right {n a : Nat} {b : ByteArray} {i : Nat} (hi : i < a) : rightB n a b.size (sumsOf (shardsS n a b)) (shardS n a b i) = true := by
  have e0 : (shardS n a b i).f0 = (i : Int) := rfl
  have e1 : (shardS n a b i).f1.size = lenN n b.size := shardN_size _ _ _ _ _
  have e2 : rd (sumsOf (shardsS n a b)) (i : Int) = dsum (shardS n a b i).f1 := by
    unfold rd sumsOf shardsS shardsN
    rw [Int.toNat_natCast, List.getD_eq_getElem?_getD, List.getElem?_map, List.getElem?_map, List.getElem?_range hi]
    rfl
  unfold rightB
  rw [e0, e1, e2, decide_eq_true (by omega), decide_eq_true (by omega), decide_eq_true rfl]
  simp
theorem filter_all {α : Type} {p : α → Bool} : ∀ l : List α, (∀ x, x ∈ l → p x = true) → l.filter p = l := fun l h => List.filter_eq_self.2 h
theorem kept_all {n a : Nat} {b : ByteArray} {part : List S41} (h1 : 1 ≤ n) (ha : n ≤ a) (h16 : a ≤ 16) (hb : b.size ≤ 800) (hl : part.length ≤ 1000000) (hm : ∀ x, x ∈ part → ∃ i, i < a ∧ x = shardS n a b i) (hp : part.Pairwise (fun x y => x.f0 ≠ y.f0)) :
    stripe_kept.f n a b.size (sumsOf (shardsS n a b)) part = some part := by
  have hf : part.filter (rightB n a b.size (sumsOf (shardsS n a b))) = part := filter_all part fun x hx => by
    obtain ⟨i, hi, rfl⟩ := hm x hx
    exact shard_right hi
  rw [kept_some h1 ha h16 hb (sums_length n a b) hl (fun x hx => ?_) (fun x hx => ?_) (by rw [hf]; exact hp), hf]
  · obtain ⟨i, hi, rfl⟩ := hm x hx
    show (Lit.int .i64 (i : Int)).wf = true
    simp only [Lit.wf, Bool.and_eq_true, decide_eq_true_eq]
    constructor
    · have : IntKind.i64.min = -9223372036854775808 := rfl
      omega
    · have : IntKind.i64.max = 9223372036854775807 := rfl
      omega
  · obtain ⟨i, hi, rfl⟩ := hm x hx
    have := shardN_size n a (lenN n b.size) (padded n b) i
    have := lenN_le (n := n) h1 hb
    show (shardN n a (lenN n b.size) (padded n b) i).f1.size ≤ 1000000
    omega
theorem srepair_some {n a i : Nat} {b : ByteArray} (h1 : 1 ≤ n) (ha : n ≤ a) (h16 : a ≤ 16) (hb2 : 2 ≤ b.size) (hb : b.size ≤ 800) {part : List S41} (hm : ∀ x, x ∈ part → ∃ i, i < a ∧ x = shardS n a b i) (hp : part.Pairwise (fun x y => x.f0 ≠ y.f0)) (hl : part.length ≤ 1000000) (hlen : n ≤ part.length) (hi : i < a) {k : Nat} (hk : 1400 ≤ k) :
    stripe_Repair.f k n a b.size (sumsOf (shardsS n a b)) part i = some ((i : Int), (shardS n a b i).f1, 0) := by
  obtain ⟨k, rfl⟩ : ∃ k', k = k' + 1 := ⟨k - 1, by omega⟩
  have hs := shardN_size n a (lenN n b.size) (padded n b) i
  have hL := lenN_le (n := n) h1 hb
  have hr := right_some (n := n) (a := a) (sz := b.size) (dg := sumsOf (shardsS n a b)) h1 ha h16 hb (sums_length n a b) (shardS n a b i) (k := k) (by show (shardN n a (lenN n b.size) (padded n b) i).f1.size ≤ _; omega) (by show (shardN n a (lenN n b.size) (padded n b) i).f1.size + 2 ≤ _; omega)
  rw [shard_right hi] at hr
  unfold stripe_Repair.f
  rw [scheck_some h1 ha h16 hb2 hb (sums_length n a b) (sums_mem h1 hb), Option.bind_some, if_pos rfl, if_neg (by omega), stripe_Repair.j0, if_neg (by rw [decide_eq_false (by omega)]; decide), kept_all h1 ha h16 hb hl hm hp, Option.bind_some, repair_some h1 (by omega) ha h16 hb hm hp hlen hi (by omega), Option.bind_some, if_pos rfl]
  have hr2 : stripe_right.f k n a b.size (sumsOf (shardsS n a b)) (i : Int) (shardN n a (lenN n b.size) (padded n b) i).f1 = some true := hr
  simp only
  rw [hr2, Option.bind_some, if_pos rfl]
  rfl
/-- What Read tells of a list whose right shards are enough. -/
theorem sread_some {n a : Nat} {key k2 : Int} {text : ByteArray} (h1 : 1 ≤ n) (ha : n ≤ a) (h16 : a ≤ 16) (ht : text.size ≤ 700) (h0 : 0 ≤ key) (hk1 : key < 4294967294) (g0 : 0 ≤ k2) (gk1 : k2 < 4294967294) {l part : List S41}
    (hk : stripe_kept.f n a (sealB (3 * key + 1) text).size (sumsOf (shardsS n a (sealB (3 * key + 1) text))) l = some part) (hm : ∀ x, x ∈ part → ∃ i, i < a ∧ x = shardS n a (sealB (3 * key + 1) text) i) (hp : part.Pairwise (fun x y => x.f0 ≠ y.f0)) (hlen : n ≤ part.length) {k : Nat} (hk2 : 100 ≤ k) :
    stripe_Read.f k n a (sealB (3 * key + 1) text).size (sumsOf (shardsS n a (sealB (3 * key + 1) text))) l k2 = some (if key = k2 then (text, 0) else (⟨#[]⟩, 9)) := by
  have hsz := sealB_size (3 * key + 1) text
  unfold stripe_Read.f
  rw [scheck_some h1 ha h16 (by omega) (by omega) (sums_length n a _) (sums_mem h1 (by omega)), Option.bind_some, if_pos rfl, hk, Option.bind_some, decode_some h1 (by omega) ha h16 (by omega) hm hp hlen, Option.bind_some, if_pos rfl, sealDec_some (text := text) h0 hk1 (by omega) (by omega), Option.bind_some, if_pos rfl, if_neg (by dsimp only; omega), sealOpen_some (text := text) h0 hk1 g0 gk1 (by omega), Option.bind_some]
theorem next_pos {l : List Int} {s m r s' : Int} (hl : l.length ≤ 1000000) (hs : 0 ≤ s) (h : storagebartermake_Deck_Next.f l s m = some (r, s')) : 0 ≤ s' := by
  unfold storagebartermake_Deck_Next.f at h
  split at h
  · injection h with h
    injection h with _ h
    omega
  · split at h
    · injection h with h
      injection h with _ h
      omega
    · rw [if_pos (by omega)] at h
      obtain ⟨t, _, h⟩ := Option.bind_eq_some_iff.1 h
      injection h with h
      injection h with _ h
      rw [w64 (by omega) (by omega)] at h
      omega
theorem someAt_pos {deck : List Int} {n : Int} (hdk : deck.length ≤ 1000000) : ∀ (k : Nat) (rest out : List S41) (s : Int) (out' : List S41) (s' : Int), 0 ≤ s → someAt deck n k rest out s = some (out', s') → 0 ≤ s'
  | 0, rest, out, s, out', s', hs, h => by
    unfold someAt at h
    cases h
  | k + 1, rest, out, s, out', s', hs, h => by
    unfold someAt at h
    split at h
    · obtain ⟨t, ht, h⟩ := Option.bind_eq_some_iff.1 h
      split at h
      · exact someAt_pos hdk k _ _ _ _ _ (next_pos hdk hs ht) h
      · cases h
    · injection h with h
      injection h with _ h
      omega
theorem some_pos {deck : List Int} {pos p' n : Int} {l part : List S41} (hdk : deck.length ≤ 1000000) (hpos : 0 ≤ pos) (h : storagebarterlaw13_some.f deck pos l n = some (part, p')) : 0 ≤ p' := by
  unfold storagebarterlaw13_some.f at h
  split at h
  · exact someAt_pos hdk _ _ _ _ _ _ hpos h
  · cases h
end Go.Proofs.Ythfddndmhjkeiaa.Pure
end
