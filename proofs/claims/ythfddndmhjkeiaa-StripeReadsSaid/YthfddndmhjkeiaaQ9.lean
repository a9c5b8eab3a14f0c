/- Texts of this claim, put together by a small program of the session's own: PureStripeReads. -/
import Derived.Test.YthfddndmhjkeiaaQ8
import Derived.Test.YthfddndmhjkeiaaQ7
section
/- The plain law of StripeReads: the way that the row's function takes is there at every input.
Conditions: those of the given statement alone. -/
namespace Go.Proofs.Ythfddndmhjkeiaa.Pure
open Go.RowKit Go.Proofs.Ythfddndmhjkeiaa.L Go.Proofs.YthfddndmhjkeiaaW.PrintWords Go.Proofs.YthfddndmhjkeiaaW.PrintLast Go.Proofs.YthfddndmhjkeiaaW.PrintMore
set_option linter.unusedVariables false
set_option linter.unusedSimpArgs false
theorem small_loop {l : List S41} (hl : l.length ≤ 5864062014634) : ∀ (m t k : Nat) (x : Int), t + m = l.length → m + 1 ≤ k → ∃ b, storagebarterlaw13_small.l0 k x l (l.length : Int) (t : Int) = some b
  | 0, t, k, x, ht, hk => by
    obtain ⟨k, rfl⟩ : ∃ k', k = k' + 1 := ⟨k - 1, by omega⟩
    unfold storagebarterlaw13_small.l0
    rw [if_neg (by omega)]
    exact ⟨_, rfl⟩
  | m + 1, t, k, x, ht, hk => by
    obtain ⟨k, rfl⟩ : ∃ k', k = k' + 1 := ⟨k - 1, by omega⟩
    unfold storagebarterlaw13_small.l0
    rw [if_pos (by omega), if_pos (by omega), if_pos (by omega), show wrap64 ((t : Int) + 1) = ((t + 1 : Nat) : Int) from (w64 (by omega) (by omega)).trans rfl]
    exact small_loop hl m (t + 1) k _ (by omega) (by omega)
theorem mod_key {x : Int} (hx : (Lit.int .i64 x).wf = true) : ∃ r, storagebartermake_Mod.f x 4294967294 = some r ∧ 0 ≤ r ∧ r < 4294967294 := by
  unfold storagebartermake_Mod.f
  rw [if_neg (by decide)]
  have h1 := Int.tmod_lt_of_pos x (show (0 : Int) < 4294967294 by decide)
  have h2 : -4294967294 < x.tmod 4294967294 := by
    have := Int.tmod_lt_of_pos (-x) (show (0 : Int) < 4294967294 by decide)
    rw [Int.neg_tmod] at this
    omega
  rw [w64 (by omega) (by omega)]
  exact ⟨_, rfl, Int.tmod_nonneg _ (by omega), Int.tmod_lt_of_pos _ (by decide)⟩
theorem shard_wf {n a : Nat} {b : ByteArray} (h16 : a ≤ 16) {x : S41} (h : ∃ i, i < a ∧ x = shardS n a b i) : (Lit.int .i64 x.f0).wf = true := by
  obtain ⟨i, hi, rfl⟩ := h
  show (Lit.int .i64 (i : Int)).wf = true
  simp only [Lit.wf, Bool.and_eq_true, decide_eq_true_eq]
  constructor
  · have : IntKind.i64.min = -9223372036854775808 := rfl
    omega
  · have : IntKind.i64.max = 9223372036854775807 := rfl
    omega
/-- Too few right shards: Read says so. -/
theorem sread_few {n a : Nat} {key k2 : Int} {b : ByteArray} (h1 : 1 ≤ n) (ha : n ≤ a) (h16 : a ≤ 16) (hb2 : 2 ≤ b.size) (hb : b.size ≤ 800) {part : List S41} (hl : part.length ≤ 1000000) (hm : ∀ x, x ∈ part → ∃ i, i < a ∧ x = shardS n a b i) (hp : part.Pairwise (fun x y => x.f0 ≠ y.f0)) (hlen : part.length < n) (k : Nat) :
    stripe_Read.f k n a b.size (sumsOf (shardsS n a b)) part k2 = some (⟨#[]⟩, 14) := by
  unfold stripe_Read.f
  rw [scheck_some h1 ha h16 hb2 hb (sums_length n a b) (sums_mem h1 hb), Option.bind_some, if_pos rfl, kept_all h1 ha h16 hb hl hm hp, Option.bind_some, decode_few h1 (by omega) ha h16 hb hm hp hlen, Option.bind_some, if_neg (by decide)]
theorem StripeReads : storagebarterlaw13_StripeReads.Pure := by
  intro l0 a1 a2 a3 l4 hw2 hw3 hw4 hl4
  obtain ⟨bs, hbs⟩ := small_loop hl4 l4.length 0 (l4.length + 2000) 0 (by omega) (by omega)
  refine ⟨l4.length + 2000, bs, hbs, fun hf hs _ => ?_⟩
  clear hbs
  obtain ⟨n, a, p1, n1, n5, na, a4, hp1, hC⟩ := code_some hf
  obtain ⟨kk, hkk, k0, k9⟩ := mod_key hw2
  obtain ⟨ww, hww, g0, g9⟩ := mod_key hw3
  have hsz := sealB_size (3 * kk + 1) a1
  have hM := make_some (n := n) (a := a) (text := a1) (key := kk) n1 na (by omega) (by omega) k0 k9 (k := l4.length + 2000) (by omega)
  have hread := fun k2 hk2 hk3 l part => sread_some (n := n) (a := a) (key := kk) (k2 := k2) (text := a1) (l := l) (part := part) n1 na (by omega) (by omega) k0 k9 hk2 hk3
  generalize hb : sealB (3 * kk + 1) a1 = b at hsz hM hread
  have hlen : (shardsS n a b).length = a := shardsN_length ..
  have hpw : (shardsS n a b).Pairwise (fun x y => x.f0 ≠ y.f0) := shardsN_pw ..
  obtain ⟨r0, p2, hN, r1, r2, hp2⟩ := next_some (l := l0) (s := p1) (m := (a : Int) - n + 1) (by omega) hp1 (by omega) (by omega)
  obtain ⟨r, rfl⟩ : ∃ r : Nat, r0 = (r : Int) := ⟨r0.toNat, by omega⟩
  obtain ⟨part, p3, hso, q1, q2, q3⟩ := some_some (deck := l0) (pos := p2) (n := n + r) (l := shardsS n a b) (by omega) hp2 (by omega) hpw
  have hpl : part.length = n + r := by omega
  have hm : ∀ x, x ∈ part → ∃ i, i < a ∧ x = shardS n a b i := fun x hx => shardsN_mem (q1 x hx)
  have hall := kept_all (n := n) (a := a) (b := b) n1 na (by omega) (by omega) (by omega) hm q2
  obtain ⟨u2, e2, hR2, hE⟩ : ∃ (u2 : ByteArray) (e2 : Int), stripe_Read.f (l4.length + 2000) n a b.size (sumsOf (shardsS n a b)) part ww = some (u2, e2) ∧ ((kk = ww ∧ e2 = 0) ∨ (kk ≠ ww ∧ e2 = 9)) := by
    have h := hread ww g0 g9 part part hall hm q2 (by omega) (k := l4.length + 2000) (by omega)
    by_cases e : kk = ww
    · rw [if_pos e] at h
      exact ⟨_, _, h, .inl ⟨e, rfl⟩⟩
    · rw [if_neg e] at h
      exact ⟨_, _, h, .inr ⟨e, rfl⟩⟩
  refine ⟨n, a, r, n + r, p1, p2, p3, kk, ww, (b.size : Int), e2, u2, ⟨#[]⟩, sumsOf (shardsS n a b), shardsS n a b, part, rightB n a b.size (sumsOf (shardsS n a b)), by omega, by omega, n1, na, hC, hkk, hww, hM, hlen, hN, rfl, by omega, hso, by omega, by omega, fun x _ => ?_, ?_, hR2, hE, ?_⟩
  · exact sRight_some' n1 na (by omega) (by omega) (by omega) (sums_length n a b) (sums_mem n1 (by omega)) x (.inl (by omega))
  · have hflt : ((l4.filter fun x => !rightB n a b.size (sumsOf (shardsS n a b)) x) ++ part).filter (rightB n a b.size (sumsOf (shardsS n a b))) = part := by
      rw [List.filter_append, List.filter_filter]
      have e1 : (l4.filter fun x => rightB n a b.size (sumsOf (shardsS n a b)) x && !rightB n a b.size (sumsOf (shardsS n a b)) x) = [] := by
        rw [List.filter_eq_nil_iff]
        intro x _
        cases rightB n a b.size (sumsOf (shardsS n a b)) x <;> decide
      have e2 : part.filter (rightB n a b.size (sumsOf (shardsS n a b))) = part := filter_all part fun x hx => by
        obtain ⟨i, hi, rfl⟩ := hm x hx
        exact shard_right hi
      rw [e1, e2, List.nil_append]
    have hfl := List.length_filter_le (fun x => !rightB n a b.size (sumsOf (shardsS n a b)) x) l4
    have hk := kept_some' (n := n) (a := a) (sz := b.size) (dg := sumsOf (shardsS n a b)) (l := (l4.filter fun x => !rightB n a b.size (sumsOf (shardsS n a b)) x) ++ part) n1 na (by omega) (by omega) (sums_length n a b) (by rw [List.length_append]; omega) (fun x hx => by
      rcases List.mem_append.1 hx with h | h
      · exact hw4 x (List.mem_filter.1 h).1
      · exact shard_wf (by omega) (hm x h)) (by rw [hflt]; exact q2)
    rw [hflt] at hk
    have := hread kk k0 k9 _ part hk hm q2 (by omega) (k := l4.length + 2000) (by omega)
    rwa [if_pos rfl] at this
  · have hsub : (part.take (n - 1)).Sublist part := List.take_sublist _ _
    exact sread_few (key := kk) n1 na (by omega) (by omega) (by omega) (by rw [List.length_take]; omega) (fun x hx => hm x (hsub.subset hx)) (q2.sublist hsub) (by rw [List.length_take]; omega) _
end Go.Proofs.Ythfddndmhjkeiaa.Pure
end
