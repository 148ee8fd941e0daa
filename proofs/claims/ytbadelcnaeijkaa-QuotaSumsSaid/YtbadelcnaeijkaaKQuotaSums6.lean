import Derived.Test.YtbadelcnaeijkaaKQuotaSums5
import Derived.Laws.Bits128
import Derived.Sort.LotA
set_option linter.unusedVariables false
set_option linter.unusedSimpArgs false
section
namespace Go.Proofs.Ytbadelcnaeijkaa.Quo
open Go.RowKit Go.Proofs.Ytbadelcnaeijkaa.Q Go.Proofs.YtbadelcnaeijkaaW.PrintWords Go.Proofs.YtbadelcnaeijkaaW.PrintMore Go.Proofs.YtbadelcnaeijkaaW.EvMore
theorem rdI {l : List Int} {i : Nat} (h : i < l.length) : rd l (i : Int) = l[i] := by
  unfold rd
  rw [Int.toNat_natCast, List.getD_eq_getElem?_getD, List.getElem?_eq_getElem h]
  rfl
section
variable (a0 a1 a2 : Int) (l3 : List S66) (l4 : List S133) (l5 : List S135) (l6 : List S137) (l7 : List S139) (l8 : List S141) (l9 : List S55) (l10 : List S143) (m1 : List ByteArray) (m2 : List Int)
end
theorem same_ev (l : List Int) (hl : l.length ≤ 1000000) : Ev (fun k => tapearchivelaw32_same.f k l l) true := by
  unfold tapearchivelaw32_same.f
  refine Ev.pos rfl ?_
  have go : ∀ (d i : Nat), i + d = l.length → Ev (fun k => tapearchivelaw32_same.l0 k l l (i : Int)) true := by
    intro d
    induction d with
    | zero =>
      intro i hi
      exact Ev.next (fun k => by rw [tapearchivelaw32_same.l0]) (Ev.neg (by omega) (Ev.done fun _ => rfl))
    | succ d ih =>
      intro i hi
      refine Ev.next (fun k => by rw [tapearchivelaw32_same.l0]) (Ev.pos (by omega) (Ev.pos (by omega) (Ev.pos (by omega) (Ev.pos rfl ?_))))
      rw [wrap_in (by omega) (by omega), cast_succ]
      exact ih (i + 1) (by omega)
  exact go l.length 0 (by omega)
theorem awake_ev : Ev (fun k => tapearchivelaw32_awake.f k) true := by
  unfold tapearchivelaw32_awake.f
  refine Ev.bindS rfl (Ev.bindS rfl (Ev.bindS (a := (1, 20)) (by kernel_rfl) (Ev.bindS (a := ([4, 3, 3], 0)) (by kernel_rfl) (Ev.bindS (a := (100, true)) (by kernel_rfl) (Ev.bindS (a := 60) (by kernel_rfl) ?_)))))
  refine Ev.pos rfl (Ev.pos rfl (Ev.pos rfl (Ev.pos rfl (Ev.both (same_ev [4, 3, 3] (by simp)) (Ev.pos rfl (Ev.pos rfl (Ev.done fun _ => rfl)))))))
end Go.Proofs.Ytbadelcnaeijkaa.Quo
end
section
namespace Go.Proofs.Ytbadelcnaeijkaa.Q
open Go.RowKit Go.Proofs.YtbadelcnaeijkaaW.PrintWords Go.Proofs.YtbadelcnaeijkaaW.PrintLast Go.Proofs.YtbadelcnaeijkaaW.PrintMore
attribute [local go_sem] max2_int min2_int max_two min_two max_three min_three max_four min_four
attribute [local go_sem ↓] isSome_setCell
attribute [local go_sem] string_gtr
set_option linter.unusedVariables false
set_option linter.unusedSimpArgs false
end Go.Proofs.Ytbadelcnaeijkaa.Q
end
section
namespace Go.Proofs.Ytbadelcnaeijkaa.Quo
open Go.RowKit Go.Proofs.Ytbadelcnaeijkaa.Q Go.Proofs.YtbadelcnaeijkaaW.PrintWords Go.Proofs.YtbadelcnaeijkaaW.PrintMore Go.Proofs.YtbadelcnaeijkaaW.EvMore
def row (n : Nat) (f : Nat → Int) : List Int := (List.range n).map f
theorem order_ex (R : Nat → Int) (n : Nat) : ∃ d' : Array Int, ((∀ s, s < n → ∃ j : Nat, j < n ∧ d'[s]! = (j : Int) ∧ rk n R j = s) ∧ (∀ j, j < n → ∃ s, s < n ∧ d'[s]! = (j : Int))) ∧ SrtT (TK fun i => R i.toNat) 0 n d' := by
  obtain ⟨P, S⟩ := Sort.insertionSort_holds (lt := ltK fun i => R i.toNat) (swo_ltK _) (idRow n) 0 n (by omega) (by rw [idRow_size]; exact Nat.le_refl _)
  have S' : SrtT (TK fun i => R i.toNat) 0 n (Sort.insertionSort (ltK fun i => R i.toNat) (idRow n) 0 n) := fun p q h1 h2 h3 => S p q h1 h2 h3
  exact ⟨_, rank_at R n (idRow n) _ (idRow_size n) (fun p hp => idRow_at n p hp) P S', S'⟩
theorem rk_at (R : Nat → Int) (n k : Nat) (hk : k < n) : ∃ j, j < n ∧ rk n R j = k ∧ ∀ i, i < n → i ≠ j → (rk n R i < k ∨ (k < rk n R i ∧ (R i < R j ∨ (R i = R j ∧ j < i)))) := by
  obtain ⟨d, ⟨h1, h2⟩, hs⟩ := order_ex R n
  obtain ⟨j, hj, ej, rj⟩ := h1 k hk
  refine ⟨j, hj, rj, fun i hi hne => ?_⟩
  obtain ⟨s, hs2, es⟩ := h2 i hi
  obtain ⟨i2, _, ei, ri⟩ := h1 s hs2
  have hii : i2 = i := by omega
  subst hii
  rw [ri]
  have hsk : s ≠ k := fun e => hne (by subst e; omega)
  by_cases c : s < k
  · exact .inl c
  · refine .inr ⟨by omega, ?_⟩
    have := hs k s (by omega) (by omega) hs2
    unfold TK at this
    rw [ej, es] at this
    simp only [ltK, decide_eq_false_iff_not, Int.toNat_natCast] at this
    omega
section
variable (n : Nat) (R p : Nat → Int)
end
end Go.Proofs.Ytbadelcnaeijkaa.Quo
end
section
namespace Go.Proofs.Ytbadelcnaeijkaa.Quo
open Go.RowKit Go.Proofs.Ytbadelcnaeijkaa.Q Go.Proofs.YtbadelcnaeijkaaW.PrintWords Go.Proofs.YtbadelcnaeijkaaW.PrintMore Go.Proofs.YtbadelcnaeijkaaW.EvMore
def sumTo (f : Nat → Int) : Nat → Int
  | 0 => 0
  | n + 1 => sumTo f n + f n
theorem sumTo_congr {f g : Nat → Int} : ∀ n, (∀ i, i < n → f i = g i) → sumTo f n = sumTo g n
  | 0, _ => rfl
  | n + 1, h => by
    unfold sumTo
    rw [sumTo_congr n (fun i hi => h i (by omega)), h n (by omega)]
theorem sumTo_add (f g : Nat → Int) : ∀ n, sumTo (fun i => f i + g i) n = sumTo f n + sumTo g n
  | 0 => rfl
  | n + 1 => by
    unfold sumTo
    rw [sumTo_add f g n]
    omega
theorem sumTo_zero : ∀ n, sumTo (fun _ => 0) n = 0
  | 0 => rfl
  | n + 1 => by
    unfold sumTo
    rw [sumTo_zero n]
    rfl
theorem sumTo_one (j : Nat) : ∀ n, sumTo (fun i => if i = j then 1 else 0) n = if j < n then 1 else 0
  | 0 => by simp [sumTo]
  | n + 1 => by
    unfold sumTo
    rw [sumTo_one j n]
    by_cases c : n = j
    · subst c; rw [if_neg (by omega), if_pos rfl, if_pos (by omega)]; rfl
    · rw [if_neg c]
      by_cases c2 : j < n
      · rw [if_pos c2, if_pos (by omega)]; rfl
      · rw [if_neg c2, if_neg (by omega)]; rfl
theorem picked (R : Nat → Int) (n : Nat) : ∀ m, m ≤ n → sumTo (fun j => if rk n R j < m then 1 else 0) n = m
  | 0, _ => by
    rw [sumTo_congr (g := fun _ => 0) n (fun i _ => by simp), sumTo_zero]
    rfl
  | m + 1, h => by
    obtain ⟨j, hj, rj, hmax⟩ := rk_at R n m (by omega)
    have e : ∀ i, i < n → (if rk n R i < m + 1 then (1 : Int) else 0) = (if rk n R i < m then 1 else 0) + (if i = j then 1 else 0) := fun i hi => by
      by_cases c : i = j
      · subst c; rw [if_pos (by omega), if_neg (by omega), if_pos rfl]; rfl
      · rw [if_neg c]
        rcases hmax i hi c with h | ⟨h, _⟩
        · rw [if_pos (by omega), if_pos h]; rfl
        · rw [if_neg (by omega), if_neg (by omega)]; rfl
    rw [sumTo_congr n e, sumTo_add, picked R n m (by omega), sumTo_one, if_pos hj]
    omega
theorem sumTo_le (R : Nat → Int) (a : Int) (ha : 0 < a) : ∀ n, (∀ i, i < n → 0 ≤ R i ∧ R i < a) → sumTo R n ≤ ((List.range n).countP fun i => decide (0 < R i)) * (a - 1)
  | 0, _ => by simp [sumTo]
  | n + 1, h => by
    have ih := sumTo_le R a ha n (fun i hi => h i (by omega))
    have hn := h n (by omega)
    unfold sumTo
    rw [List.range_succ, List.countP_append]
    by_cases c : 0 < R n
    · have e : ([n].countP fun i => decide (0 < R i)) = 1 := by simp [c]
      rw [e, Int.natCast_add, Int.add_mul]
      omega
    · have e : ([n].countP fun i => decide (0 < R i)) = 0 := by simp [c]
      rw [e, Nat.add_zero]
      omega
theorem picked_pos (R : Nat → Int) (n m : Nat) (a : Int) (ha : 0 < a) (hR : ∀ i, i < n → 0 ≤ R i ∧ R i < a) (hm : sumTo R n = m * a) (j : Nat) (hj : j < n) (hr : rk n R j < m) : 0 < R j := by
  by_cases c : 0 < R j
  · exact c
  · have h0 : R j = 0 := by have := hR j hj; omega
    have hle : ((List.range n).countP fun i => decide (0 < R i)) ≤ rk n R j := by
      unfold rk
      refine List.countP_mono_left fun i _ hi => ?_
      have : 0 < R i := of_decide_eq_true hi
      exact decide_eq_true (.inl (by omega))
    have hs := sumTo_le R a ha n hR
    have h1 : (((List.range n).countP fun i => decide (0 < R i) : Nat) : Int) * (a - 1) ≤ ((m : Int) - 1) * (a - 1) := Int.mul_le_mul_of_nonneg_right (by omega) (by omega)
    have h3 : ((m : Int) - 1) * (a - 1) = m * a - m - a + 1 := by
      rw [Int.sub_mul, Int.one_mul, Int.mul_sub, Int.mul_one]
      omega
    rw [h3] at h1
    generalize (((List.range n).countP fun i => decide (0 < R i) : Nat) : Int) * (a - 1) = X at *
    generalize (m : Int) * a = Z at *
    omega
theorem rk_mono (R : Nat → Int) (n i k : Nat) (h : R k < R i) : rk n R i ≤ rk n R k := by
  unfold rk
  refine List.countP_mono_left fun x _ hx => ?_
  have : R i < R x ∨ (R x = R i ∧ x < i) := of_decide_eq_true hx
  exact decide_eq_true (.inl (by omega))
theorem parts_sumTo (t a : Int) (l : List Int) : ∀ i, i ≤ l.length → parts t a l i = sumTo (fun j => t * l[j]! / a) i
  | 0, _ => by simp [parts, sumTo]
  | i + 1, h => by
    rw [parts_step t a l i h, parts_sumTo t a l i (by omega)]
    rfl
theorem rests_sumTo (t a : Int) (l : List Int) : ∀ i, i ≤ l.length → rests t a l i = sumTo (fun j => t * l[j]! % a) i
  | 0, _ => by simp [rests, sumTo]
  | i + 1, h => by
    rw [rests_step t a l i h, rests_sumTo t a l i (by omega)]
    rfl
structure Good (t a : Int) (l r : List Int) : Prop where
  len : r.length = l.length
  bd : ∀ i, i < l.length → 0 ≤ r[i]! ∧ r[i]! ≤ 1000001 ∧ t * l[i]! / a ≤ r[i]! ∧ r[i]! ≤ t * l[i]! / a + 1 ∧ r[i]! * a < t * l[i]! + a
  mono : ∀ i k, i < l.length → k < l.length → l[k]! < l[i]! → r[k]! ≤ r[i]!
  sum : sumTo (fun j => r[j]!) l.length = t
theorem share_good (t a : Int) (l : List Int) (ht : 0 ≤ t ∧ t ≤ 1000000) (ha : 0 < a) (hs : l.sum = a) (hx : ∀ x ∈ l, 0 ≤ x ∧ x ≤ 1000000) (hn : 0 < l.length) : Good t a l (shareL t a l) := by
  have hle : ∀ i, i < l.length → 0 ≤ l[i]! ∧ l[i]! ≤ a := fun i hi => by
    rw [getElem!_pos l i hi]
    exact ⟨(hx _ (List.getElem_mem hi)).1, by have := le_sum_of_mem l (fun y hy => (hx y hy).1) _ (List.getElem_mem hi); omega⟩
  obtain ⟨m0, m1⟩ := miss_bd t a l ha hs hn
  obtain ⟨m, hm⟩ : ∃ m : Nat, t - parts t a l l.length = m := ⟨(t - parts t a l l.length).toNat, by omega⟩
  have hget : ∀ i, i < l.length → (shareL t a l)[i]! = t * l[i]! / a + if rk l.length (fun i => t * l[i]! % a) i < m then 1 else 0 := fun i hi => by
    rw [getElem!_pos (shareL t a l) i (by simp [shareL]; exact hi)]
    simp [shareL, hm]
  have hR : ∀ i, i < l.length → 0 ≤ t * l[i]! % a ∧ t * l[i]! % a < a := fun i _ => ⟨Int.emod_nonneg _ (by omega), Int.emod_lt_of_pos _ ha⟩
  have hsumR : sumTo (fun j => t * l[j]! % a) l.length = m * a := by
    have e := parts_rests t a l l.length (Nat.le_refl _)
    rw [List.take_length, hs] at e
    rw [← rests_sumTo t a l l.length (Nat.le_refl _), ← hm, Int.sub_mul, Int.mul_comm _ a, Int.mul_comm _ a]
    rw [Int.mul_comm t a] at e
    omega
  have hpick := fun j hj hr => picked_pos (fun j => t * l[j]! % a) l.length m a ha hR hsumR j hj hr
  refine ⟨by simp [shareL], fun i hi => ?_, fun i k hi hk hlt => ?_, ?_⟩
  · have hl := hle i hi
    rw [hget i hi]
    have e1 : 0 ≤ t * l[i]! / a := Int.ediv_nonneg (Int.mul_nonneg ht.1 hl.1) (by omega)
    have e2 : t * l[i]! / a ≤ t := Int.ediv_le_of_le_mul ha (Int.mul_le_mul_of_nonneg_left hl.2 ht.1)
    have e3 := Int.mul_ediv_add_emod (t * l[i]!) a
    have e4 := hR i hi
    have e5 := hpick i hi
    rw [Int.mul_comm a] at e3
    by_cases c : rk l.length (fun i => t * l[i]! % a) i < m
    · rw [if_pos c]
      have e6 := e5 c
      refine ⟨by omega, by omega, by omega, by omega, ?_⟩
      rw [Int.add_mul, Int.one_mul]
      omega
    · rw [if_neg c]
      refine ⟨by omega, by omega, by omega, by omega, ?_⟩
      rw [Int.add_zero]
      omega
  · rw [hget i hi, hget k hk]
    have hmul : t * l[k]! ≤ t * l[i]! := Int.mul_le_mul_of_nonneg_left (by omega) ht.1
    have hdiv : t * l[k]! / a ≤ t * l[i]! / a := Int.ediv_le_ediv ha hmul
    by_cases c : rk l.length (fun i => t * l[i]! % a) k < m
    · rw [if_pos c]
      by_cases c2 : rk l.length (fun i => t * l[i]! % a) i < m
      · rw [if_pos c2]; omega
      · rw [if_neg c2]
        by_cases e : t * l[k]! / a = t * l[i]! / a
        · exfalso
          have e3 := Int.mul_ediv_add_emod (t * l[i]!) a
          have e4 := Int.mul_ediv_add_emod (t * l[k]!) a
          rw [e] at e4
          by_cases ct : t = 0
          · have h0 := hpick k hk c
            simp only [ct, Int.zero_mul, Int.zero_emod] at h0
            omega
          · have hlt2 : t * l[k]! < t * l[i]! := Int.mul_lt_mul_of_pos_left hlt (by omega)
            have := rk_mono (fun i => t * l[i]! % a) l.length i k (by show t * l[k]! % a < t * l[i]! % a; omega)
            omega
        · omega
    · rw [if_neg c]
      split <;> omega
  · rw [sumTo_congr l.length (fun i hi => hget i hi), sumTo_add, picked _ _ m (by omega), ← parts_sumTo t a l l.length (Nat.le_refl _)]
    omega
section
variable (t : Int) (l r : List Int) (a : Int)
theorem sums_l3 (hn : r.length ≤ 40) (hb : ∀ i, i < r.length → 0 ≤ r[i]! ∧ r[i]! ≤ 1000001) (hsum : sumTo (fun j => r[j]!) r.length = t) : Ev (fun k => tapearchivelaw32_QuotaSums.l3 k t r 0 0) true := by
  have hbd : ∀ i, i ≤ r.length → 0 ≤ sumTo (fun j => r[j]!) i ∧ sumTo (fun j => r[j]!) i ≤ i * 1000001 := by
    intro i
    induction i with
    | zero => intro _; simp [sumTo]
    | succ i ih =>
      intro h
      have h1 := ih (by omega)
      have h2 := hb i (by omega)
      unfold sumTo
      omega
  have go : ∀ (d i : Nat), i + d = r.length → Ev (fun k => tapearchivelaw32_QuotaSums.l3 k t r (sumTo (fun j => r[j]!) i) (i : Int)) true := by
    intro d
    induction d with
    | zero =>
      intro i hi
      obtain rfl : i = r.length := by omega
      exact Ev.next (fun k => by rw [tapearchivelaw32_QuotaSums.l3]) (Ev.neg (by omega) (Ev.pos hsum (Ev.both awake_ev (Ev.done fun _ => rfl))))
    | succ d ih =>
      intro i hi
      have h : i < r.length := by omega
      have h1 := hbd i (by omega)
      have h2 := hb i h
      refine Ev.next (fun k => by rw [tapearchivelaw32_QuotaSums.l3]) (Ev.pos (by omega) (Ev.pos (by omega) ?_))
      rw [rdI h, ← getElem!_pos r i h, wrap_in (by omega) (by omega), wrap_in (by omega) (by omega), cast_succ]
      exact ih (i + 1) (by omega)
  exact go r.length 0 (by omega)
theorem sums_l1 (hn : l.length ≤ 40) (ht : 0 ≤ t ∧ t ≤ 1000000) (ha : 0 < a ∧ a ≤ 40000000) (hx : ∀ x ∈ l, 0 ≤ x ∧ x ≤ 1000000) (G : Good t a l r) : Ev (fun k => tapearchivelaw32_QuotaSums.l1 k t l a r 0) true := by
  have hlen := G.len
  have go2 : ∀ i, i < l.length → Ev (fun k => tapearchivelaw32_QuotaSums.l1 k t l a r ((i + 1 : Nat) : Int)) true → ∀ (d k2 : Nat), k2 + d = r.length → Ev (fun k => tapearchivelaw32_QuotaSums.l2 k t l a r (i : Int) (k2 : Int)) true := by
    intro i hi hnext d
    induction d with
    | zero =>
      intro k2 hk
      refine Ev.next (fun k => by rw [tapearchivelaw32_QuotaSums.l2]) (Ev.neg (by omega) ?_)
      rw [wrap_in (by omega) (by omega), cast_succ]
      exact hnext
    | succ d ih =>
      intro k2 hk
      have h : k2 < l.length := by omega
      refine Ev.next (fun k => by rw [tapearchivelaw32_QuotaSums.l2]) (Ev.pos (by omega) (Ev.pos (by omega) (Ev.pos (by omega) (Ev.pos (by omega) (Ev.pos (by omega) ?_)))))
      rw [rdI hi, rdI h, rdI (l := r) (i := i) (by omega), rdI (l := r) (i := k2) (by omega), wrap_in (by omega) (by omega), cast_succ]
      have hm := G.mono i k2 hi h
      rw [getElem!_pos l i hi, getElem!_pos l k2 h, getElem!_pos r i (by omega), getElem!_pos r k2 (by omega)] at hm
      by_cases c : l[i] > l[k2]
      · have := hm c
        exact Ev.pos c (Ev.pos (by omega) (Ev.neg (by omega) (ih (k2 + 1) (by omega))))
      · exact Ev.neg c (ih (k2 + 1) (by omega))
  have go : ∀ (d i : Nat), i + d = r.length → Ev (fun k => tapearchivelaw32_QuotaSums.l1 k t l a r (i : Int)) true := by
    intro d
    induction d with
    | zero =>
      intro i hi
      refine Ev.next (fun k => by rw [tapearchivelaw32_QuotaSums.l1]) (Ev.neg (by omega) ?_)
      exact sums_l3 t r (by omega) (fun i hi => ⟨(G.bd i (by omega)).1, (G.bd i (by omega)).2.1⟩) (by rw [hlen]; exact G.sum)
    | succ d ih =>
      intro i hi
      have h : i < l.length := by omega
      obtain ⟨g1, g2, g3, g4, g5⟩ := G.bd i h
      have hxi := hx _ (List.getElem_mem h)
      rw [getElem!_pos l i h, getElem!_pos r i (by omega)] at *
      have hp0 : 0 ≤ t * l[i] := Int.mul_nonneg ht.1 hxi.1
      have hp1 : t * l[i] ≤ 1000000 * 1000000 := Int.mul_le_mul ht.2 hxi.2 hxi.1 (by omega)
      have hq0 : 0 ≤ t * l[i] / a := Int.ediv_nonneg hp0 (by omega)
      have hq1 : t * l[i] / a ≤ t * l[i] := Int.ediv_le_self _ hp0
      have hr0 : 0 ≤ r[i] * a := Int.mul_nonneg g1 (by omega)
      have hr1 : r[i] * a ≤ 1000001 * 40000000 := Int.mul_le_mul g2 ha.2 (by omega) (by omega)
      have htd : Int.tdiv (t * l[i]) a = t * l[i] / a := Int.tdiv_eq_ediv_of_nonneg hp0
      refine Ev.next (fun k => by rw [tapearchivelaw32_QuotaSums.l1]) (Ev.pos (by omega) (Ev.pos (by omega) (Ev.pos (by omega) (Ev.neg (by omega) ?_))))
      rw [rdI h, rdI (l := r) (i := i) (by omega), wrap_in (i := t * l[i]) (by omega) (by omega), htd]
      generalize t * l[i] = P at *
      generalize P / a = q at *
      generalize r[i] * a = B at *
      rw [wrap_in (i := q) (by omega) (by omega), wrap_in (i := q + 1) (by omega) (by omega), wrap_in (i := B) (by omega) (by omega), wrap_in (i := P + a) (by omega) (by omega)]
      refine Ev.neg (by omega) (Ev.neg (by omega) ?_)
      rw [decide_eq_false (by omega : ¬ (B ≥ P + a))]
      have hgo := go2 i h (ih (i + 1) (by omega)) r.length 0 (by omega)
      refine Ev.next (fun k => by rw [tapearchivelaw32_QuotaSums.j5]) ?_
      exact Ev.neg Bool.false_ne_true hgo
  exact go r.length 0 (by omega)
theorem share_f'' (h : l.length ≤ 40) : quota_Share.f t l = some (shareS t l) := if_pos h
theorem sumG_small : ∀ (l : List Int) (s : Int), 0 ≤ s → s + l.length * 1000000 ≤ 1125899906842624 → (∀ x ∈ l, 0 ≤ x ∧ x ≤ 1000000) → sumG s l = (s + l.sum, true)
  | [], s, _, _, _ => by simp [sumG]
  | x :: xs, s, h0, h1, hx => by
    have hxx := hx x List.mem_cons_self
    rw [List.length_cons] at h1
    have ih := sumG_small xs (s + x) (by omega) (by omega) (fun y hy => hx y (List.mem_cons_of_mem _ hy))
    unfold sumG
    rw [if_pos ⟨(num_iff _).2 ⟨by omega, by omega⟩, (num_iff _).2 ⟨by omega, by omega⟩⟩, ih, List.sum_cons]
    congr 1
    omega
theorem sums_j0 (hn : l.length ≤ 40) : Ev (fun k => tapearchivelaw32_QuotaSums.j0 k t l) true := by
  have main : ∀ (a : Int), a = l.sum → (∀ x ∈ l, 0 ≤ x ∧ x ≤ 1000000) → Ev (fun k => (quota_Share.f t l).bind fun b => (if t < 0 then (tapearchivelaw32_QuotaSums.j2 k t l a b.1 b.2 true) else (if t > 1000000 then (tapearchivelaw32_QuotaSums.j2 k t l a b.1 b.2 true) else (tapearchivelaw32_QuotaSums.j2 k t l a b.1 b.2 (a == 0))))) true := by
    intro a hs hx
    have hsg : sumG 0 l = (a, true) := by rw [sumG_small l 0 (by omega) (by omega) hx, hs, Int.zero_add]
    have ha0 : 0 ≤ a ∧ a ≤ 40000000 := by
      have h1 := (num_iff _).1 (sumG_num l 0 (by decide) (by rw [hsg]))
      rw [hsg] at h1
      refine ⟨h1.1, ?_⟩
      have h2 : ∀ m : List Int, (∀ x ∈ m, 0 ≤ x ∧ x ≤ 1000000) → m.sum ≤ m.length * 1000000 := by
        intro m
        induction m with
        | nil => intro _; simp
        | cons y ys ih =>
          intro h
          have h3 := h y List.mem_cons_self
          have h4 := ih (fun z hz => h z (List.mem_cons_of_mem _ hz))
          rw [List.sum_cons, List.length_cons]
          omega
      have h5 := h2 l hx
      omega
    refine Ev.bindS (share_f'' t l hn) ?_
    have yes : Ev (fun k => tapearchivelaw32_QuotaSums.j2 k t l a (shareS t l).1 (shareS t l).2 true) true := by
      refine Ev.next (fun k => by rw [tapearchivelaw32_QuotaSums.j2]) (Ev.pos rfl ?_)
      by_cases c : (shareS t l).2 = 0
      · refine Ev.pos c ?_
        by_cases c2 : t = 0
        · exact Ev.pos c2 (Ev.both awake_ev (Ev.done fun _ => rfl))
        · refine Ev.neg c2 (Ev.pos ?_ (Ev.both awake_ev (Ev.done fun _ => rfl)))
          by_cases c3 : a > 0
          · exact c3
          · exfalso
            have ha : a = 0 := by omega
            unfold shareS at c
            rw [hsg] at c
            simp only [ha, if_true] at c
            by_cases cn : num t = true
            · rw [if_pos ⟨cn, trivial⟩, if_neg c2] at c
              simp at c
            · rw [if_neg (fun h => cn h.1)] at c
              simp at c
      · exact Ev.neg c (Ev.both awake_ev (Ev.done fun _ => rfl))
    by_cases c1 : t < 0
    · exact Ev.pos c1 yes
    · refine Ev.neg c1 ?_
      by_cases c2 : t > 1000000
      · exact Ev.pos c2 yes
      · refine Ev.neg c2 ?_
        by_cases c3 : a = 0
        · rw [show (a == 0) = true by rw [c3]; rfl]
          exact yes
        · rw [show (a == 0) = false from beq_eq_false_iff_ne.2 c3]
          have hS : shareS t l = (shareL t a l, 0) := by
            unfold shareS
            rw [hsg, if_pos ⟨(num_iff t).2 ⟨by omega, by omega⟩, rfl⟩, if_neg c3]
          rw [hS]
          have hpos : 0 < l.length := by
            cases l with
            | nil => simp at hs; omega
            | cons x xs => simp
          have G := share_good t a l ⟨by omega, by omega⟩ (by omega) hs.symm hx hpos
          have hbn : (((shareL t a l).length : Int) != (l.length : Int)) = false := by rw [G.len]; simp
          refine Ev.next (fun k => by rw [tapearchivelaw32_QuotaSums.j2]) (Ev.neg (by simp) (Ev.pos rfl ?_))
          rw [hbn]
          refine Ev.next (fun k => by rw [tapearchivelaw32_QuotaSums.j3]) (Ev.neg (by simp) ?_)
          exact sums_l1 t l (shareL t a l) a hn ⟨by omega, by omega⟩ ⟨by omega, by omega⟩ hx G
  refine Ev.next (fun k => by rw [tapearchivelaw32_QuotaSums.j0]) ?_
  have go : ∀ (d i : Nat) (s : Int), i + d = l.length → s = (l.take i).sum → 0 ≤ s → s ≤ i * 1000000 → (∀ x ∈ l.take i, 0 ≤ x ∧ x ≤ 1000000) → Ev (fun k => tapearchivelaw32_QuotaSums.l0 k t l s (i : Int)) true := by
    intro d
    induction d with
    | zero =>
      intro i s hi hs h0 h1 hx
      rw [List.take_of_length_le (by omega)] at hs hx
      exact Ev.next (fun k => by rw [tapearchivelaw32_QuotaSums.l0]) (Ev.neg (by omega) (main s hs hx))
    | succ d ih =>
      intro i s hi hs h0 h1 hx
      have h : i < l.length := by omega
      refine Ev.next (fun k => by rw [tapearchivelaw32_QuotaSums.l0]) (Ev.pos (by omega) (Ev.pos (by omega) ?_))
      rw [rdI h]
      by_cases c1 : l[i] < 0
      · exact Ev.pos c1 (Ev.both awake_ev (Ev.done fun _ => rfl))
      · refine Ev.neg c1 ?_
        by_cases c2 : l[i] > 1000000
        · exact Ev.pos c2 (Ev.both awake_ev (Ev.done fun _ => rfl))
        · refine Ev.neg c2 ?_
          rw [wrap_in (by omega) (by omega), wrap_in (by omega) (by omega), cast_succ]
          refine ih (i + 1) (s + l[i]) (by omega) ?_ (by omega) (by omega) (fun x hm => ?_)
          · rw [take_sum_step l i h, getElem!_pos l i h, hs]
          · rw [List.take_succ_eq_append_getElem h] at hm
            rcases List.mem_append.1 hm with hm | hm
            · exact hx x hm
            · rw [List.mem_singleton.1 hm]; exact ⟨by omega, by omega⟩
  exact go l.length 0 0 (by omega) (by simp) (by omega) (by omega) (fun x hm => by simp at hm)
end
theorem sums : Go.Proofs.Ytbadelcnaeijkaa.SQuotaSums.Pure := by
  intro t l _ _
  refine Ev.get (f := fun k => tapearchivelaw32_QuotaSums.f k t l) ?_
  unfold tapearchivelaw32_QuotaSums.f
  by_cases c : (l.length : Int) > 40
  · exact Ev.pos c (Ev.pos (by omega) (sums_j0 t (l.take 40) (by rw [List.length_take]; omega)))
  · exact Ev.neg c (sums_j0 t l (by omega))
end Go.Proofs.Ytbadelcnaeijkaa.Quo
namespace Go.Proofs.Ytbadelcnaeijkaa.Pure
theorem QuotaSums : Go.Proofs.Ytbadelcnaeijkaa.SQuotaSums.Pure := Quo.sums
end Go.Proofs.Ytbadelcnaeijkaa.Pure
end
