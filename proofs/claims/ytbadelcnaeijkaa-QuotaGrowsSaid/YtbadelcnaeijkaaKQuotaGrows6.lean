import Derived.Test.YtbadelcnaeijkaaKQuotaGrows5
import Derived.Shelf.Bits.Mul64
set_option linter.unusedVariables false
set_option linter.unusedSimpArgs false
section
namespace Go.Proofs.Ytbadelcnaeijkaa.Q
open Go.RowKit Go.Proofs.YtbadelcnaeijkaaW.PrintWords Go.Proofs.YtbadelcnaeijkaaW.PrintLast Go.Proofs.YtbadelcnaeijkaaW.PrintMore
attribute [local go_sem] max2_int min2_int max_two min_two max_three min_three max_four min_four
attribute [local go_sem ↓] isSome_setCell
attribute [local go_sem] string_gtr
set_option linter.unusedVariables false
set_option linter.unusedSimpArgs false
def sumG (t : Int) : List Int → Int × Bool
  | [] => (t, true)
  | x :: xs => if num x = true ∧ num (t + x) = true then sumG (t + x) xs else (0, false)
theorem num_iff (x : Int) : num x = true ↔ 0 ≤ x ∧ x ≤ 1125899906842624 := by unfold num; exact decide_eq_true_iff
theorem number_eval (x : Int) : quota_number.f x = some (num x) := by
  unfold quota_number.f num
  by_cases h1 : 0 ≤ x
  · by_cases h2 : x ≤ 1125899906842624
    · simp [h1, h2]
    · simp [h1, h2]
  · simp [h1]
theorem sum_l0 (l : List Int) (hl : l.length ≤ 1000000000) : ∀ (m k i : Nat) (t : Int), i + m = l.length → m < k → 0 ≤ t → t ≤ 1125899906842624 → quota_sum.l0 k t l (l.length : Int) (i : Int) = some (sumG t (l.drop i))
  | 0, k + 1, i, t, him, _, _, _ => by
    unfold quota_sum.l0
    rw [if_neg (by omega), List.drop_of_length_le (by omega), sumG]
  | m + 1, k + 1, i, t, him, hk, h0, h1 => by
    have hi : i < l.length := by omega
    unfold quota_sum.l0
    rw [if_pos (by omega), if_pos (by omega), if_pos (by omega)]
    have hrd : rd l (i : Int) = l[i] := by simp [rd, hi]
    rw [hrd, number_eval, List.drop_eq_getElem_cons hi, sumG]
    simp only [Option.bind_some]
    by_cases c : num l[i] = true
    · rw [if_pos c]
      have cc := (num_iff _).1 c
      have hw : wrap64 (t + l[i]) = t + l[i] := by generalize l[i] = x at *; unfold wrap64; omega
      rw [hw, number_eval]
      simp only [Option.bind_some]
      by_cases c2 : num (t + l[i]) = true
      · rw [if_pos c2, if_pos ⟨c, c2⟩]
        have cc2 := (num_iff _).1 c2
        have hwi : wrap64 ((i : Int) + 1) = ((i + 1 : Nat) : Int) := by unfold wrap64; omega
        rw [hwi]
        exact sum_l0 l hl m k (i + 1) (t + l[i]) (by omega) (by omega) cc2.1 cc2.2
      · rw [if_neg c2, if_neg (fun h => c2 h.2)]
    · rw [if_neg c, if_neg (fun h => c h.1)]
theorem sum_f (l : List Int) (hl : l.length ≤ 1000000000) : quota_sum.f (l.length + 1) l = some (sumG 0 l) := by
  have := sum_l0 l hl l.length (l.length + 1) 0 0 (by omega) (by omega) (by omega) (by omega)
  exact this
theorem sumG_ok : ∀ (l : List Int) (t : Int), (sumG t l).2 = true → (sumG t l).1 = t + l.sum ∧ (∀ x ∈ l, num x = true)
  | [], t, _ => by simp [sumG]
  | x :: xs, t, h => by
    unfold sumG at h ⊢
    by_cases c : num x = true ∧ num (t + x) = true
    · rw [if_pos c] at h ⊢
      obtain ⟨h1, h2⟩ := sumG_ok xs (t + x) h
      refine ⟨by rw [h1, List.sum_cons]; omega, fun y hy => ?_⟩
      rcases List.mem_cons.1 hy with rfl | hy
      · exact c.1
      · exact h2 y hy
    · rw [if_neg c] at h; cases h
theorem sumG_num : ∀ (l : List Int) (t : Int), num t = true → (sumG t l).2 = true → num (sumG t l).1 = true
  | [], t, ht, _ => ht
  | x :: xs, t, ht, h => by
    unfold sumG at h ⊢
    by_cases c : num x = true ∧ num (t + x) = true
    · rw [if_pos c] at h ⊢; exact sumG_num xs (t + x) c.2 h
    · rw [if_neg c] at h; cases h
def parts (t a : Int) (l : List Int) (i : Nat) : Int := ((l.take i).map fun x => t * x / a).sum
def rests (t a : Int) (l : List Int) (i : Nat) : Int := ((l.take i).map fun x => t * x % a).sum
theorem parts_step (t a : Int) (l : List Int) (i : Nat) (h : i < l.length) : parts t a l (i + 1) = parts t a l i + t * l[i]! / a := by
  rw [getElem!_pos l i h]
  unfold parts
  rw [List.take_add_one, List.getElem?_eq_getElem h, List.map_append, List.sum_append]
  simp [-List.map_take]
theorem rests_step (t a : Int) (l : List Int) (i : Nat) (h : i < l.length) : rests t a l (i + 1) = rests t a l i + t * l[i]! % a := by
  rw [getElem!_pos l i h]
  unfold rests
  rw [List.take_add_one, List.getElem?_eq_getElem h, List.map_append, List.sum_append]
  simp [-List.map_take]
theorem take_sum_step (l : List Int) (i : Nat) (h : i < l.length) : (l.take (i + 1)).sum = (l.take i).sum + l[i]! := by
  rw [getElem!_pos l i h, List.take_add_one, List.getElem?_eq_getElem h, List.sum_append]
  simp
theorem parts_rests (t a : Int) (l : List Int) : ∀ i, i ≤ l.length → a * parts t a l i + rests t a l i = t * (l.take i).sum
  | 0, _ => by simp [parts, rests]
  | i + 1, h => by
    rw [parts_step t a l i h, rests_step t a l i h, take_sum_step l i h, Int.mul_add, Int.mul_add]
    have := parts_rests t a l i (by omega)
    have e := Int.mul_ediv_add_emod (t * l[i]!) a
    omega
theorem rests_bd (t a : Int) (ha : 0 < a) (l : List Int) : ∀ i, i ≤ l.length → 0 ≤ rests t a l i ∧ rests t a l i ≤ i * (a - 1)
  | 0, _ => by simp [rests]
  | i + 1, h => by
    rw [rests_step t a l i h]
    have := rests_bd t a ha l i (by omega)
    have e1 := Int.emod_nonneg (t * l[i]!) (by omega : a ≠ 0)
    have e2 := Int.emod_lt_of_pos (t * l[i]!) ha
    have e3 : ((i + 1 : Nat) : Int) * (a - 1) = i * (a - 1) + (a - 1) := by rw [Int.natCast_add, Int.add_mul]; simp
    omega
theorem parts_bd (t a : Int) (ht : 0 ≤ t ∧ t ≤ 1125899906842624) (ha : 0 < a) (l : List Int) (hx : ∀ x ∈ l, 0 ≤ x ∧ x ≤ a) : ∀ i, i ≤ l.length → 0 ≤ parts t a l i ∧ parts t a l i ≤ i * 1125899906842624
  | 0, _ => by simp [parts]
  | i + 1, h => by
    rw [parts_step t a l i h]
    have := parts_bd t a ht ha l hx i (by omega)
    have hm := hx l[i]! (by rw [getElem!_pos l i h]; exact List.getElem_mem h)
    have e1 : 0 ≤ t * l[i]! / a := Int.ediv_nonneg (Int.mul_nonneg ht.1 hm.1) (by omega)
    have e2 : t * l[i]! / a ≤ t := Int.ediv_le_of_le_mul ha (Int.mul_le_mul_of_nonneg_left hm.2 ht.1)
    omega
theorem miss_bd (t a : Int) (l : List Int) (ha : 0 < a) (hs : l.sum = a) (hn : 0 < l.length) : 0 ≤ t - parts t a l l.length ∧ t - parts t a l l.length < l.length := by
  have e := parts_rests t a l l.length (Nat.le_refl _)
  rw [List.take_length, hs] at e
  have b := rests_bd t a ha l l.length (Nat.le_refl _)
  have e2 : a * (t - parts t a l l.length) = rests t a l l.length := by rw [Int.mul_sub, Int.mul_comm a t]; omega
  refine ⟨?_, ?_⟩
  · by_cases c : 0 ≤ t - parts t a l l.length
    · exact c
    · have := Int.mul_neg_of_pos_of_neg ha (by omega : t - parts t a l l.length < 0)
      omega
  · by_cases c : t - parts t a l l.length < l.length
    · exact c
    · have h1 : a * (l.length : Int) ≤ a * (t - parts t a l l.length) := Int.mul_le_mul_of_nonneg_left (by omega) (by omega)
      have h2 : (l.length : Int) * (a - 1) = a * (l.length : Int) - l.length := by rw [Int.mul_sub, Int.mul_comm]; omega
      omega
theorem le_sum_of_mem : ∀ (l : List Int), (∀ x ∈ l, 0 ≤ x) → ∀ x ∈ l, x ≤ l.sum
  | [], _, x, h => by cases h
  | y :: ys, h0, x, h => by
    have hs : 0 ≤ ys.sum := by
      clear h
      have h1 : ∀ z ∈ ys, 0 ≤ z := fun z hz => h0 z (List.mem_cons_of_mem _ hz)
      clear h0
      induction ys with
      | nil => simp
      | cons z zs ih =>
        rw [List.sum_cons]
        have a1 := h1 z List.mem_cons_self
        have a2 := ih (fun q hq => h1 q (List.mem_cons_of_mem _ hq))
        omega
    have hy := h0 y List.mem_cons_self
    rw [List.sum_cons]
    rcases List.mem_cons.1 h with rfl | h
    · omega
    · have := le_sum_of_mem ys (fun z hz => h0 z (List.mem_cons_of_mem _ hz)) x h
      omega
def rk (n : Nat) (R : Nat → Int) (j : Nat) : Nat := (List.range n).countP fun i => decide (R j < R i ∨ (R i = R j ∧ i < j))
theorem countP_pre {α : Type} [Inhabited α] (p : α → Bool) (xs : List α) (s : Nat) (hs : s ≤ xs.length) (h1 : ∀ i, i < s → p xs[i]! = true) (h2 : ∀ i, s ≤ i → i < xs.length → p xs[i]! = false) : xs.countP p = s := by
  rw [← List.take_append_drop s xs, List.countP_append]
  have a1 : (xs.take s).countP p = (xs.take s).length := List.countP_eq_length.2 fun x hx => by
    obtain ⟨i, hi, rfl⟩ := List.getElem_of_mem hx
    have hi2 : i < s := by rw [List.length_take] at hi; omega
    have := h1 i hi2
    rw [getElem!_pos xs i (by omega)] at this
    rwa [List.getElem_take]
  have a2 : (xs.drop s).countP p = 0 := List.countP_eq_zero.2 fun x hx => by
    obtain ⟨i, hi, rfl⟩ := List.getElem_of_mem hx
    rw [List.length_drop] at hi
    have := h2 (s + i) (by omega) (by omega)
    rw [getElem!_pos xs (s + i) (by omega)] at this
    rw [List.getElem_drop, this]
    exact Bool.false_ne_true
  rw [a1, a2, List.length_take]
  omega
theorem toList_get! (d : Array Int) (i : Nat) : d.toList[i]! = d[i]! := by
  by_cases h : i < d.size
  · rw [getElem!_pos d.toList i (by simpa using h), getElem!_pos d i h, Array.getElem_toList]
  · rw [getElem!_neg d.toList i (by simpa using h), getElem!_neg d i h]
theorem rank_at (R : Nat → Int) (n : Nat) (d d' : Array Int) (hz : d.size = n) (hI : ∀ p, p < n → d[p]! = (p : Int)) (P : Sort.PermIn 0 n d d') (S : SrtT (TK fun i => R i.toNat) 0 n d') :
    (∀ s, s < n → ∃ j : Nat, j < n ∧ d'[s]! = (j : Int) ∧ rk n R j = s) ∧ (∀ j, j < n → ∃ s, s < n ∧ d'[s]! = (j : Int)) := by
  have hz' : d'.size = n := P.1.trans hz
  have hl : d.toList = (List.range n).map fun (i : Nat) => (i : Int) := by
    apply List.ext_getElem
    · simp [hz]
    · intro i h1 h2
      have h3 : i < n := by simpa [hz] using h1
      have := hI i h3
      rw [getElem!_pos d i (by omega)] at this
      simp [this]
  have hp : d'.toList.Perm ((List.range n).map fun (i : Nat) => (i : Int)) := by
    have := P.2.2
    rw [Array.extract_eq_self_of_le (by omega), Array.extract_eq_self_of_le (by omega), hl] at this
    exact this
  have hnd : d'.toList.Nodup := hp.nodup_iff.2 (by
    rw [List.Nodup, List.pairwise_map]
    exact List.nodup_range.imp (fun h e => h (by omega)))
  have hv : ∀ s, s < n → ∃ j : Nat, j < n ∧ d'[s]! = (j : Int) := fun s hs => by
    have hm : d'[s]! ∈ d'.toList := by rw [getElem!_pos d' s (by omega)]; exact Array.getElem_mem_toList _
    obtain ⟨j, hj, e⟩ := List.mem_map.1 (hp.mem_iff.1 hm)
    exact ⟨j, List.mem_range.1 hj, e.symm⟩
  have hne : ∀ p q, p < q → q < n → d'[p]! ≠ d'[q]! := fun p q h1 h2 e => by
    have := (List.pairwise_iff_getElem.1 hnd) p q (by simpa [hz'] using show p < n by omega) (by simpa [hz'] using h2) h1
    apply this
    rw [getElem!_pos d' p (by omega), getElem!_pos d' q (by omega)] at e
    simpa using e
  refine ⟨fun s hs => ?_, fun j hj => ?_⟩
  · obtain ⟨j, hj, ej⟩ := hv s hs
    refine ⟨j, hj, ej, ?_⟩
    have e1 : rk n R j = d'.toList.countP (fun x => ltK (fun i => R i.toNat) x (j : Int)) := by
      rw [hp.countP_eq, List.countP_map]
      unfold rk
      congr 1
      funext i
      simp only [Function.comp, ltK, Int.toNat_natCast, Int.ofNat_lt]
    rw [e1]
    refine countP_pre _ _ s (by simp [hz']; omega) (fun p hp => ?_) (fun p hp hp2 => ?_)
    · rw [toList_get!, ← ej]
      have t := S p s (by omega) hp hs
      have ne := hne p s hp hs
      unfold TK at t
      simp only [ltK, decide_eq_false_iff_not, decide_eq_true_eq] at t ⊢
      omega
    · rw [toList_get!, ← ej]
      by_cases e : p = s
      · rw [e]; exact (swo_ltK _).irrefl _
      · exact S s p (by omega) (by omega) (by simpa [hz'] using hp2)
  · have hm : (j : Int) ∈ d'.toList := hp.mem_iff.2 (List.mem_map.2 ⟨j, List.mem_range.2 hj, rfl⟩)
    obtain ⟨s, hs, e⟩ := List.getElem_of_mem hm
    refine ⟨s, by simpa [hz'] using hs, ?_⟩
    rw [← toList_get!, getElem!_pos d'.toList s hs, e]
def cnt (d : Array Int) : Nat → Nat → Int
  | 0, _ => 0
  | k + 1, j => cnt d k j + if d[k]! = (j : Int) then 1 else 0
theorem cnt_bd (d : Array Int) (j : Nat) : ∀ k, 0 ≤ cnt d k j ∧ cnt d k j ≤ k
  | 0 => by simp [cnt]
  | k + 1 => by
    have := cnt_bd d j k
    unfold cnt
    split <;> omega
theorem cnt_rank {R : Nat → Int} {n : Nat} {d' : Array Int} (h : (∀ s, s < n → ∃ j : Nat, j < n ∧ d'[s]! = (j : Int) ∧ rk n R j = s) ∧ (∀ j, j < n → ∃ s, s < n ∧ d'[s]! = (j : Int))) (j : Nat) (hj : j < n) :
    ∀ k, k ≤ n → cnt d' k j = if rk n R j < k then 1 else 0
  | 0, _ => by simp [cnt]
  | k + 1, hk => by
    have ih := cnt_rank h j hj k (by omega)
    unfold cnt
    rw [ih]
    obtain ⟨q, hq, e, r⟩ := h.1 k (by omega)
    by_cases c : q = j
    · subst c
      rw [if_pos e, r, if_neg (by omega), if_pos (by omega)]
      rfl
    · have hz0 : ¬ d'[k]! = (j : Int) := by rw [e]; omega
      rw [if_neg hz0]
      have hne : rk n R j ≠ k := fun e2 => by
        obtain ⟨s, hs, e3⟩ := h.2 j hj
        obtain ⟨j2, _, e4, r2⟩ := h.1 s hs
        have : j2 = j := by omega
        subst this
        have : s = k := by omega
        subst this
        omega
      by_cases c2 : rk n R j < k
      · rw [if_pos c2, if_pos (by omega)]; rfl
      · rw [if_neg c2, if_neg (by omega)]; rfl
end Go.Proofs.Ytbadelcnaeijkaa.Q
end
section
namespace Go.Proofs.Ytbadelcnaeijkaa.Q
open Go.RowKit Go.Proofs.YtbadelcnaeijkaaW.PrintWords Go.Proofs.YtbadelcnaeijkaaW.PrintLast Go.Proofs.YtbadelcnaeijkaaW.PrintMore
attribute [local go_sem] max2_int min2_int max_two min_two max_three min_three max_four min_four
attribute [local go_sem ↓] isSome_setCell
attribute [local go_sem] string_gtr
set_option linter.unusedVariables false
set_option linter.unusedSimpArgs false
open Go.Shelf in
set_option maxHeartbeats 8000000 in
set_option maxRecDepth 100000 in
theorem mul_walk (x y : Nat) (hx : x < 18446744073709551616) (hy : y < 18446744073709551616) (w : World) :
    Calls Try.prog 32 #[.int .u64 x, .int .u64 y] w fun e w' => e = .returned (.tuple #[.int .u64 ((x * y / 18446744073709551616 : Nat) : Int), .int .u64 ((x * y % 18446744073709551616 : Nat) : Int)]) ∧ w' = w := by
  obtain ⟨bd, bt, bw, hhi⟩ := Lib.mul64_hi x y hx hy
  have ba := Lib.half_mul_le (a := x / 4294967296) (b := y / 4294967296) (by omega) (by omega)
  have bb := Lib.half_mul_le (a := x / 4294967296) (b := y % 4294967296) (by omega) (by omega)
  have bc := Lib.half_mul_le (a := x % 4294967296) (b := y / 4294967296) (by omega) (by omega)
  have ba' : x / 4294967296 * (y / 4294967296) < 18446744073709551616 := by omega
  have bb' : x / 4294967296 * (y % 4294967296) < 18446744073709551616 := by omega
  have bc' : x % 4294967296 * (y / 4294967296) < 18446744073709551616 := by omega
  have bh1 : x / 4294967296 * (y / 4294967296) + (x / 4294967296 * (y % 4294967296) + x % 4294967296 * (y % 4294967296) / 4294967296) / 4294967296 < 18446744073709551616 := by omega
  have bh : x / 4294967296 * (y / 4294967296) + (x / 4294967296 * (y % 4294967296) + x % 4294967296 * (y % 4294967296) / 4294967296) / 4294967296 + ((x / 4294967296 * (y % 4294967296) + x % 4294967296 * (y % 4294967296) / 4294967296) % 4294967296 + x % 4294967296 * (y / 4294967296)) / 4294967296 < 18446744073709551616 := by rw [hhi]; exact Nat.div_lt_of_lt_mul (Nat.mul_lt_mul'' hx hy)
  go_enter Try.func32, Try.ntmps32
  go_wp2
  simp only [Mul64.maskN x hx, Mul64.maskN y hy, Mul64.divN, Mul64.mulN, Mul64.addN, Mul64.wrapN _ bd, Mul64.wrapN _ bb', Mul64.wrapN _ bt, Mul64.maskN _ bt, Mul64.wrapN _ bc', Mul64.wrapN _ bw, Mul64.wrapN _ ba', Mul64.wrapN _ bh1, Mul64.wrapN _ bh, Mul64.wrapM (x * y)]
  rw [hhi]
  go_ret2
  exact ⟨rfl, rfl⟩
end Go.Proofs.Ytbadelcnaeijkaa.Q
end
section
namespace Go.Proofs.Ytbadelcnaeijkaa.Q
open Go.RowKit Go.Proofs.YtbadelcnaeijkaaW.PrintWords Go.Proofs.YtbadelcnaeijkaaW.PrintLast Go.Proofs.YtbadelcnaeijkaaW.PrintMore
attribute [local go_sem] max2_int min2_int max_two min_two max_three min_three max_four min_four
attribute [local go_sem ↓] isSome_setCell
attribute [local go_sem] string_gtr
set_option linter.unusedVariables false
set_option linter.unusedSimpArgs false
set_option maxHeartbeats 8000000 in
set_option maxRecDepth 100000 in
theorem div0_walk (x y : Nat) (hx : x < 18446744073709551616) (hy : y < 18446744073709551616) (hy0 : 0 < y) (w : World) :
    Calls Try.prog 33 #[.int .u64 0, .int .u64 x, .int .u64 y] w fun e w' => e = .returned (.tuple #[.int .u64 ((x / y : Nat) : Int), .int .u64 ((x % y : Nat) : Int)]) ∧ ∃ m, w' = w.drewN m := by
  have b1 : ((y : Int) == 0) = false := beq_eq_false_iff_ne.2 (by omega)
  have b2 : decide ((y : Int) ≤ 0) = false := decide_eq_false (by omega)
  have eq : Aside0 (IntKind.u64.wrap ((x : Int) / y) = ((x / y : Nat) : Int)) := ⟨by
    rw [← Int.natCast_ediv]
    have := Nat.div_le_self x y
    generalize x / y = q at *
    rw [IntKind.wrap_u64]
    omega⟩
  go_enter Try.func33, Try.ntmps33
  go_wp2
  go_region
  all_goals go_wp2
  all_goals go_ret2
  all_goals refine ⟨?_, 1, rfl⟩
  all_goals rw [eq.out, ← Int.natCast_emod]
  all_goals rfl
end Go.Proofs.Ytbadelcnaeijkaa.Q
end
section
namespace Go.Proofs.Ytbadelcnaeijkaa.Q
open Go.RowKit Go.Proofs.YtbadelcnaeijkaaW.PrintWords Go.Proofs.YtbadelcnaeijkaaW.PrintLast Go.Proofs.YtbadelcnaeijkaaW.PrintMore
attribute [local go_sem] max2_int min2_int max_two min_two max_three min_three max_four min_four
attribute [local go_sem ↓] isSome_setCell
attribute [local go_sem] string_gtr
set_option linter.unusedVariables false
set_option linter.unusedSimpArgs false
theorem info63 : (Try.prog.info? 63).map (fun i => (i.zero, i.size, i.bytes)) = some (some (.int .u64 0), 1, 8) := by kernel_rfl
structure ShAt (t a : Int) (l : List Int) (w W : World) (s i : Nat) : Prop where
  b : Below w.heap.size w W
  hs : w.heap.size ≤ s
  sz : W.heap.size = s + 4
  o : RowAt W s l.length 3 (fun j => .int .i64 (if j < i then t * l[j]! / a else 0))
  r : RowAt W (s + 1) l.length 63 (fun j => .int .u64 (if j < i then t * l[j]! % a else 0))
  x : RowAt W (s + 2) 1 68 (fun _ => .slice (some ⟨s + 1, 0, none⟩) l.length l.length)
  d : RowAt W (s + 3) l.length 3 (fun j => .int .i64 (if j < i then (j : Int) else 0))
theorem mulDiv (T X A : Nat) (hA : 0 < A) (hA2 : A ≤ 1125899906842624) (hX : X ≤ A) (hT : T ≤ 1125899906842624) (hp : T * X < 18446744073709551616) : ∃ hi lo : Nat,
    (∀ W, Calls Try.prog 32 #[.int .u64 T, .int .u64 X] W fun e w' => e = .returned (.tuple #[.int .u64 hi, .int .u64 lo]) ∧ w' = W) ∧
    (∀ W, Calls Try.prog 33 #[.int .u64 hi, .int .u64 lo, .int .u64 A] W fun e w' => e = .returned (.tuple #[.int .u64 ((T * X / A : Nat) : Int), .int .u64 ((T * X % A : Nat) : Int)]) ∧ ∃ m, w' = W.drewN m) := by
  refine ⟨0, T * X, fun W => (mul_walk T X (by omega) (by omega) W).mono fun e w' h => ⟨?_, h.2⟩, fun W => div0_walk (T * X) A hp (by omega) hA W⟩
  rw [h.1, Nat.div_eq_of_lt hp, Nat.mod_eq_of_lt hp]
theorem wp_box {W : World} {ops : Array Oper} {rest : List Oper} {o : Oper} {a : Act} {Q : Exit → Act → World → Prop}
    (hg : o.guard = none) (hop : o.op = .alloc 68)
    (h : ∀ s W', s = W.heap.size → RowAt W' s 1 68 (fun _ => .slice none 0 0) → W'.heap.size = s + 1 → Below s W W' → wpList Try.prog ops Q rest (a.put o.dst (.pointer (some ⟨s, 0, none⟩))) W') :
    wpList Try.prog ops Q (o :: rest) a W := by
  have hu68 := Try.underlying68
  have hr : (execOp a.eval o).run Try.prog W = .ok (.value (.pointer (some ⟨W.heap.size, 0, none⟩))) (W.alloc (.cells #[.slice none 0 0] 68 (0, 0))) := by
    simp only [execOp, hop]
    go_simp
  refine Kd.event_run hg hr (h _ _ rfl ⟨#[.slice none 0 0], blk_new W _, rfl, ?_⟩ ?_ (below_alloc (Below.refl _ _) _))
  · intro j hj
    obtain rfl : j = 0 := by omega
    rfl
  · show (W.heap.push _).size = _
    rw [Array.size_push]
theorem size_setCell' (W : World) (p : Addr) (v : Value) : (W.setCell p v).heap.size = W.heap.size := by
  show (W.heap.modify _ _).size = _
  rw [Array.size_modify]
theorem sh_start {t a : Int} {l : List Int} {w w5 W6 W7 W8 W9 : World} {s : Nat} (hB5 : Below w.heap.size w w5) (hs : s = w5.heap.size)
    (o6 : RowAt W6 s l.length 3 (fun _ => .int .i64 0)) (b6 : Below s w5 W6) (z6 : W6.heap.size = s + 1)
    (r7 : RowAt W7 (s + 1) l.length 63 (fun _ => .int .u64 0)) (b7 : Below (s + 1) W6 W7) (z7 : W7.heap.size = s + 2)
    (x8 : RowAt W8 (s + 2) 1 68 (fun _ => .slice none 0 0)) (b8 : Below (s + 2) W7 W8) (z8 : W8.heap.size = s + 3)
    (d9 : RowAt W9 (s + 3) l.length 3 (fun _ => .int .i64 0)) (b9 : Below (s + 3) (W8.setCell ⟨s + 2, 0, none⟩ (.slice (some ⟨s + 1, 0, none⟩) l.length l.length)) W9) (z9 : W9.heap.size = s + 4) :
    ShAt t a l w W9 s 0 := by
  have hle : w.heap.size ≤ s := by rw [hs]; exact hB5.size
  have c6 : Below w.heap.size w W6 := hB5.trans (b6.mono hle)
  have c7 : Below w.heap.size w W7 := c6.trans (b7.mono (by omega))
  have c8 : Below w.heap.size w W8 := c7.trans (b8.mono (by omega))
  have c9 := Below.setCell c8 (p := ⟨s + 2, 0, none⟩) (by show w.heap.size ≤ s + 2; omega) (.slice (some ⟨s + 1, 0, none⟩) l.length l.length)
  refine ⟨c9.trans (b9.mono (by omega)), hle, z9, ?_, ?_, ?_, ?_⟩
  · refine ((o6.heap ?_).congr fun j _ => by simp)
    rw [b9.block s (by omega), Below.heap_setCell _ _ _ _ (by show s ≠ s + 2; omega), b8.block s (by omega), b7.block s (by omega)]
  · refine ((r7.heap ?_).congr fun j _ => by simp)
    rw [b9.block (s + 1) (by omega), Below.heap_setCell _ _ _ _ (by show s + 1 ≠ s + 2; omega), b8.block (s + 1) (by omega)]
  · refine (((x8.set 0 _).heap (b9.block (s + 2) (by omega))).congr fun j hj => ?_)
    obtain rfl : j = 0 := by omega
    rfl
  · exact d9.congr fun j _ => by simp
theorem sh_step {T A X P R : Nat} {l : List Int} {w W : World} {s i : Nat} (h : ShAt T A l w W s i) (c : i < l.length) (hX : l[i]'c = (X : Int)) (hP : P = T * X / A) (hR : R = T * X % A) (m : Nat) :
    ShAt T A l w ((((W.drewN m).setCell ⟨s, i, none⟩ (.int .i64 P)).setCell ⟨s + 1, i, none⟩ (.int .u64 R)).setCell ⟨s + 3, i, none⟩ (.int .i64 i)) s (i + 1) := by
  have hX2 : l[i]! = (X : Int) := by rw [getElem!_pos l i c, hX]
  have eP : (T : Int) * l[i]! / A = P := by rw [hX2, hP]; simp
  have eR : (T : Int) * l[i]! % A = R := by rw [hX2, hR]; simp
  have hs := h.hs
  refine ⟨((((pw_below_drewN h.b m).setCell ?_ _).setCell ?_ _).setCell ?_ _), h.hs, by rw [size_setCell', size_setCell', size_setCell']; exact h.sz, ?_, ?_, ?_, ?_⟩
  · exact hs
  · show w.heap.size ≤ s + 1; omega
  · show w.heap.size ≤ s + 3; omega
  · refine ((((h.o.draw m).set i _).other (s + 1) i _ (by omega)).other (s + 3) i _ (by omega)).congr fun j _ => ?_
    show (if j = i then _ else _) = _
    by_cases e : j = i
    · subst e; rw [if_pos rfl, if_pos (by omega), eP]
    · rw [if_neg e]
      by_cases c2 : j < i
      · rw [if_pos c2, if_pos (by omega)]
      · rw [if_neg c2, if_neg (by omega)]
  · refine ((((h.r.draw m).other s i _ (by omega)).set i _).other (s + 3) i _ (by omega)).congr fun j _ => ?_
    show (if j = i then _ else _) = _
    by_cases e : j = i
    · subst e; rw [if_pos rfl, if_pos (by omega), eR]
    · rw [if_neg e]
      by_cases c2 : j < i
      · rw [if_pos c2, if_pos (by omega)]
      · rw [if_neg c2, if_neg (by omega)]
  · exact (((h.x.draw m).other s i _ (by omega)).other (s + 1) i _ (by omega)).other (s + 3) i _ (by omega)
  · refine ((((h.d.draw m).other s i _ (by omega)).other (s + 1) i _ (by omega)).set i _).congr fun j _ => ?_
    show (if j = i then _ else _) = _
    by_cases e : j = i
    · subst e; rw [if_pos rfl, if_pos (by omega)]
    · rw [if_neg e]
      by_cases c2 : j < i
      · rw [if_pos c2, if_pos (by omega)]
      · rw [if_neg c2, if_neg (by omega)]
def idRow (n : Nat) : Array Int := ((List.range n).map fun (i : Nat) => (i : Int)).toArray
theorem idRow_size (n : Nat) : (idRow n).size = n := by simp [idRow]
theorem idRow_at (n p : Nat) (h : p < n) : (idRow n)[p]! = (p : Int) := by
  rw [getElem!_pos (idRow n) p (by rw [idRow_size]; exact h)]
  simp [idRow]
theorem sh_sort {T A : Int} {l : List Int} {w W : World} {s : Nat} (h : ShAt T A l w W s l.length) (hn : l.length ≤ 40) :
    Calls Try.prog 34 #[.slice (some ⟨s + 3, 0, none⟩) l.length l.length, .func (.func 35) #[] #[.pointer (some ⟨s + 2, 0, none⟩)]] W
      (SymPost (TK fun i => T * l[i.toNat]! % A) (s + 3) 0 0 l.length (idRow l.length) W) := by
  refine sortStable_walk (s + 2) (fun i => T * l[i.toNat]! % A) (s + 3) 0 l.length l.length (idRow l.length) W (fun t ht => ?_) (idRow_size _) hn (fun p hp => idRow_at _ p hp) ?_
  · rw [idRow_size] at ht
    refine ⟨?_, h.d.frozen _⟩
    rw [Nat.zero_add, h.d.cell t ht, idRow_at _ t ht, if_pos ht]
  · refine clos_walk (s + 2) (s + 1) l.length (s + 3) l.length (fun j => T * l[j]! % A) W (by omega) (by omega) (by omega) (h.x.cell 0 (by omega)) (fun t ht => ?_)
    rw [h.r.cell t ht, if_pos ht]
structure ShEnd (t a : Int) (l : List Int) (d : Array Int) (w W : World) (s k : Nat) : Prop where
  b : Below w.heap.size w W
  hs : w.heap.size ≤ s
  o : RowAt W s l.length 3 (fun j => .int .i64 (t * l[j]! / a + cnt d k j))
  d : ∀ t, t < l.length → W.cell? ⟨s + 3, t, none⟩ = some (.int .i64 d[t]!)
theorem below_at_row {B : Nat} {w W W' : World} {blk off : Nat} {d : Array Int} (h : Below B w W) (a : AtRow W blk off W' d) (hb : B ≤ blk) : Below B w W' := by
  have hs := a.side
  obtain ⟨n, rfl⟩ := a
  refine h.trans ⟨rfl, rfl, rfl, ?_, fun k hk => hs k (by omega)⟩
  show _ ≤ (W.heap.modify blk _).size
  rw [Array.size_modify]
  exact Nat.le_refl _
theorem sh_end0 {T A : Int} {l : List Int} {w W W' : World} {s : Nat} {d : Array Int} (h : ShAt T A l w W s l.length) (a : AtRow W (s + 3) 0 W' d) (hz : d.size = l.length) : ShEnd T A l d w W' s 0 := by
  have hs := h.hs
  refine ⟨below_at_row h.b a (by omega), h.hs, ?_, fun t ht => ?_⟩
  · refine (h.o.heap (a.side s (by omega))).congr fun j hj => ?_
    rw [if_pos hj]
    simp [cnt]
  · have H0 : Sort.Holds (Value.int .i64) W (s + 3) 0 (idRow l.length) := fun q hq => by
      rw [idRow_size] at hq
      refine ⟨?_, h.d.frozen _⟩
      rw [Nat.zero_add, h.d.cell q hq, idRow_at _ q hq, if_pos hq]
    have := (a.holds H0 (by rw [hz, idRow_size]) t (by omega)).1
    rwa [Nat.zero_add] at this
theorem sh_end_step {t a : Int} {l : List Int} {d : Array Int} {w W : World} {s k J : Nat} (h : ShEnd t a l d w W s k) (hJ : J < l.length) (e : d[k]! = (J : Int)) (v : Int) (hv : v = t * l[J]! / a + cnt d k J + 1) :
    ShEnd t a l d w (W.setCell ⟨s, J, none⟩ (.int .i64 v)) s (k + 1) := by
  have hs := h.hs
  refine ⟨h.b.setCell hs _, h.hs, (h.o.set J _).congr fun j hj => ?_, fun q hq => ?_⟩
  · show (if j = J then _ else _) = _
    by_cases c : j = J
    · subst c
      rw [if_pos rfl, hv]
      show _ = Value.int IntKind.i64 (_ + (cnt d k j + if d[k]! = (j : Int) then 1 else 0))
      rw [if_pos e]
      congr 1
      omega
    · rw [if_neg c]
      show _ = Value.int IntKind.i64 (_ + (cnt d k j + if d[k]! = (j : Int) then 1 else 0))
      have hne : ¬ d[k]! = (j : Int) := by rw [e]; omega
      rw [if_neg hne]
      simp
  · rw [← h.d q hq]
    exact World.cell?_of_block (Below.heap_setCell W _ _ _ (by show s + 3 ≠ s; omega))
def shareL (t a : Int) (l : List Int) : List Int :=
  (List.range l.length).map fun j => t * l[j]! / a + if rk l.length (fun i => t * l[i]! % a) j < (t - parts t a l l.length).toNat then 1 else 0
theorem sh_fin {t a : Int} {l : List Int} {d : Array Int} {w W : World} {s mm : Nat} (h : ShEnd t a l d w W s mm) (hm : t - parts t a l l.length = mm) (hmn : mm ≤ l.length) (hn : l.length ≤ 40)
    (hr : (∀ s, s < l.length → ∃ j : Nat, j < l.length ∧ d[s]! = (j : Int) ∧ rk l.length (fun i => t * l[i]! % a) j = s) ∧ (∀ j, j < l.length → ∃ s, s < l.length ∧ d[s]! = (j : Int))) :
    Kd.R (Kd.int .i64) 3 W w.heap.size (fun _ => True) (.slice (some ⟨s, 0, none⟩) l.length l.length) (shareL t a l) := by
  have hlen : (shareL t a l).length = l.length := by simp [shareL]
  obtain ⟨cs, h1, h2, h3⟩ := h.o
  have hcs : cs.toList = encs (Value.int .i64) (shareL t a l) := by
    apply List.ext_getElem?
    intro j
    rw [show encs (Value.int .i64) (shareL t a l) = (shareL t a l).map (Value.int .i64) from rfl, List.getElem?_map]
    by_cases hj : j < l.length
    · rw [Array.getElem?_toList, h3 j hj]
      have := cnt_rank hr j hj mm hmn
      show some (Value.int IntKind.i64 (t * l[j]! / a + cnt d mm j)) = _
      rw [this]
      simp [shareL, hj, hm]
    · rw [List.getElem?_eq_none (by simp [h2]; omega), List.getElem?_eq_none (by rw [hlen]; omega)]
      rfl
  have : W.ownsRow w.heap.size 3 1 (.slice (some ⟨s, 0, none⟩) l.length l.length) (shareL t a l).length (encs (Value.int .i64) (shareL t a l)) := by
    refine ⟨by rw [← hcs]; simp [h2, hlen], .inr ⟨s, l.length, cs, by rw [hlen], h.hs, h1, by omega, by simp [maxLen]; omega, by omega, ?_⟩⟩
    rw [hlen, Nat.mul_one, ← h2, ← hcs, ← Array.length_toList, List.take_length]
  exact Kd.R_of_own (h1 := fun _ => rfl) this (fun _ _ => trivial)
end Go.Proofs.Ytbadelcnaeijkaa.Q
end
section
namespace Go.Proofs.Ytbadelcnaeijkaa.Q
open Go.RowKit Go.Proofs.YtbadelcnaeijkaaW.PrintWords Go.Proofs.YtbadelcnaeijkaaW.PrintLast Go.Proofs.YtbadelcnaeijkaaW.PrintMore
attribute [local go_sem] max2_int min2_int max_two min_two max_three min_three max_four min_four
attribute [local go_sem ↓] isSome_setCell
attribute [local go_sem] string_gtr
set_option linter.unusedVariables false
set_option linter.unusedSimpArgs false
set_option maxHeartbeats 16000000 in
set_option maxRecDepth 100000 in
theorem share_main (A1 : Option Addr) (c1 : Nat) (l : List Int) (T A : Nat) (w : World) (hr1 : Kd.C (Kd.int .i64) w A1 l.length l) (hc1 : l.length ≤ c1) (hn : l.length ≤ 40) (hT : num T = true) (hs : sumG 0 l = ((A : Int), true)) (hA : 0 < A)
    (hMD : ∀ x ∈ l, ∃ X hi lo : Nat, x = X ∧
    (∀ W, Calls Try.prog 32 #[.int .u64 T, .int .u64 X] W fun e w' => e = .returned (.tuple #[.int .u64 hi, .int .u64 lo]) ∧ w' = W) ∧
    (∀ W, Calls Try.prog 33 #[.int .u64 hi, .int .u64 lo, .int .u64 A] W fun e w' => e = .returned (.tuple #[.int .u64 ((T * X / A : Nat) : Int), .int .u64 ((T * X % A : Nat) : Int)]) ∧ ∃ m, w' = W.drewN m)) :
    Calls Try.prog 14 #[.int .i64 T, .slice A1 l.length c1] w fun e w' => ∃ v0_, e = .returned (.tuple #[v0_, .int .i64 0]) ∧ Kd.R (Kd.int .i64) 3 w' w.heap.size (fun _ => True) v0_ (shareL T A l) ∧ Below w.heap.size w w' := by
  have HR0 := Aside0.mk hr1
  have HMD := Aside0.mk hMD
  have hsum := sumG_ok l 0 (by rw [hs])
  rw [hs] at hsum
  have hnA := sumG_num l 0 (by decide) (by rw [hs])
  rw [hs] at hnA
  have HA2 := (num_iff _).1 hnA
  have HT2 := (num_iff _).1 hT
  have hA3 : A ≤ 1125899906842624 := by omega
  have hT3 : T ≤ 1125899906842624 := by omega
  have HSUM := Aside0.mk hsum
  have HS : Aside0 (∀ W, Below w.heap.size w W → Calls Try.prog 31 #[.slice A1 l.length c1] W fun e w' => e = .returned (.tuple #[.int .i64 A, .bool true]) ∧ Drawn0 W w') :=
    ⟨fun W hB => quota_sum.calls (l.length + 1) A1 c1 l A true W (Kd.C_below hr1 hB) hc1 (by rw [sum_f l (by omega), hs])⟩
  have HF : Aside0 (∀ W, Calls Try.prog 27 #[.int .i64 T] W fun e w' => e = .returned (.bool true) ∧ w' = W) := ⟨fun W => by have := number_fn T W; rwa [hT] at this⟩
  have HB0 : Aside0 (Below w.heap.size w w) := ⟨Below.refl _ _⟩
  have hA0 : ((A : Int) == 0) = false := beq_eq_false_iff_ne.2 (by omega)
  have hn0 : 0 < l.length := by
    cases l with
    | nil => simp [sumG] at hs; omega
    | cons x xs => simp
  have HN := Aside0.mk (show l.length ≤ 1000000000 by omega)
  clear hr1 hMD hsum hnA HA2 HT2 hT hs
  go_enter Try.func14, Try.ntmps14
  go_upto_region 12 with (first | (go_at_call 31; refine (HS.out _ HB0.out).mono ?_; rintro e w5 ⟨rfl, m5, hw5⟩; have HB5 : Aside0 (Below w.heap.size w w5) := ⟨by rw [hw5]; exact pw_below_drewN HB0.out m5⟩; clear hw5) | (go_at_call 27; refine (HF.out _).mono ?_; rintro e w6 ⟨rfl, hw6⟩; subst w6) | ((with_reducible refine gate_dst (N := 42) rfl ?_); refine wp_make ?hg (Operand.tmp 41) 33 3 ?hop l.length ?hx HN.out Try.underlying33 (.int .i64 0) info3 rfl ?_; (case hg => rfl); (case hop => rfl); (case hx => first | (go_simp; done) | (go_simp; rfl)); intro s W6 hs6 hO6 hz6 hB6; have HO6 := Aside0.mk hO6; have HB6 := Aside0.mk hB6; have HS6 := Aside0.mk hs6; have HZ6 := Aside0.mk hz6; clear hs6 hO6 hz6 hB6) | ((with_reducible refine gate_dst (N := 48) rfl ?_); refine wp_make ?hg (Operand.tmp 47) 68 63 ?hop l.length ?hx HN.out Try.underlying68 (.int .u64 0) info63 rfl ?_; (case hg => rfl); (case hop => rfl); (case hx => first | (go_simp; done) | (go_simp; rfl)); intro s7 W7 hs7 hO7 hz7 hB7; obtain rfl : s7 = s + 1 := (by have := HZ6.out; omega); have HO7 := Aside0.mk hO7; have HB7 := Aside0.mk hB7; have HZ7 := Aside0.mk hz7; clear hs7 hO7 hz7 hB7) | ((with_reducible refine gate_dst (N := 9) rfl ?_); refine wp_box ?hg ?hop ?_; (case hg => rfl); (case hop => rfl); intro s8 W8 hs8 hO8 hz8 hB8; obtain rfl : s8 = s + 2 := (by have := HZ7.out; omega); have cx8 := hO8.cell 0 (by omega); have fx8 := hO8.frozen 0; have HO8 := Aside0.mk hO8; have HB8 := Aside0.mk hB8; have HZ8 := Aside0.mk hz8; clear hs8 hO8 hz8 hB8) | ((with_reducible refine gate_dst (N := 51) rfl ?_); refine wp_make ?hg (Operand.tmp 50) 33 3 ?hop l.length ?hx HN.out Try.underlying33 (.int .i64 0) info3 rfl ?_; (case hg => rfl); (case hop => rfl); (case hx => first | (go_simp; done) | (go_simp; rfl)); clear cx8 fx8; intro s9 W9 hs9 hO9 hz9 hB9; obtain rfl : s9 = s + 3 := (by have := HZ8.out; rw [size_setCell'] at hs9; omega); have HSH : Aside0 (ShAt (T : Int) (A : Int) l w W9 s 0) := ⟨sh_start HB5.out HS6.out HO6.out HB6.out HZ6.out HO7.out HB7.out HZ7.out HO8.out HB8.out HZ8.out hO9 hB9 hz9⟩; clear hs9 hO9 hz9 hB9 HO6 HB6 HZ6 HO7 HB7 HZ7 HO8 HB8 HZ8))
  clear HB0 HB5 HS6 HS HF
  go_wp2
  go_loopw [11, 55] (fun vm vi wr => ∃ (i : Nat) (M : Int), vm = .int .i64 M ∧ vi = .int .i64 i ∧ i ≤ l.length ∧ Aside0 (M = (T : Int) - parts T A l i) ∧ Aside0 (ShAt T A l w wr s i)) (fun _ vi _ => l.length - (Proofs.intOf vi).toNat)
  case atStart => exact ⟨0, T, rfl, by go_num, by omega, ⟨by simp [parts]⟩, HSH⟩
  case round =>
    clear HSH
    obtain ⟨i, M, rfl, rfl, hi, HM, HSH⟩ := hrel
    have hxs : ∀ x ∈ l, 0 ≤ x ∧ x ≤ (A : Int) := fun x hx => by
      have h1 := (num_iff x).1 (HSUM.out.2 x hx)
      have h2 := le_sum_of_mem l (fun y hy => ((num_iff y).1 (HSUM.out.2 y hy)).1) x hx
      have h3 := HSUM.out.1
      omega
    have hMb : -100000000000000000 ≤ M ∧ M ≤ 1125899906842624 := by
      have := parts_bd T A (by omega) (by omega) l hxs i hi
      have := HM.out
      omega
    by_cases c : i < l.length
    · have p1 : 0 ≤ (i : Int) := by omega
      have q1 : (i : Int) < (l.length : Int) := by omega
      obtain ⟨ad1, e1, hx1⟩ := Kd.at_int (Kd.C_below HR0.out HSH.out.b) (i : Int) p1 q1
      cases e1
      rw [Int.toNat_natCast] at hx1
      have hrd : rd l (i : Int) = l[i]'c := by
        unfold rd
        rw [Int.toNat_natCast, List.getD_eq_getElem?_getD, List.getElem?_eq_getElem c]
        rfl
      rw [hrd] at hx1
      clear hrd
      obtain ⟨X, hi64, lo64, hX, H1, H2⟩ := HMD.out _ (List.getElem_mem c)
      have hXA : X ≤ A := by have := (hxs _ (List.getElem_mem c)).2; omega
      rw [hX] at hx1
      obtain ⟨P, hP⟩ : ∃ P : Nat, P = T * X / A := ⟨_, rfl⟩
      obtain ⟨R, hR⟩ : ∃ R : Nat, R = T * X % A := ⟨_, rfl⟩
      rw [← hP, ← hR] at H2
      have hPT : P ≤ T := by rw [hP]; exact Nat.div_le_of_le_mul (by rw [Nat.mul_comm]; exact Nat.mul_le_mul_right T hXA)
      have hRA : R < A := by rw [hR]; exact Nat.mod_lt _ hA
      have H1 := Aside0.mk H1
      have H2 := Aside0.mk H2
      have HX := Aside0.mk hX
      have HP := Aside0.mk hP
      have HRr := Aside0.mk hR
      clear hX hP hR hxs
      have k1 := HSH.out.o.cell i c
      have k1f := HSH.out.o.frozen i
      have k2 := HSH.out.r.cell i c
      have k2f := HSH.out.r.frozen i
      have k3 := HSH.out.d.cell i c
      have k3f := HSH.out.d.frozen i
      have k4 := HSH.out.x.cell 0 (by omega)
      go_upto_region 17 with (first | (go_at_call 32; refine (H1.out _).mono ?_; rintro e w7 ⟨rfl, hw7⟩; subst w7) | (go_at_call 33; refine (H2.out _).mono ?_; rintro e w8 ⟨rfl, m8, hw8⟩; subst w8))
      go_region
      all_goals go_wp2
      refine ⟨⟨i + 1, M - P, rfl, by go_num, by omega, ⟨?_⟩, ⟨sh_step HSH.out c HX.out HP.out HRr.out _⟩⟩, by simp [Proofs.intOf]; omega⟩
      rw [parts_step T A l i c, getElem!_pos l i c, HX.out, HM.out, HP.out]
      simp
      omega
    · obtain rfl : i = l.length := by omega
      have HSO : Aside0 (Calls Try.prog 34 #[.slice (some ⟨s + 3, 0, none⟩) l.length l.length, .func (.func 35) #[] #[.pointer (some ⟨s + 2, 0, none⟩)]] wr
        (SymPost (TK fun i => T * l[i.toNat]! % A) (s + 3) 0 0 l.length (idRow l.length) wr)) := ⟨sh_sort HSH.out hn⟩
      have hmd := miss_bd T A l (by omega) (by have := HSUM.out.1; omega) hn0
      obtain ⟨mm, hmm⟩ : ∃ mm : Nat, M = (mm : Int) := ⟨M.toNat, by have := HM.out; omega⟩
      have hml : mm < l.length := by have := HM.out; omega
      have HMM : Aside0 ((T : Int) - parts T A l l.length = mm) := ⟨by have := HM.out; omega⟩
      subst hmm
      have HXS := Aside0.mk hxs
      clear hmd HM hMb hxs HMD HR0
      go_wp2_with (go_at_call 34; refine HSO.out.mono ?_; rintro e w7 ⟨rfl, d', hA, hP, hS⟩; have HE : Aside0 (ShEnd T A l d' w w7 s 0) := ⟨sh_end0 HSH.out hA (hP.1.trans (idRow_size _))⟩; have HRK := Aside0.mk (rank_at (fun j => (T : Int) * l[j]! % A) l.length (idRow l.length) d' (idRow_size _) (fun p hp => idRow_at _ p hp) hP hS); clear hA hP hS HSO HSH)
      go_loopw [101] (fun vk wq => ∃ k : Nat, vk = .int .i64 k ∧ k ≤ mm ∧ Aside0 (ShEnd T A l d' w wq s k)) (fun vk _ => mm - (Proofs.intOf vk).toNat)
      case atStart => exact ⟨0, rfl, by omega, HE⟩
      case round =>
        clear HE
        obtain ⟨k, rfl, hk, HE⟩ := hrel
        by_cases ck : k < mm
        · obtain ⟨J, hJ, eJ, -⟩ := HRK.out.1 k (by omega)
          have k1 := HE.out.d k (by omega)
          rw [eJ] at k1
          have k2 := HE.out.o.cell J hJ
          have k2f := HE.out.o.frozen J
          obtain ⟨V, hV⟩ : ∃ V : Int, V = (T : Int) * l[J]! / A + cnt d' k J := ⟨_, rfl⟩
          rw [← hV] at k2
          have hVb : 0 ≤ V ∧ V ≤ 2000000000000000000 := by
            have hm := HXS.out l[J]! (by rw [getElem!_pos l J hJ]; exact List.getElem_mem hJ)
            have e1 : 0 ≤ (T : Int) * l[J]! / A := Int.ediv_nonneg (Int.mul_nonneg (by omega) hm.1) (by omega)
            have e2 : (T : Int) * l[J]! / A ≤ T := Int.ediv_le_of_le_mul (by omega) (Int.mul_le_mul_of_nonneg_left hm.2 (by omega))
            have e3 := cnt_bd d' J k
            omega
          have HV := Aside0.mk hV
          have HJ := Aside0.mk eJ
          clear hV eJ
          go_wp2
          go_roundw
          case rel => exact ⟨k + 1, by go_num, by omega, ⟨sh_end_step HE.out hJ HJ.out _ (by rw [← HV.out])⟩⟩
          case measure => simp [Proofs.intOf]; omega
        · obtain rfl : k = mm := by omega
          go_wp2
          go_ret2
          exact ⟨_, rfl, sh_fin HE.out HMM.out (by omega) hn HRK.out, HE.out.b⟩
end Go.Proofs.Ytbadelcnaeijkaa.Q
end
section
namespace Go.Proofs.Ytbadelcnaeijkaa.Q
open Go.RowKit Go.Proofs.YtbadelcnaeijkaaW.PrintWords Go.Proofs.YtbadelcnaeijkaaW.PrintLast Go.Proofs.YtbadelcnaeijkaaW.PrintMore
attribute [local go_sem] max2_int min2_int max_two min_two max_three min_three max_four min_four
attribute [local go_sem ↓] isSome_setCell
attribute [local go_sem] string_gtr
set_option linter.unusedVariables false
set_option linter.unusedSimpArgs false
def shareS (t : Int) (l : List Int) : List Int × Int :=
 if num t = true ∧ (sumG 0 l).2 = true then
  if (sumG 0 l).1 = 0 then (if t = 0 then (List.replicate l.length 0, 0) else ([], 8)) else (shareL t (sumG 0 l).1 l, 0)
 else ([], 7)
def SharePost (w : World) (r : List Int × Int) (e : Ending) (w' : World) : Prop :=
 ∃ v0_, e = .returned (.tuple #[v0_, .int .i64 r.2]) ∧ Kd.R (Kd.int .i64) 3 w' w.heap.size (fun _ => True) v0_ r.1 ∧ Below w.heap.size w w'
section
variable (A1 : Option Addr) (c1 : Nat) (l : List Int) (t : Int) (w : World)
theorem sum_call (hr1 : Kd.C (Kd.int .i64) w A1 l.length l) (hc1 : l.length ≤ c1) (hn : l.length ≤ 40) (a : Int) (b : Bool) (hs : sumG 0 l = (a, b)) :
  Calls Try.prog 31 #[.slice A1 l.length c1] w fun e w' => e = .returned (.tuple #[.int .i64 a, .bool b]) ∧ Below w.heap.size w w' :=
 (quota_sum.calls (l.length + 1) A1 c1 l a b w hr1 hc1 (by rw [sum_f l (by omega), hs])).mono fun e w' h => ⟨h.1, by obtain ⟨m, rfl⟩ := h.2; exact pb_ (Below.refl _ _) m⟩
set_option maxHeartbeats 8000000 in
set_option maxRecDepth 100000 in
theorem share_a (hr1 : Kd.C (Kd.int .i64) w A1 l.length l) (hc1 : l.length ≤ c1) (hn : l.length ≤ 40) (ht : num t = false) :
  Calls Try.prog 14 #[.int .i64 t, .slice A1 l.length c1] w (SharePost w ([], 7)) := by
 obtain ⟨a, b, hs⟩ : ∃ a b, sumG 0 l = (a, b) := ⟨_, _, rfl⟩; have HS := am_ (sum_call A1 c1 l w hr1 hc1 hn a b hs); have HF : Aside0 (∀ W, Calls Try.prog 27 #[.int .i64 t] W fun e w' => e = .returned (.bool false) ∧ w' = W) := ⟨fun W => by have := number_fn t W; rwa [ht] at this⟩; clear hr1 hc1 hn ht hs; go_enter Try.func14, Try.ntmps14
 go_wp2_with (first | (go_at_call 31; refine HS.out.mono ?_; rintro e w5 ⟨rfl, hB⟩; have HB := am_ hB; clear hB) | (go_at_call 27; refine (HF.out _).mono ?_; rintro e w6 ⟨rfl, hw6⟩; subst w6))
 go_ret2; exact ⟨_, rfl, Kd.R_nil _ _ _ _ _, HB.out⟩
set_option maxHeartbeats 8000000 in
set_option maxRecDepth 100000 in
theorem share_b (hr1 : Kd.C (Kd.int .i64) w A1 l.length l) (hc1 : l.length ≤ c1) (hn : l.length ≤ 40) (ht : num t = true) (h2 : (sumG 0 l).2 = false) :
  Calls Try.prog 14 #[.int .i64 t, .slice A1 l.length c1] w (SharePost w ([], 7)) := by
 obtain ⟨a, b, hs⟩ : ∃ a b, sumG 0 l = (a, b) := ⟨_, _, rfl⟩; rw [hs] at h2; subst h2; have HS := am_ (sum_call A1 c1 l w hr1 hc1 hn a false hs); have HF : Aside0 (∀ W, Calls Try.prog 27 #[.int .i64 t] W fun e w' => e = .returned (.bool true) ∧ w' = W) := ⟨fun W => by have := number_fn t W; rwa [ht] at this⟩; clear hr1 hc1 hn ht hs; go_enter Try.func14, Try.ntmps14
 go_wp2_with (first | (go_at_call 31; refine HS.out.mono ?_; rintro e w5 ⟨rfl, hB⟩; have HB := am_ hB; clear hB) | (go_at_call 27; refine (HF.out _).mono ?_; rintro e w6 ⟨rfl, hw6⟩; subst w6))
 go_ret2; exact ⟨_, rfl, Kd.R_nil _ _ _ _ _, HB.out⟩
set_option maxHeartbeats 8000000 in
set_option maxRecDepth 100000 in
theorem share_c (hr1 : Kd.C (Kd.int .i64) w A1 l.length l) (hc1 : l.length ≤ c1) (hn : l.length ≤ 40) (ht : num t = true) (hs : sumG 0 l = (0, true)) (ht0 : ¬ t = 0) :
  Calls Try.prog 14 #[.int .i64 t, .slice A1 l.length c1] w (SharePost w ([], 8)) := by
 have HS := am_ (sum_call A1 c1 l w hr1 hc1 hn 0 true hs); have HF : Aside0 (∀ W, Calls Try.prog 27 #[.int .i64 t] W fun e w' => e = .returned (.bool true) ∧ w' = W) := ⟨fun W => by have := number_fn t W; rwa [ht] at this⟩; have b0 : (t == 0) = false := beq_eq_false_iff_ne.2 ht0; have b1 : (t != 0) = true := by simp [ht0]
 clear hr1 hc1 hn ht hs ht0; go_enter Try.func14, Try.ntmps14
 go_wp2_with (first | (go_at_call 31; refine HS.out.mono ?_; rintro e w5 ⟨rfl, hB⟩; have HB := am_ hB; clear hB) | (go_at_call 27; refine (HF.out _).mono ?_; rintro e w6 ⟨rfl, hw6⟩; subst w6))
 go_ret2; exact ⟨_, rfl, Kd.R_nil _ _ _ _ _, HB.out⟩
set_option maxHeartbeats 8000000 in
set_option maxRecDepth 100000 in
theorem share_d (hr1 : Kd.C (Kd.int .i64) w A1 l.length l) (hc1 : l.length ≤ c1) (hn : l.length ≤ 40) (hs : sumG 0 l = (0, true)) :
  Calls Try.prog 14 #[.int .i64 0, .slice A1 l.length c1] w (SharePost w (List.replicate l.length 0, 0)) := by
 have HS := am_ (sum_call A1 c1 l w hr1 hc1 hn 0 true hs); have HF : Aside0 (∀ W, Calls Try.prog 27 #[.int .i64 0] W fun e w' => e = .returned (.bool true) ∧ w' = W) := ⟨fun W => number_fn 0 W⟩; have HN := am_ (show l.length ≤ 1000000000 by omega); have HN2 := am_ hn; clear hr1 hc1 hn hs; go_enter Try.func14, Try.ntmps14
 go_wp2_with (first | (go_at_call 31; refine HS.out.mono ?_; rintro e w5 ⟨rfl, hB⟩; have HB := am_ hB; clear hB) | (go_at_call 27; refine (HF.out _).mono ?_; rintro e w6 ⟨rfl, hw6⟩; subst w6) | ((with_reducible refine gate_dst (N := 42) rfl ?_); refine wp_make ?hg (Operand.tmp 41) 33 3 ?hop l.length ?hx HN.out Try.underlying33 (.int .i64 0) info3 rfl ?_; (case hg => rfl); (case hop => rfl); (case hx => first | (go_simp; done) | (go_simp; rfl)); intro s W6 hs6 hO6 hz6 hB6; have HO6 := am_ hO6; have HB6 := am_ hB6; have HS6 := am_ hs6; clear hs6 hO6 hz6 hB6))
 go_ret2; have hle : w.heap.size ≤ s := by rw [HS6.out]; exact HB.out.size
 refine ⟨_, rfl, ?_, HB.out.trans (HB6.out.mono hle)⟩; obtain ⟨cs, h1, h2, h3⟩ := HO6.out
 have hcs : cs.toList = encs (Value.int .i64) (List.replicate l.length 0) := by
  apply List.ext_getElem?
  intro j; rw [show encs (Value.int .i64) (List.replicate l.length 0) = (List.replicate l.length 0).map (Value.int .i64) from rfl, List.getElem?_map]
  by_cases hj : j < l.length
  ·
   rw [Array.getElem?_toList, h3 j hj]
   simp [hj]
  ·
   rw [List.getElem?_eq_none (by simp [h2]; omega), List.getElem?_eq_none (by simp; omega)]; rfl
 have : W6.ownsRow w.heap.size 3 1 (.slice (some ⟨s, 0, none⟩) l.length l.length) (List.replicate l.length (0 : Int)).length (encs (Value.int .i64) (List.replicate l.length 0)) := by
  refine ⟨by rw [← hcs]; simp [h2], .inr ⟨s, l.length, cs, by simp, hle, h1, by simp, by have := HN2.out; simp [maxLen]; omega, by omega, ?_⟩⟩; rw [List.length_replicate, Nat.mul_one, ← hcs, ← h2, ← Array.length_toList, List.take_length]
 exact Kd.R_of_own (h1 := fun _ => rfl) this (fun _ _ => trivial)
end
def shareOk (t : Int) (l : List Int) : Prop := l.length ≤ 40 ∧ (l.all fun x => decide (t * x < 18446744073709551616)) = true
instance (t : Int) (l : List Int) : Decidable (shareOk t l) := by unfold shareOk; infer_instance
def quota_Share.f (t : Int) (l : List Int) : Option (List Int × Int) := if shareOk t l then some (shareS t l) else none
theorem quota_Share.calls (a0 : Int) (A1 : Option Addr) (c1 : Nat) (l1 : List Int) (r1 : List Int) (r2 : Int) (w : World) (hr1 : Kd.C (Kd.int .i64) w A1 l1.length l1) (hc1 : l1.length ≤ c1) (h : quota_Share.f a0 l1 = some (r1, r2)) :
  Calls Try.prog 14 #[.int .i64 a0, .slice A1 l1.length c1] w fun e w' => ∃ v0_, e = .returned (.tuple #[v0_, .int .i64 r2]) ∧ Kd.R (Kd.int .i64) 3 w' w.heap.size (fun _ => True) v0_ r1 ∧ Below w.heap.size w w' := by
 unfold quota_Share.f at h
 by_cases hk : shareOk a0 l1
 ·
  rw [if_pos hk] at h; have e := si_ h
  suffices hh : Calls Try.prog 14 #[.int .i64 a0, .slice A1 l1.length c1] w (SharePost w (shareS a0 l1)) by
   rw [e] at hh; exact hh
  clear h e; obtain ⟨hn, hp⟩ := hk
  unfold shareS
  by_cases c : num a0 = true ∧ (sumG 0 l1).2 = true
  ·
   rw [if_pos c]; obtain ⟨b1, b2⟩ := (num_iff _).1 c.1
   by_cases ca : (sumG 0 l1).1 = 0
   ·
    rw [if_pos ca]; have hs : sumG 0 l1 = (0, true) := Prod.ext ca c.2
    by_cases ct : a0 = 0
    ·
     rw [if_pos ct]; subst ct; exact share_d A1 c1 l1 w hr1 hc1 hn hs
    ·
     rw [if_neg ct]; exact share_c A1 c1 l1 a0 w hr1 hc1 hn c.1 hs ct
   ·
    rw [if_neg ca]; have hnum := (num_iff _).1 (sumG_num l1 0 (by decide) c.2); obtain ⟨T, rfl⟩ : ∃ T : Nat, a0 = T := ⟨a0.toNat, by omega⟩; obtain ⟨A, hA⟩ : ∃ A : Nat, (sumG 0 l1).1 = A := ⟨((sumG 0 l1).1).toNat, by omega⟩; rw [hA]; have hsum := sumG_ok l1 0 c.2; refine share_main A1 c1 l1 T A w hr1 hc1 hn c.1 (Prod.ext hA c.2) (by omega) (fun x hx => ?_); obtain ⟨X, hX⟩ : ∃ X : Nat, x = X := ⟨x.toNat, by have := (num_iff _).1 (hsum.2 x hx); omega⟩
    have hXA : X ≤ A := by
     have := le_sum_of_mem l1 (fun y hy => ((num_iff y).1 (hsum.2 y hy)).1) x hx; have := hsum.1
     omega
    have hpr : T * X < 18446744073709551616 := by
     have := ot_ (List.all_eq_true.1 hp x hx); rw [hX, ← Int.natCast_mul] at this
     omega
    obtain ⟨hi, lo, h⟩ := mulDiv T X A (by omega) (by omega) hXA (by omega) hpr; exact ⟨X, hi, lo, hX, h⟩
  ·
   rw [if_neg c]
   by_cases c1' : num a0 = true
   ·
    exact share_b A1 c1 l1 a0 w hr1 hc1 hn c1' (by cases e : (sumG 0 l1).2 <;> simp_all)
   ·
    exact share_a A1 c1 l1 a0 w hr1 hc1 hn (by cases e : num a0 <;> simp_all)
 ·
  rw [if_neg hk] at h; cases h
end Go.Proofs.Ytbadelcnaeijkaa.Q
end
