import Derived.Test.YtbadelcnaeijkaaKQuotaSums2
set_option linter.unusedVariables false
set_option linter.unusedSimpArgs false
section
namespace Go.Proofs.Ytbadelcnaeijkaa.Q
open Go.RowKit Go.Proofs.YtbadelcnaeijkaaW.PrintWords Go.Proofs.YtbadelcnaeijkaaW.PrintLast Go.Proofs.YtbadelcnaeijkaaW.PrintMore
attribute [local go_sem] max2_int min2_int max_two min_two max_three min_three max_four min_four
attribute [local go_sem ↓] isSome_setCell
attribute [local go_sem] string_gtr
set_option linter.unusedVariables false
set_option linter.unusedSimpArgs false
theorem info63 : (Try.prog.info? 63).map (fun i => (i.zero, i.size, i.bytes)) = some (some (.int .u64 0), 1, 8) := by kernel_rfl
structure ShAt (t a : Int) (l : List Int) (w W : World) (s i : Nat) : Prop where
  b : Below w.heap.size w W
  hs : w.heap.size ≤ s
  sz : W.heap.size = s + 4
  o : RowAt W s l.length 3 (fun j => .int .i64 (if j < i then t * l[j]! / a else 0))
  r : RowAt W (s + 1) l.length 63 (fun j => .int .u64 (if j < i then t * l[j]! % a else 0))
  x : RowAt W (s + 2) 1 68 (fun _ => .slice (some ⟨s + 1, 0, none⟩) l.length l.length)
  d : RowAt W (s + 3) l.length 3 (fun j => .int .i64 (if j < i then (j : Int) else 0))
theorem mulDiv (T X A : Nat) (hA : 0 < A) (hA2 : A ≤ 1125899906842624) (hX : X ≤ A) (hT : T ≤ 1125899906842624) : ∃ hi lo : Nat,
    (∀ W, Calls Try.prog 32 #[.int .u64 T, .int .u64 X] W fun e w' => e = .returned (.tuple #[.int .u64 hi, .int .u64 lo]) ∧ w' = W) ∧
    (∀ W, Calls Try.prog 33 #[.int .u64 hi, .int .u64 lo, .int .u64 A] W fun e w' => e = .returned (.tuple #[.int .u64 ((T * X / A : Nat) : Int), .int .u64 ((T * X % A : Nat) : Int)]) ∧ ∃ m, w' = W.drewN m) := by
  have hlt : T * X / 18446744073709551616 < A := by
    refine Nat.div_lt_of_lt_mul ?_
    have h1 : T * X ≤ T * A := Nat.mul_le_mul_left _ hX
    have h2 : T * A < 18446744073709551616 * A := Nat.mul_lt_mul_of_pos_right (by omega) hA
    omega
  refine ⟨T * X / 18446744073709551616, T * X % 18446744073709551616, fun W => mul_walk T X (by omega) (by omega) W, fun W => ?_⟩
  have := div_any (T * X / 18446744073709551616) (T * X % 18446744073709551616) A hlt (Nat.mod_lt _ (by omega)) (by omega) W
  rw [show T * X / 18446744073709551616 * 18446744073709551616 + T * X % 18446744073709551616 = T * X by rw [Nat.mul_comm]; exact Nat.div_add_mod _ _] at this
  exact this
theorem wp_box {W : World} {ops : Array Oper} {rest : List Oper} {o : Oper} {a : Act} {Q : Exit → Act → World → Prop}
    (hg : o.guard = none) (hop : o.op = .alloc 68)
    (h : ∀ s W', s = W.heap.size → RowAt W' s 1 68 (fun _ => .slice none 0 0) → W'.heap.size = s + 1 → Below s W W' → wpList Try.prog ops Q rest (a.put o.dst (.pointer (some ⟨s, 0, none⟩))) W') :
    wpList Try.prog ops Q (o :: rest) a W := by
  have hu68 := Try.underlying68
  have hr : (execOp a.eval o).run Try.prog W = .ok (.value (.pointer (some ⟨W.heap.size, 0, none⟩))) (W.alloc (.cells #[.slice none 0 0] 68 (0, 0))) := by
    simp only [execOp, hop]
    go_simp
  refine Kd.event_run hg hr (h _ _ rfl ⟨#[.slice none 0 0], blk_new W _, rfl, ?_⟩ ?_ (below_alloc (Below.refl _ _) _))
  · intro j hj
    obtain rfl : j = 0 := by omega
    rfl
  · show (W.heap.push _).size = _
    rw [Array.size_push]
theorem size_setCell' (W : World) (p : Addr) (v : Value) : (W.setCell p v).heap.size = W.heap.size := by
  show (W.heap.modify _ _).size = _
  rw [Array.size_modify]
theorem sh_start {t a : Int} {l : List Int} {w w5 W6 W7 W8 W9 : World} {s : Nat} (hB5 : Below w.heap.size w w5) (hs : s = w5.heap.size)
    (o6 : RowAt W6 s l.length 3 (fun _ => .int .i64 0)) (b6 : Below s w5 W6) (z6 : W6.heap.size = s + 1)
    (r7 : RowAt W7 (s + 1) l.length 63 (fun _ => .int .u64 0)) (b7 : Below (s + 1) W6 W7) (z7 : W7.heap.size = s + 2)
    (x8 : RowAt W8 (s + 2) 1 68 (fun _ => .slice none 0 0)) (b8 : Below (s + 2) W7 W8) (z8 : W8.heap.size = s + 3)
    (d9 : RowAt W9 (s + 3) l.length 3 (fun _ => .int .i64 0)) (b9 : Below (s + 3) (W8.setCell ⟨s + 2, 0, none⟩ (.slice (some ⟨s + 1, 0, none⟩) l.length l.length)) W9) (z9 : W9.heap.size = s + 4) :
    ShAt t a l w W9 s 0 := by
  have hle : w.heap.size ≤ s := by rw [hs]; exact hB5.size
  have c6 : Below w.heap.size w W6 := hB5.trans (b6.mono hle)
  have c7 : Below w.heap.size w W7 := c6.trans (b7.mono (by omega))
  have c8 : Below w.heap.size w W8 := c7.trans (b8.mono (by omega))
  have c9 := Below.setCell c8 (p := ⟨s + 2, 0, none⟩) (by show w.heap.size ≤ s + 2; omega) (.slice (some ⟨s + 1, 0, none⟩) l.length l.length)
  refine ⟨c9.trans (b9.mono (by omega)), hle, z9, ?_, ?_, ?_, ?_⟩
  · refine ((o6.heap ?_).congr fun j _ => by simp)
    rw [b9.block s (by omega), Below.heap_setCell _ _ _ _ (by show s ≠ s + 2; omega), b8.block s (by omega), b7.block s (by omega)]
  · refine ((r7.heap ?_).congr fun j _ => by simp)
    rw [b9.block (s + 1) (by omega), Below.heap_setCell _ _ _ _ (by show s + 1 ≠ s + 2; omega), b8.block (s + 1) (by omega)]
  · refine (((x8.set 0 _).heap (b9.block (s + 2) (by omega))).congr fun j hj => ?_)
    obtain rfl : j = 0 := by omega
    rfl
  · exact d9.congr fun j _ => by simp
theorem sh_step {T A X P R : Nat} {l : List Int} {w W : World} {s i : Nat} (h : ShAt T A l w W s i) (c : i < l.length) (hX : l[i]'c = (X : Int)) (hP : P = T * X / A) (hR : R = T * X % A) (m : Nat) :
    ShAt T A l w ((((W.drewN m).setCell ⟨s, i, none⟩ (.int .i64 P)).setCell ⟨s + 1, i, none⟩ (.int .u64 R)).setCell ⟨s + 3, i, none⟩ (.int .i64 i)) s (i + 1) := by
  have hX2 : l[i]! = (X : Int) := by rw [getElem!_pos l i c, hX]
  have eP : (T : Int) * l[i]! / A = P := by rw [hX2, hP]; simp
  have eR : (T : Int) * l[i]! % A = R := by rw [hX2, hR]; simp
  have hs := h.hs
  refine ⟨((((pw_below_drewN h.b m).setCell ?_ _).setCell ?_ _).setCell ?_ _), h.hs, by rw [size_setCell', size_setCell', size_setCell']; exact h.sz, ?_, ?_, ?_, ?_⟩
  · exact hs
  · show w.heap.size ≤ s + 1; omega
  · show w.heap.size ≤ s + 3; omega
  · refine ((((h.o.draw m).set i _).other (s + 1) i _ (by omega)).other (s + 3) i _ (by omega)).congr fun j _ => ?_
    show (if j = i then _ else _) = _
    by_cases e : j = i
    · subst e; rw [if_pos rfl, if_pos (by omega), eP]
    · rw [if_neg e]
      by_cases c2 : j < i
      · rw [if_pos c2, if_pos (by omega)]
      · rw [if_neg c2, if_neg (by omega)]
  · refine ((((h.r.draw m).other s i _ (by omega)).set i _).other (s + 3) i _ (by omega)).congr fun j _ => ?_
    show (if j = i then _ else _) = _
    by_cases e : j = i
    · subst e; rw [if_pos rfl, if_pos (by omega), eR]
    · rw [if_neg e]
      by_cases c2 : j < i
      · rw [if_pos c2, if_pos (by omega)]
      · rw [if_neg c2, if_neg (by omega)]
  · exact (((h.x.draw m).other s i _ (by omega)).other (s + 1) i _ (by omega)).other (s + 3) i _ (by omega)
  · refine ((((h.d.draw m).other s i _ (by omega)).other (s + 1) i _ (by omega)).set i _).congr fun j _ => ?_
    show (if j = i then _ else _) = _
    by_cases e : j = i
    · subst e; rw [if_pos rfl, if_pos (by omega)]
    · rw [if_neg e]
      by_cases c2 : j < i
      · rw [if_pos c2, if_pos (by omega)]
      · rw [if_neg c2, if_neg (by omega)]
def idRow (n : Nat) : Array Int := ((List.range n).map fun (i : Nat) => (i : Int)).toArray
theorem idRow_size (n : Nat) : (idRow n).size = n := by simp [idRow]
theorem idRow_at (n p : Nat) (h : p < n) : (idRow n)[p]! = (p : Int) := by
  rw [getElem!_pos (idRow n) p (by rw [idRow_size]; exact h)]
  simp [idRow]
theorem sh_sort {T A : Int} {l : List Int} {w W : World} {s : Nat} (h : ShAt T A l w W s l.length) (hn : l.length ≤ 40) :
    Calls Try.prog 34 #[.slice (some ⟨s + 3, 0, none⟩) l.length l.length, .func (.func 35) #[] #[.pointer (some ⟨s + 2, 0, none⟩)]] W
      (SymPost (TK fun i => T * l[i.toNat]! % A) (s + 3) 0 0 l.length (idRow l.length) W) := by
  refine sortStable_walk (s + 2) (fun i => T * l[i.toNat]! % A) (s + 3) 0 l.length l.length (idRow l.length) W (fun t ht => ?_) (idRow_size _) hn (fun p hp => idRow_at _ p hp) ?_
  · rw [idRow_size] at ht
    refine ⟨?_, h.d.frozen _⟩
    rw [Nat.zero_add, h.d.cell t ht, idRow_at _ t ht, if_pos ht]
  · refine clos_walk (s + 2) (s + 1) l.length (s + 3) l.length (fun j => T * l[j]! % A) W (by omega) (by omega) (by omega) (h.x.cell 0 (by omega)) (fun t ht => ?_)
    rw [h.r.cell t ht, if_pos ht]
structure ShEnd (t a : Int) (l : List Int) (d : Array Int) (w W : World) (s k : Nat) : Prop where
  b : Below w.heap.size w W
  hs : w.heap.size ≤ s
  o : RowAt W s l.length 3 (fun j => .int .i64 (t * l[j]! / a + cnt d k j))
  d : ∀ t, t < l.length → W.cell? ⟨s + 3, t, none⟩ = some (.int .i64 d[t]!)
theorem below_at_row {B : Nat} {w W W' : World} {blk off : Nat} {d : Array Int} (h : Below B w W) (a : AtRow W blk off W' d) (hb : B ≤ blk) : Below B w W' := by
  have hs := a.side
  obtain ⟨n, rfl⟩ := a
  refine h.trans ⟨rfl, rfl, rfl, ?_, fun k hk => hs k (by omega)⟩
  show _ ≤ (W.heap.modify blk _).size
  rw [Array.size_modify]
  exact Nat.le_refl _
theorem sh_end0 {T A : Int} {l : List Int} {w W W' : World} {s : Nat} {d : Array Int} (h : ShAt T A l w W s l.length) (a : AtRow W (s + 3) 0 W' d) (hz : d.size = l.length) : ShEnd T A l d w W' s 0 := by
  have hs := h.hs
  refine ⟨below_at_row h.b a (by omega), h.hs, ?_, fun t ht => ?_⟩
  · refine (h.o.heap (a.side s (by omega))).congr fun j hj => ?_
    rw [if_pos hj]
    simp [cnt]
  · have H0 : Sort.Holds (Value.int .i64) W (s + 3) 0 (idRow l.length) := fun q hq => by
      rw [idRow_size] at hq
      refine ⟨?_, h.d.frozen _⟩
      rw [Nat.zero_add, h.d.cell q hq, idRow_at _ q hq, if_pos hq]
    have := (a.holds H0 (by rw [hz, idRow_size]) t (by omega)).1
    rwa [Nat.zero_add] at this
theorem sh_end_step {t a : Int} {l : List Int} {d : Array Int} {w W : World} {s k J : Nat} (h : ShEnd t a l d w W s k) (hJ : J < l.length) (e : d[k]! = (J : Int)) (v : Int) (hv : v = t * l[J]! / a + cnt d k J + 1) :
    ShEnd t a l d w (W.setCell ⟨s, J, none⟩ (.int .i64 v)) s (k + 1) := by
  have hs := h.hs
  refine ⟨h.b.setCell hs _, h.hs, (h.o.set J _).congr fun j hj => ?_, fun q hq => ?_⟩
  · show (if j = J then _ else _) = _
    by_cases c : j = J
    · subst c
      rw [if_pos rfl, hv]
      show _ = Value.int IntKind.i64 (_ + (cnt d k j + if d[k]! = (j : Int) then 1 else 0))
      rw [if_pos e]
      congr 1
      omega
    · rw [if_neg c]
      show _ = Value.int IntKind.i64 (_ + (cnt d k j + if d[k]! = (j : Int) then 1 else 0))
      have hne : ¬ d[k]! = (j : Int) := by rw [e]; omega
      rw [if_neg hne]
      simp
  · rw [← h.d q hq]
    exact World.cell?_of_block (Below.heap_setCell W _ _ _ (by show s + 3 ≠ s; omega))
def shareL (t a : Int) (l : List Int) : List Int :=
  (List.range l.length).map fun j => t * l[j]! / a + if rk l.length (fun i => t * l[i]! % a) j < (t - parts t a l l.length).toNat then 1 else 0
theorem sh_fin {t a : Int} {l : List Int} {d : Array Int} {w W : World} {s mm : Nat} (h : ShEnd t a l d w W s mm) (hm : t - parts t a l l.length = mm) (hmn : mm ≤ l.length) (hn : l.length ≤ 40)
    (hr : (∀ s, s < l.length → ∃ j : Nat, j < l.length ∧ d[s]! = (j : Int) ∧ rk l.length (fun i => t * l[i]! % a) j = s) ∧ (∀ j, j < l.length → ∃ s, s < l.length ∧ d[s]! = (j : Int))) :
    Kd.R (Kd.int .i64) 3 W w.heap.size (fun _ => True) (.slice (some ⟨s, 0, none⟩) l.length l.length) (shareL t a l) := by
  have hlen : (shareL t a l).length = l.length := by simp [shareL]
  obtain ⟨cs, h1, h2, h3⟩ := h.o
  have hcs : cs.toList = encs (Value.int .i64) (shareL t a l) := by
    apply List.ext_getElem?
    intro j
    rw [show encs (Value.int .i64) (shareL t a l) = (shareL t a l).map (Value.int .i64) from rfl, List.getElem?_map]
    by_cases hj : j < l.length
    · rw [Array.getElem?_toList, h3 j hj]
      have := cnt_rank hr j hj mm hmn
      show some (Value.int IntKind.i64 (t * l[j]! / a + cnt d mm j)) = _
      rw [this]
      simp [shareL, hj, hm]
    · rw [List.getElem?_eq_none (by simp [h2]; omega), List.getElem?_eq_none (by rw [hlen]; omega)]
      rfl
  have : W.ownsRow w.heap.size 3 1 (.slice (some ⟨s, 0, none⟩) l.length l.length) (shareL t a l).length (encs (Value.int .i64) (shareL t a l)) := by
    refine ⟨by rw [← hcs]; simp [h2, hlen], .inr ⟨s, l.length, cs, by rw [hlen], h.hs, h1, by omega, by simp [maxLen]; omega, by omega, ?_⟩⟩
    rw [hlen, Nat.mul_one, ← h2, ← hcs, ← Array.length_toList, List.take_length]
  exact Kd.R_of_own (h1 := fun _ => rfl) this (fun _ _ => trivial)
end Go.Proofs.Ytbadelcnaeijkaa.Q
end
section
namespace Go.Proofs.Ytbadelcnaeijkaa.Q
open Go.RowKit Go.Proofs.YtbadelcnaeijkaaW.PrintWords Go.Proofs.YtbadelcnaeijkaaW.PrintLast Go.Proofs.YtbadelcnaeijkaaW.PrintMore
attribute [local go_sem] max2_int min2_int max_two min_two max_three min_three max_four min_four
attribute [local go_sem ↓] isSome_setCell
attribute [local go_sem] string_gtr
set_option linter.unusedVariables false
set_option linter.unusedSimpArgs false
set_option maxHeartbeats 16000000 in
set_option maxRecDepth 100000 in
theorem share_main (A1 : Option Addr) (c1 : Nat) (l : List Int) (T A : Nat) (w : World) (hr1 : Kd.C (Kd.int .i64) w A1 l.length l) (hc1 : l.length ≤ c1) (hn : l.length ≤ 40) (hT : num T = true) (hs : sumG 0 l = ((A : Int), true)) (hA : 0 < A)
    (hMD : ∀ x ∈ l, ∃ X hi lo : Nat, x = X ∧
    (∀ W, Calls Try.prog 32 #[.int .u64 T, .int .u64 X] W fun e w' => e = .returned (.tuple #[.int .u64 hi, .int .u64 lo]) ∧ w' = W) ∧
    (∀ W, Calls Try.prog 33 #[.int .u64 hi, .int .u64 lo, .int .u64 A] W fun e w' => e = .returned (.tuple #[.int .u64 ((T * X / A : Nat) : Int), .int .u64 ((T * X % A : Nat) : Int)]) ∧ ∃ m, w' = W.drewN m)) :
    Calls Try.prog 14 #[.int .i64 T, .slice A1 l.length c1] w fun e w' => ∃ v0_, e = .returned (.tuple #[v0_, .int .i64 0]) ∧ Kd.R (Kd.int .i64) 3 w' w.heap.size (fun _ => True) v0_ (shareL T A l) ∧ Below w.heap.size w w' := by
  have HR0 := Aside0.mk hr1
  have HMD := Aside0.mk hMD
  have hsum := sumG_ok l 0 (by rw [hs])
  rw [hs] at hsum
  have hnA := sumG_num l 0 (by decide) (by rw [hs])
  rw [hs] at hnA
  have HA2 := (num_iff _).1 hnA
  have HT2 := (num_iff _).1 hT
  have hA3 : A ≤ 1125899906842624 := by omega
  have hT3 : T ≤ 1125899906842624 := by omega
  have HSUM := Aside0.mk hsum
  have HS : Aside0 (∀ W, Below w.heap.size w W → Calls Try.prog 31 #[.slice A1 l.length c1] W fun e w' => e = .returned (.tuple #[.int .i64 A, .bool true]) ∧ Drawn0 W w') :=
    ⟨fun W hB => quota_sum.calls (l.length + 1) A1 c1 l A true W (Kd.C_below hr1 hB) hc1 (by rw [sum_f l (by omega), hs])⟩
  have HF : Aside0 (∀ W, Calls Try.prog 27 #[.int .i64 T] W fun e w' => e = .returned (.bool true) ∧ w' = W) := ⟨fun W => by have := number_fn T W; rwa [hT] at this⟩
  have HB0 : Aside0 (Below w.heap.size w w) := ⟨Below.refl _ _⟩
  have hA0 : ((A : Int) == 0) = false := beq_eq_false_iff_ne.2 (by omega)
  have hn0 : 0 < l.length := by
    cases l with
    | nil => simp [sumG] at hs; omega
    | cons x xs => simp
  have HN := Aside0.mk (show l.length ≤ 1000000000 by omega)
  clear hr1 hMD hsum hnA HA2 HT2 hT hs
  go_enter Try.func14, Try.ntmps14
  go_upto_region 12 with (first | (go_at_call 31; refine (HS.out _ HB0.out).mono ?_; rintro e w5 ⟨rfl, m5, hw5⟩; have HB5 : Aside0 (Below w.heap.size w w5) := ⟨by rw [hw5]; exact pw_below_drewN HB0.out m5⟩; clear hw5) | (go_at_call 27; refine (HF.out _).mono ?_; rintro e w6 ⟨rfl, hw6⟩; subst w6) | ((with_reducible refine gate_dst (N := 42) rfl ?_); refine wp_make ?hg (Operand.tmp 41) 33 3 ?hop l.length ?hx HN.out Try.underlying33 (.int .i64 0) info3 rfl ?_; (case hg => rfl); (case hop => rfl); (case hx => first | (go_simp; done) | (go_simp; rfl)); intro s W6 hs6 hO6 hz6 hB6; have HO6 := Aside0.mk hO6; have HB6 := Aside0.mk hB6; have HS6 := Aside0.mk hs6; have HZ6 := Aside0.mk hz6; clear hs6 hO6 hz6 hB6) | ((with_reducible refine gate_dst (N := 48) rfl ?_); refine wp_make ?hg (Operand.tmp 47) 68 63 ?hop l.length ?hx HN.out Try.underlying68 (.int .u64 0) info63 rfl ?_; (case hg => rfl); (case hop => rfl); (case hx => first | (go_simp; done) | (go_simp; rfl)); intro s7 W7 hs7 hO7 hz7 hB7; obtain rfl : s7 = s + 1 := (by have := HZ6.out; omega); have HO7 := Aside0.mk hO7; have HB7 := Aside0.mk hB7; have HZ7 := Aside0.mk hz7; clear hs7 hO7 hz7 hB7) | ((with_reducible refine gate_dst (N := 9) rfl ?_); refine wp_box ?hg ?hop ?_; (case hg => rfl); (case hop => rfl); intro s8 W8 hs8 hO8 hz8 hB8; obtain rfl : s8 = s + 2 := (by have := HZ7.out; omega); have cx8 := hO8.cell 0 (by omega); have fx8 := hO8.frozen 0; have HO8 := Aside0.mk hO8; have HB8 := Aside0.mk hB8; have HZ8 := Aside0.mk hz8; clear hs8 hO8 hz8 hB8) | ((with_reducible refine gate_dst (N := 51) rfl ?_); refine wp_make ?hg (Operand.tmp 50) 33 3 ?hop l.length ?hx HN.out Try.underlying33 (.int .i64 0) info3 rfl ?_; (case hg => rfl); (case hop => rfl); (case hx => first | (go_simp; done) | (go_simp; rfl)); clear cx8 fx8; intro s9 W9 hs9 hO9 hz9 hB9; obtain rfl : s9 = s + 3 := (by have := HZ8.out; rw [size_setCell'] at hs9; omega); have HSH : Aside0 (ShAt (T : Int) (A : Int) l w W9 s 0) := ⟨sh_start HB5.out HS6.out HO6.out HB6.out HZ6.out HO7.out HB7.out HZ7.out HO8.out HB8.out HZ8.out hO9 hB9 hz9⟩; clear hs9 hO9 hz9 hB9 HO6 HB6 HZ6 HO7 HB7 HZ7 HO8 HB8 HZ8))
  clear HB0 HB5 HS6 HS HF
  go_wp2
  go_loopw [11, 55] (fun vm vi wr => ∃ (i : Nat) (M : Int), vm = .int .i64 M ∧ vi = .int .i64 i ∧ i ≤ l.length ∧ Aside0 (M = (T : Int) - parts T A l i) ∧ Aside0 (ShAt T A l w wr s i)) (fun _ vi _ => l.length - (Proofs.intOf vi).toNat)
  case atStart => exact ⟨0, T, rfl, by go_num, by omega, ⟨by simp [parts]⟩, HSH⟩
  case round =>
    clear HSH
    obtain ⟨i, M, rfl, rfl, hi, HM, HSH⟩ := hrel
    have hxs : ∀ x ∈ l, 0 ≤ x ∧ x ≤ (A : Int) := fun x hx => by
      have h1 := (num_iff x).1 (HSUM.out.2 x hx)
      have h2 := le_sum_of_mem l (fun y hy => ((num_iff y).1 (HSUM.out.2 y hy)).1) x hx
      have h3 := HSUM.out.1
      omega
    have hMb : -100000000000000000 ≤ M ∧ M ≤ 1125899906842624 := by
      have := parts_bd T A (by omega) (by omega) l hxs i hi
      have := HM.out
      omega
    by_cases c : i < l.length
    · have p1 : 0 ≤ (i : Int) := by omega
      have q1 : (i : Int) < (l.length : Int) := by omega
      obtain ⟨ad1, e1, hx1⟩ := Kd.at_int (Kd.C_below HR0.out HSH.out.b) (i : Int) p1 q1
      cases e1
      rw [Int.toNat_natCast] at hx1
      have hrd : rd l (i : Int) = l[i]'c := by
        unfold rd
        rw [Int.toNat_natCast, List.getD_eq_getElem?_getD, List.getElem?_eq_getElem c]
        rfl
      rw [hrd] at hx1
      clear hrd
      obtain ⟨X, hi64, lo64, hX, H1, H2⟩ := HMD.out _ (List.getElem_mem c)
      have hXA : X ≤ A := by have := (hxs _ (List.getElem_mem c)).2; omega
      rw [hX] at hx1
      obtain ⟨P, hP⟩ : ∃ P : Nat, P = T * X / A := ⟨_, rfl⟩
      obtain ⟨R, hR⟩ : ∃ R : Nat, R = T * X % A := ⟨_, rfl⟩
      rw [← hP, ← hR] at H2
      have hPT : P ≤ T := by rw [hP]; exact Nat.div_le_of_le_mul (by rw [Nat.mul_comm]; exact Nat.mul_le_mul_right T hXA)
      have hRA : R < A := by rw [hR]; exact Nat.mod_lt _ hA
      have H1 := Aside0.mk H1
      have H2 := Aside0.mk H2
      have HX := Aside0.mk hX
      have HP := Aside0.mk hP
      have HRr := Aside0.mk hR
      clear hX hP hR hxs
      have k1 := HSH.out.o.cell i c
      have k1f := HSH.out.o.frozen i
      have k2 := HSH.out.r.cell i c
      have k2f := HSH.out.r.frozen i
      have k3 := HSH.out.d.cell i c
      have k3f := HSH.out.d.frozen i
      have k4 := HSH.out.x.cell 0 (by omega)
      go_upto_region 17 with (first | (go_at_call 32; refine (H1.out _).mono ?_; rintro e w7 ⟨rfl, hw7⟩; subst w7) | (go_at_call 33; refine (H2.out _).mono ?_; rintro e w8 ⟨rfl, m8, hw8⟩; subst w8))
      go_region
      all_goals go_wp2
      refine ⟨⟨i + 1, M - P, rfl, by go_num, by omega, ⟨?_⟩, ⟨sh_step HSH.out c HX.out HP.out HRr.out _⟩⟩, by simp [Proofs.intOf]; omega⟩
      rw [parts_step T A l i c, getElem!_pos l i c, HX.out, HM.out, HP.out]
      simp
      omega
    · obtain rfl : i = l.length := by omega
      have HSO : Aside0 (Calls Try.prog 34 #[.slice (some ⟨s + 3, 0, none⟩) l.length l.length, .func (.func 35) #[] #[.pointer (some ⟨s + 2, 0, none⟩)]] wr
        (SymPost (TK fun i => T * l[i.toNat]! % A) (s + 3) 0 0 l.length (idRow l.length) wr)) := ⟨sh_sort HSH.out hn⟩
      have hmd := miss_bd T A l (by omega) (by have := HSUM.out.1; omega) hn0
      obtain ⟨mm, hmm⟩ : ∃ mm : Nat, M = (mm : Int) := ⟨M.toNat, by have := HM.out; omega⟩
      have hml : mm < l.length := by have := HM.out; omega
      have HMM : Aside0 ((T : Int) - parts T A l l.length = mm) := ⟨by have := HM.out; omega⟩
      subst hmm
      have HXS := Aside0.mk hxs
      clear hmd HM hMb hxs HMD HR0
      go_wp2_with (go_at_call 34; refine HSO.out.mono ?_; rintro e w7 ⟨rfl, d', hA, hP, hS⟩; have HE : Aside0 (ShEnd T A l d' w w7 s 0) := ⟨sh_end0 HSH.out hA (hP.1.trans (idRow_size _))⟩; have HRK := Aside0.mk (rank_at (fun j => (T : Int) * l[j]! % A) l.length (idRow l.length) d' (idRow_size _) (fun p hp => idRow_at _ p hp) hP hS); clear hA hP hS HSO HSH)
      go_loopw [101] (fun vk wq => ∃ k : Nat, vk = .int .i64 k ∧ k ≤ mm ∧ Aside0 (ShEnd T A l d' w wq s k)) (fun vk _ => mm - (Proofs.intOf vk).toNat)
      case atStart => exact ⟨0, rfl, by omega, HE⟩
      case round =>
        clear HE
        obtain ⟨k, rfl, hk, HE⟩ := hrel
        by_cases ck : k < mm
        · obtain ⟨J, hJ, eJ, -⟩ := HRK.out.1 k (by omega)
          have k1 := HE.out.d k (by omega)
          rw [eJ] at k1
          have k2 := HE.out.o.cell J hJ
          have k2f := HE.out.o.frozen J
          obtain ⟨V, hV⟩ : ∃ V : Int, V = (T : Int) * l[J]! / A + cnt d' k J := ⟨_, rfl⟩
          rw [← hV] at k2
          have hVb : 0 ≤ V ∧ V ≤ 2000000000000000000 := by
            have hm := HXS.out l[J]! (by rw [getElem!_pos l J hJ]; exact List.getElem_mem hJ)
            have e1 : 0 ≤ (T : Int) * l[J]! / A := Int.ediv_nonneg (Int.mul_nonneg (by omega) hm.1) (by omega)
            have e2 : (T : Int) * l[J]! / A ≤ T := Int.ediv_le_of_le_mul (by omega) (Int.mul_le_mul_of_nonneg_left hm.2 (by omega))
            have e3 := cnt_bd d' J k
            omega
          have HV := Aside0.mk hV
          have HJ := Aside0.mk eJ
          clear hV eJ
          go_wp2
          go_roundw
          case rel => exact ⟨k + 1, by go_num, by omega, ⟨sh_end_step HE.out hJ HJ.out _ (by rw [← HV.out])⟩⟩
          case measure => simp [Proofs.intOf]; omega
        · obtain rfl : k = mm := by omega
          go_wp2
          go_ret2
          exact ⟨_, rfl, sh_fin HE.out HMM.out (by omega) hn HRK.out, HE.out.b⟩
end Go.Proofs.Ytbadelcnaeijkaa.Q
end
section
namespace Go.Proofs.Ytbadelcnaeijkaa.Q
open Go.RowKit Go.Proofs.YtbadelcnaeijkaaW.PrintWords Go.Proofs.YtbadelcnaeijkaaW.PrintLast Go.Proofs.YtbadelcnaeijkaaW.PrintMore
attribute [local go_sem] max2_int min2_int max_two min_two max_three min_three max_four min_four
attribute [local go_sem ↓] isSome_setCell
attribute [local go_sem] string_gtr
set_option linter.unusedVariables false
set_option linter.unusedSimpArgs false
def shareS (t : Int) (l : List Int) : List Int × Int :=
 if num t = true ∧ (sumG 0 l).2 = true then
  if (sumG 0 l).1 = 0 then (if t = 0 then (List.replicate l.length 0, 0) else ([], 8)) else (shareL t (sumG 0 l).1 l, 0)
 else ([], 7)
def SharePost (w : World) (r : List Int × Int) (e : Ending) (w' : World) : Prop :=
 ∃ v0_, e = .returned (.tuple #[v0_, .int .i64 r.2]) ∧ Kd.R (Kd.int .i64) 3 w' w.heap.size (fun _ => True) v0_ r.1 ∧ Below w.heap.size w w'
section
variable (A1 : Option Addr) (c1 : Nat) (l : List Int) (t : Int) (w : World)
theorem sum_call (hr1 : Kd.C (Kd.int .i64) w A1 l.length l) (hc1 : l.length ≤ c1) (hn : l.length ≤ 40) (a : Int) (b : Bool) (hs : sumG 0 l = (a, b)) :
  Calls Try.prog 31 #[.slice A1 l.length c1] w fun e w' => e = .returned (.tuple #[.int .i64 a, .bool b]) ∧ Below w.heap.size w w' :=
 (quota_sum.calls (l.length + 1) A1 c1 l a b w hr1 hc1 (by rw [sum_f l (by omega), hs])).mono fun e w' h => ⟨h.1, by obtain ⟨m, rfl⟩ := h.2; exact pb_ (Below.refl _ _) m⟩
set_option maxHeartbeats 8000000 in
set_option maxRecDepth 100000 in
theorem share_a (hr1 : Kd.C (Kd.int .i64) w A1 l.length l) (hc1 : l.length ≤ c1) (hn : l.length ≤ 40) (ht : num t = false) :
  Calls Try.prog 14 #[.int .i64 t, .slice A1 l.length c1] w (SharePost w ([], 7)) := by
 obtain ⟨a, b, hs⟩ : ∃ a b, sumG 0 l = (a, b) := ⟨_, _, rfl⟩; have HS := am_ (sum_call A1 c1 l w hr1 hc1 hn a b hs); have HF : Aside0 (∀ W, Calls Try.prog 27 #[.int .i64 t] W fun e w' => e = .returned (.bool false) ∧ w' = W) := ⟨fun W => by have := number_fn t W; rwa [ht] at this⟩; clear hr1 hc1 hn ht hs; go_enter Try.func14, Try.ntmps14
 go_wp2_with (first | (go_at_call 31; refine HS.out.mono ?_; rintro e w5 ⟨rfl, hB⟩; have HB := am_ hB; clear hB) | (go_at_call 27; refine (HF.out _).mono ?_; rintro e w6 ⟨rfl, hw6⟩; subst w6))
 go_ret2; exact ⟨_, rfl, Kd.R_nil _ _ _ _ _, HB.out⟩
set_option maxHeartbeats 8000000 in
set_option maxRecDepth 100000 in
theorem share_b (hr1 : Kd.C (Kd.int .i64) w A1 l.length l) (hc1 : l.length ≤ c1) (hn : l.length ≤ 40) (ht : num t = true) (h2 : (sumG 0 l).2 = false) :
  Calls Try.prog 14 #[.int .i64 t, .slice A1 l.length c1] w (SharePost w ([], 7)) := by
 obtain ⟨a, b, hs⟩ : ∃ a b, sumG 0 l = (a, b) := ⟨_, _, rfl⟩; rw [hs] at h2; subst h2; have HS := am_ (sum_call A1 c1 l w hr1 hc1 hn a false hs); have HF : Aside0 (∀ W, Calls Try.prog 27 #[.int .i64 t] W fun e w' => e = .returned (.bool true) ∧ w' = W) := ⟨fun W => by have := number_fn t W; rwa [ht] at this⟩; clear hr1 hc1 hn ht hs; go_enter Try.func14, Try.ntmps14
 go_wp2_with (first | (go_at_call 31; refine HS.out.mono ?_; rintro e w5 ⟨rfl, hB⟩; have HB := am_ hB; clear hB) | (go_at_call 27; refine (HF.out _).mono ?_; rintro e w6 ⟨rfl, hw6⟩; subst w6))
 go_ret2; exact ⟨_, rfl, Kd.R_nil _ _ _ _ _, HB.out⟩
set_option maxHeartbeats 8000000 in
set_option maxRecDepth 100000 in
theorem share_c (hr1 : Kd.C (Kd.int .i64) w A1 l.length l) (hc1 : l.length ≤ c1) (hn : l.length ≤ 40) (ht : num t = true) (hs : sumG 0 l = (0, true)) (ht0 : ¬ t = 0) :
  Calls Try.prog 14 #[.int .i64 t, .slice A1 l.length c1] w (SharePost w ([], 8)) := by
 have HS := am_ (sum_call A1 c1 l w hr1 hc1 hn 0 true hs); have HF : Aside0 (∀ W, Calls Try.prog 27 #[.int .i64 t] W fun e w' => e = .returned (.bool true) ∧ w' = W) := ⟨fun W => by have := number_fn t W; rwa [ht] at this⟩; have b0 : (t == 0) = false := beq_eq_false_iff_ne.2 ht0; have b1 : (t != 0) = true := by simp [ht0]
 clear hr1 hc1 hn ht hs ht0; go_enter Try.func14, Try.ntmps14
 go_wp2_with (first | (go_at_call 31; refine HS.out.mono ?_; rintro e w5 ⟨rfl, hB⟩; have HB := am_ hB; clear hB) | (go_at_call 27; refine (HF.out _).mono ?_; rintro e w6 ⟨rfl, hw6⟩; subst w6))
 go_ret2; exact ⟨_, rfl, Kd.R_nil _ _ _ _ _, HB.out⟩
set_option maxHeartbeats 8000000 in
set_option maxRecDepth 100000 in
theorem share_d (hr1 : Kd.C (Kd.int .i64) w A1 l.length l) (hc1 : l.length ≤ c1) (hn : l.length ≤ 40) (hs : sumG 0 l = (0, true)) :
  Calls Try.prog 14 #[.int .i64 0, .slice A1 l.length c1] w (SharePost w (List.replicate l.length 0, 0)) := by
 have HS := am_ (sum_call A1 c1 l w hr1 hc1 hn 0 true hs); have HF : Aside0 (∀ W, Calls Try.prog 27 #[.int .i64 0] W fun e w' => e = .returned (.bool true) ∧ w' = W) := ⟨fun W => number_fn 0 W⟩; have HN := am_ (show l.length ≤ 1000000000 by omega); have HN2 := am_ hn; clear hr1 hc1 hn hs; go_enter Try.func14, Try.ntmps14
 go_wp2_with (first | (go_at_call 31; refine HS.out.mono ?_; rintro e w5 ⟨rfl, hB⟩; have HB := am_ hB; clear hB) | (go_at_call 27; refine (HF.out _).mono ?_; rintro e w6 ⟨rfl, hw6⟩; subst w6) | ((with_reducible refine gate_dst (N := 42) rfl ?_); refine wp_make ?hg (Operand.tmp 41) 33 3 ?hop l.length ?hx HN.out Try.underlying33 (.int .i64 0) info3 rfl ?_; (case hg => rfl); (case hop => rfl); (case hx => first | (go_simp; done) | (go_simp; rfl)); intro s W6 hs6 hO6 hz6 hB6; have HO6 := am_ hO6; have HB6 := am_ hB6; have HS6 := am_ hs6; clear hs6 hO6 hz6 hB6))
 go_ret2; have hle : w.heap.size ≤ s := by rw [HS6.out]; exact HB.out.size
 refine ⟨_, rfl, ?_, HB.out.trans (HB6.out.mono hle)⟩; obtain ⟨cs, h1, h2, h3⟩ := HO6.out
 have hcs : cs.toList = encs (Value.int .i64) (List.replicate l.length 0) := by
  apply List.ext_getElem?
  intro j; rw [show encs (Value.int .i64) (List.replicate l.length 0) = (List.replicate l.length 0).map (Value.int .i64) from rfl, List.getElem?_map]
  by_cases hj : j < l.length
  ·
   rw [Array.getElem?_toList, h3 j hj]
   simp [hj]
  ·
   rw [List.getElem?_eq_none (by simp [h2]; omega), List.getElem?_eq_none (by simp; omega)]; rfl
 have : W6.ownsRow w.heap.size 3 1 (.slice (some ⟨s, 0, none⟩) l.length l.length) (List.replicate l.length (0 : Int)).length (encs (Value.int .i64) (List.replicate l.length 0)) := by
  refine ⟨by rw [← hcs]; simp [h2], .inr ⟨s, l.length, cs, by simp, hle, h1, by simp, by have := HN2.out; simp [maxLen]; omega, by omega, ?_⟩⟩; rw [List.length_replicate, Nat.mul_one, ← hcs, ← h2, ← Array.length_toList, List.take_length]
 exact Kd.R_of_own (h1 := fun _ => rfl) this (fun _ _ => trivial)
end
def shareOk (_t : Int) (l : List Int) : Prop := l.length ≤ 40
instance (t : Int) (l : List Int) : Decidable (shareOk t l) := by unfold shareOk; infer_instance
def quota_Share.f (t : Int) (l : List Int) : Option (List Int × Int) := if shareOk t l then some (shareS t l) else none
theorem quota_Share.calls (a0 : Int) (A1 : Option Addr) (c1 : Nat) (l1 : List Int) (r1 : List Int) (r2 : Int) (w : World) (hr1 : Kd.C (Kd.int .i64) w A1 l1.length l1) (hc1 : l1.length ≤ c1) (h : quota_Share.f a0 l1 = some (r1, r2)) :
  Calls Try.prog 14 #[.int .i64 a0, .slice A1 l1.length c1] w fun e w' => ∃ v0_, e = .returned (.tuple #[v0_, .int .i64 r2]) ∧ Kd.R (Kd.int .i64) 3 w' w.heap.size (fun _ => True) v0_ r1 ∧ Below w.heap.size w w' := by
 unfold quota_Share.f at h
 by_cases hk : shareOk a0 l1
 ·
  rw [if_pos hk] at h; have e := si_ h
  suffices hh : Calls Try.prog 14 #[.int .i64 a0, .slice A1 l1.length c1] w (SharePost w (shareS a0 l1)) by
   rw [e] at hh; exact hh
  clear h e; have hn : l1.length ≤ 40 := hk
  unfold shareS
  by_cases c : num a0 = true ∧ (sumG 0 l1).2 = true
  ·
   rw [if_pos c]; obtain ⟨b1, b2⟩ := (num_iff _).1 c.1
   by_cases ca : (sumG 0 l1).1 = 0
   ·
    rw [if_pos ca]; have hs : sumG 0 l1 = (0, true) := Prod.ext ca c.2
    by_cases ct : a0 = 0
    ·
     rw [if_pos ct]; subst ct; exact share_d A1 c1 l1 w hr1 hc1 hn hs
    ·
     rw [if_neg ct]; exact share_c A1 c1 l1 a0 w hr1 hc1 hn c.1 hs ct
   ·
    rw [if_neg ca]; have hnum := (num_iff _).1 (sumG_num l1 0 (by decide) c.2); obtain ⟨T, rfl⟩ : ∃ T : Nat, a0 = T := ⟨a0.toNat, by omega⟩; obtain ⟨A, hA⟩ : ∃ A : Nat, (sumG 0 l1).1 = A := ⟨((sumG 0 l1).1).toNat, by omega⟩; rw [hA]; have hsum := sumG_ok l1 0 c.2; refine share_main A1 c1 l1 T A w hr1 hc1 hn c.1 (Prod.ext hA c.2) (by omega) (fun x hx => ?_); obtain ⟨X, hX⟩ : ∃ X : Nat, x = X := ⟨x.toNat, by have := (num_iff _).1 (hsum.2 x hx); omega⟩
    have hXA : X ≤ A := by
     have := le_sum_of_mem l1 (fun y hy => ((num_iff y).1 (hsum.2 y hy)).1) x hx; have := hsum.1
     omega
    obtain ⟨hi, lo, h⟩ := mulDiv T X A (by omega) (by omega) hXA (by omega); exact ⟨X, hi, lo, hX, h⟩
  ·
   rw [if_neg c]
   by_cases c1' : num a0 = true
   ·
    exact share_b A1 c1 l1 a0 w hr1 hc1 hn c1' (by cases e : (sumG 0 l1).2 <;> simp_all)
   ·
    exact share_a A1 c1 l1 a0 w hr1 hc1 hn (by cases e : num a0 <;> simp_all)
 ·
  rw [if_neg hk] at h; cases h
end Go.Proofs.Ytbadelcnaeijkaa.Q
end
section
namespace Go.Proofs.Ytbadelcnaeijkaa.Q
open Go.RowKit Go.Proofs.YtbadelcnaeijkaaW.PrintWords Go.Proofs.YtbadelcnaeijkaaW.PrintLast Go.Proofs.YtbadelcnaeijkaaW.PrintMore
attribute [local go_sem] max2_int min2_int max_two min_two max_three min_three max_four min_four
attribute [local go_sem ↓] isSome_setCell
attribute [local go_sem] string_gtr
set_option linter.unusedVariables false
set_option linter.unusedSimpArgs false
end Go.Proofs.Ytbadelcnaeijkaa.Q
end
section
namespace Go.Proofs.Ytbadelcnaeijkaa.Q
open Go.RowKit Go.Proofs.YtbadelcnaeijkaaW.PrintWords Go.Proofs.YtbadelcnaeijkaaW.PrintLast Go.Proofs.YtbadelcnaeijkaaW.PrintMore
attribute [local go_sem] max2_int min2_int max_two min_two max_three min_three max_four min_four
attribute [local go_sem ↓] isSome_setCell
attribute [local go_sem] string_gtr
set_option linter.unusedVariables false
set_option linter.unusedSimpArgs false
def lim (o : ByteArray) : List S55 → Int × Bool
 | [] => (0, false)
 | x :: l => if x.f0 = o then (x.f1, true) else lim o l
def limIdx (o : ByteArray) : List S55 → Nat → Int
 | [], _ => -1
 | x :: l, i => if x.f0 = o then (i : Int) else limIdx o l (i + 1)
theorem limIdx_cons (o : ByteArray) (x : S55) (l : List S55) (i : Nat) : limIdx o (x :: l) i = if x.f0 = o then (i : Int) else limIdx o l (i + 1) := rfl
theorem limIdx_lim (o : ByteArray) : ∀ (l : List S55) (i : Nat), (limIdx o l i = -1 ∧ lim o l = (0, false)) ∨ ∃ j, j < l.length ∧ limIdx o l i = ((i + j : Nat) : Int) ∧ lim o l = ((l.getD j z55).f1, true)
 | [], i => .inl ⟨rfl, rfl⟩
 | x :: l, i => by
  unfold limIdx lim
  by_cases h : x.f0 = o
  ·
   rw [if_pos h, if_pos h]; exact .inr ⟨0, by simp, rfl, rfl⟩
  ·
   rw [if_neg h, if_neg h]
   rcases limIdx_lim o l (i + 1) with h1 | ⟨j, h1, h2, h3⟩
   ·
    exact .inl h1
   ·
    exact .inr ⟨j + 1, by simp; omega, by rw [h2]; congr 1; omega, by rw [h3]; rfl⟩
set_option maxHeartbeats 2000000 in
theorem limit_fn (x : S55) (o : ByteArray) (gb : Nat) (w : World) (hc : w.cell? ⟨gb, 0, none⟩ = some (.string o)) :
  Calls Try.prog 39 #[.agg #[.string x.f0, .int .i64 x.f1], .pointer (some ⟨gb, 0, none⟩)] w fun e w' => e = .returned (.bool (x.f0.toList == o.toList)) ∧ Below w.heap.size w w' := by
 have hu55 := Try.underlying55; have hlt := bk_ w _ hc; have HB := am_ (Below.refl w.heap.size w); have hc2 : ∀ ob : Obj, (w.alloc ob).cell? ⟨gb, 0, none⟩ = some (.string o) := fun ob => Lib.cell?_alloc_some _ hc
 go_enter Try.func39, Try.ntmps39; go_wp2; go_ret; exact ⟨rfl, (Below.refl _ _).alloc (Nat.le_refl _) _⟩
theorem limit_fn2 (x : S55) (o : ByteArray) (gb : Nat) (b : Bool) (hb : (x.f0.toList == o.toList) = b) (w : World) (hc : w.cell? ⟨gb, 0, none⟩ = some (.string o)) :
  Calls Try.prog 39 #[.agg #[.string x.f0, .int .i64 x.f1], .pointer (some ⟨gb, 0, none⟩)] w fun e w' => e = .returned (.bool b) ∧ Below w.heap.size w w' := hb ▸ limit_fn x o gb w hc
set_option maxHeartbeats 4000000 in
theorem limit_idx (A0 : Option Addr) (c0 : Nat) (l0 : List S55) (o : ByteArray) (gb : Nat) (w : World) (hr0 : Kd.C k55 w A0 l0.length l0) (hc : w.cell? ⟨gb, 0, none⟩ = some (.string o)) (hl : l0.length ≤ 1000000000) :
  Calls Try.prog 38 #[.slice A0 l0.length c0, .func (.func 39) #[] #[.pointer (some ⟨gb, 0, none⟩)]] w fun e w' => e = .returned (.int .i64 (limIdx o l0 0)) ∧ Below w.heap.size w w' := by
 have hu55 := Try.underlying55; have hlt := bk_ w _ hc; have HR0 := am_ hr0; have HC := am_ hc; have HL := am_ hl; clear hr0 hc hl; have HB := am_ (Below.refl w.heap.size w); go_enter Try.func38, Try.ntmps38; go_wp2
 go_loopg [8] l0.length (fun kq v8 w' => ∃ i : Nat, v8 = .int .i64 (i : Int) ∧ Aside0 (i + kq = l0.length) ∧ Aside0 (limIdx o (l0.drop i) i = limIdx o l0 0) ∧ Aside0 (Below w.heap.size w w'))
 case atStart => exact ⟨0, rfl, ⟨by omega⟩, ⟨rfl⟩, HB⟩
 case round =>
  obtain ⟨i, rfl, HN, HI, HB⟩ := hrel; have hl2 := HL.out
  by_cases c2 : i < l0.length
  ·
   have c2b0 : decide ((i : Int) < (l0.length : Int)) = true := de_ (by omega); have c2b1 : decide (i < l0.length) = true := de_ c2; have p1 : 0 ≤ (i : Int) := by omega
   have q1 : (i : Int) < (l0.length : Int) := by omega
   obtain ⟨ad1, e1, hx1_0, hx1_1⟩ := at_T55 HR0.out (i : Int) p1 q1; cases e1; replace hx1_0 := (HB.out.cell (bk_ w _ hx1_0)).trans hx1_0; replace hx1_1 := (HB.out.cell (bk_ w _ hx1_1)).trans hx1_1; have hcw := (HB.out.cell hlt).trans HC.out; rw [Int.toNat_natCast] at hx1_0 hx1_1
   have hrd : rd_T55 l0 (i : Int) = l0[i]'c2 := by
    unfold rd_T55
    rw [Int.toNat_natCast, List.getD_eq_getElem?_getD, List.getElem?_eq_getElem c2]; rfl
   rw [hrd] at hx1_0 hx1_1; have hdrop : l0.drop i = l0[i]'c2 :: l0.drop (i + 1) := List.drop_eq_getElem_cons c2; have HD := am_ hdrop; clear hdrop hrd
   have hw : IntKind.i64.wrap ((i : Int) + 1) = ((i + 1 : Nat) : Int) := by
    rw [i64_w]
    unfold wrap64
    omega
   generalize l0[i]'c2 = x at *; replace p1 := eq_true p1; replace q1 := eq_true q1; have HCW := am_ hcw; clear hcw; clear hl2; have HF := fun b (hb : (x.f0.toList == o.toList) = b) => limit_fn2 x o gb b hb
   by_cases c3 : x.f0 = o
   ·
    have H3 := am_ c3; have HF2 := am_ (HF true (by rw [c3]; exact beq_self_eq_true _)); clear c3 HF
    go_wp2_with (go_at_call 39; refine (HF2.out _ HCW.out).mono ?_; rintro e w6 ⟨rfl, hb6⟩)
    have h1 := HI.out; rw [HD.out, limIdx_cons, if_pos H3.out] at h1; have H1 := am_ h1; clear h1; go_wp2; go_ret; refine ⟨?_, HB.out.trans (hb6.mono (bz_ HB.out))⟩; rw [← H1.out]
    first | rfl | trace_state
   ·
    have H3 := am_ c3; have HF2 := am_ (HF false (by rw [beq_eq_false_iff_ne]; exact fun e => c3 (ByteArray.ext (by rw [ByteArray.toList_eq, ByteArray.toList_eq] at e; exact Array.toList_inj.1 e)))); clear c3 HF
    go_wp2_with (go_at_call 39; refine (HF2.out _ HCW.out).mono ?_; rintro e w6 ⟨rfl, hb6⟩)
    go_roundg (l0.length - (i + 1))
    case measure => have := HN.out; omega
    case rel =>
     have h1 := HI.out; rw [HD.out, limIdx_cons, if_neg H3.out] at h1; exact ⟨i + 1, by simp, ⟨by have := HN.out; omega⟩, ⟨h1⟩, ⟨HB.out.trans (hb6.mono (bz_ HB.out))⟩⟩
  ·
   have c2b0 : decide ((i : Int) < (l0.length : Int)) = false := df_ (by omega); have c2b1 : decide (i < l0.length) = false := df_ c2; have h1 := HI.out; rw [List.drop_of_length_le (by omega)] at h1; have H1 := am_ h1; clear h1 c2; go_wp2; go_ret; exact ⟨by rw [← H1.out]; rfl, HB.out⟩
theorem below_back {w w' : World} (o : Obj) (h : Below (w.alloc o).heap.size (w.alloc o) w') : Below w.heap.size w w' :=
 ((Below.refl _ _).alloc (Nat.le_refl _) o).trans (h.mono (by simp))
set_option maxHeartbeats 4000000 in
theorem limit_walk (A0 : Option Addr) (c0 : Nat) (l0 : List S55) (o : ByteArray) (w : World) (hr0 : Kd.C k55 w A0 l0.length l0) (hl : l0.length ≤ 1000000000) :
  Calls Try.prog 17 #[.slice A0 l0.length c0, .string o] w fun e w' => e = .returned (.tuple #[.int .i64 (lim o l0).1, .bool (lim o l0).2]) ∧ Below w.heap.size w w' := by
 have HR0 := am_ hr0; have HL := am_ hl; have HX := am_ (limIdx_lim o l0 0); clear hr0 hl; go_enter Try.func17, Try.ntmps17
 rcases HX.out with ⟨h1, h2⟩ | ⟨j, hj, h1, h2⟩
 ·
  have HX2 := fun w hr0 gb hc => limit_idx A0 c0 l0 o gb w hr0 hc HL.out
  simp only [h1] at HX2; simp only [h2]; clear HX h1 h2
  go_wp2_with (go_at_call 38; refine (HX2 _ (Kd.C_alloc HR0.out _) _ ?_).mono ?_)
  ·
   rw [World.cell?_alloc_new]; rfl
  ·
   rintro e w6 ⟨rfl, hb6⟩; go_wp2; go_ret2; exact ⟨rfl, below_back _ hb6⟩
 ·
  have HX2 := fun w hr0 gb hc => limit_idx A0 c0 l0 o gb w hr0 hc HL.out
  simp only [h1, Nat.zero_add] at HX2; simp only [h2]; obtain ⟨ad1, e1, hx1_0, hx1_1⟩ := at_T55 HR0.out (j : Int) (by omega) (by omega); cases e1; rw [Int.toNat_natCast] at hx1_0 hx1_1
  have hrd : rd_T55 l0 (j : Int) = l0.getD j z55 := by
   unfold rd_T55
   rw [Int.toNat_natCast]
  rw [hrd] at hx1_0 hx1_1; generalize l0.getD j z55 = x at *; have p1 : 0 ≤ (j : Int) := by omega
  have q1 : (j : Int) < (l0.length : Int) := by omega
  have c2b0 : decide ((j : Int) < 0) = false := df_ (by omega); replace p1 := eq_true p1; replace q1 := eq_true q1; have HC := am_ hx1_1; clear HX h1 h2 hrd hj hx1_0 hx1_1
  go_wp2_with (go_at_call 38; refine (HX2 _ (Kd.C_alloc HR0.out _) _ ?_).mono ?_)
  ·
   rw [World.cell?_alloc_new]; rfl
  ·
   rintro e w6 ⟨rfl, hb6⟩; have hx := (below_back _ hb6).cell (bk_ w _ HC.out) |>.trans HC.out
   go_wp2; go_ret2; exact ⟨rfl, below_back _ hb6⟩
def quota_Limit.f (l0 : List S55) (a1 : ByteArray) : Option (Int × Bool) := if l0.length ≤ 1000000000 then some (lim a1 l0) else none
theorem quota_Limit.calls (A0 : Option Addr) (c0 : Nat) (l0 : List S55) (a1 : ByteArray) (r1 : Int) (r2 : Bool) (w : World) (hr0 : Kd.C k55 w A0 l0.length l0) (_hc0 : l0.length ≤ c0) (h : quota_Limit.f l0 a1 = some (r1, r2)) :
  Calls Try.prog 17 #[.slice A0 l0.length c0, .string a1] w fun e w' => e = .returned (.tuple #[.int .i64 r1, .bool r2]) ∧ Below w.heap.size w w' := by
 unfold quota_Limit.f at h
 by_cases hl : l0.length ≤ 1000000000
 ·
  rw [if_pos hl] at h; have e := si_ h; obtain ⟨rfl, rfl⟩ : (lim a1 l0).1 = r1 ∧ (lim a1 l0).2 = r2 := ⟨by rw [e], by rw [e]⟩; exact limit_walk A0 c0 l0 a1 w hr0 hl
 ·
  rw [if_neg hl] at h; cases h
end Go.Proofs.Ytbadelcnaeijkaa.Q
end
section
namespace Go.Proofs.Ytbadelcnaeijkaa.Q
open Go.RowKit Go.Proofs.YtbadelcnaeijkaaW.PrintWords Go.Proofs.YtbadelcnaeijkaaW.PrintLast Go.Proofs.YtbadelcnaeijkaaW.PrintMore
attribute [local go_sem] max2_int min2_int max_two min_two max_three min_three max_four min_four
attribute [local go_sem ↓] isSome_setCell
attribute [local go_sem] string_gtr
set_option linter.unusedVariables false
set_option linter.unusedSimpArgs false
def quota_exceeds.f (l0 : List (S55)) (a1 : ByteArray) (a2 : Int) : Option (Bool) := (quota_Limit.f l0 a1).bind fun bt133 => (if bt133.2 = true then (some (decide (bt133.1 < a2))) else (some false))
set_option maxHeartbeats 8000000 in
set_option maxRecDepth 100000 in
theorem quota_exceeds.calls (A0 : Option Addr) (c0 : Nat) (l0 : List (S55)) (a1 : ByteArray) (a2 : Int) (r : Bool) (w : World) (hr0 : Kd.C k55 w A0 l0.length l0) (hc0 : l0.length ≤ c0) (h : quota_exceeds.f l0 a1 a2 = some r) :
  Calls Try.prog 30 #[.slice A0 l0.length c0, .string a1, .int .i64 a2] w fun e w' => e = .returned (.bool r) ∧ Below w.heap.size w w' := by
 have HR0 := am_ hr0; have HC0 := am_ hc0; clear hr0 hc0; have HB := am_ (Below.refl w.heap.size w); have H : ((quota_Limit.f l0 a1).bind fun bt133 => (if bt133.2 = true then (some (decide (bt133.1 < a2))) else (some false))) = some r := h; clear h; replace H := Option.bind_eq_some_iff.mp H; obtain ⟨⟨t133, t134⟩, A40, H⟩ := H; replace H : (if t134 = true then (some (decide (t133 < a2))) else (some false)) = some r := H; have A4 := am_ A40; clear A40
 by_cases c5 : t134 = true
 ·
  subst c5; have H1 : (some (decide (t133 < a2))) = some r := by rw [if_pos rfl] at H; exact H
  clear H; have H := H1; clear H1; obtain rfl := si_ H; go_enter Try.func30, Try.ntmps30
  go_wp2_with (first | ((with_reducible refine gate_callee (f := 17) rfl ?_); refine goesL_ (some 12) rfl rfl Try.func17 (by kernel_rfl) rfl #[.slice A0 l0.length c0, .string a1] rfl au_ ?_; (with_reducible refine (quota_Limit.calls _ _ l0 a1 t133 true _ ?side1 ?side2 A4.out).mono ?_); (case side1 => repeat (first | exact HR0.out | (with_reducible refine Kd.C_alloc ?_ _) | (with_reducible refine Kd.C_drewN ?_ _) | (with_reducible refine Kd.C_drew ?_))); (case side2 => exact HC0.out); rintro e w6 ⟨rfl, hb⟩; refine ⟨_, rfl, ?_⟩; have n0_ := am_ (sp_ (pb0_ HB.out) hb); clear HB; have HB := n0_; clear n0_; (try clear hb); (try clear hb2); (try clear hk); (try clear hi)))
  go_ret; exact ⟨by first | rfl | (simp [errW_none, errW_some] <;> rfl) | (simp [*, errW_none, errW_some] <;> rfl), pb0_ HB.out⟩
 ·
  replace c5 := Bool.eq_false_iff.mpr c5; subst c5; have H1 : (some false) = some r := by rw [if_neg (show ¬ (false = true) by decide)] at H; exact H
  clear H; have H := H1; clear H1; obtain rfl := si_ H; go_enter Try.func30, Try.ntmps30
  go_wp2_with (first | ((with_reducible refine gate_callee (f := 17) rfl ?_); refine goesL_ (some 12) rfl rfl Try.func17 (by kernel_rfl) rfl #[.slice A0 l0.length c0, .string a1] rfl au_ ?_; (with_reducible refine (quota_Limit.calls _ _ l0 a1 t133 false _ ?side1 ?side2 A4.out).mono ?_); (case side1 => repeat (first | exact HR0.out | (with_reducible refine Kd.C_alloc ?_ _) | (with_reducible refine Kd.C_drewN ?_ _) | (with_reducible refine Kd.C_drew ?_))); (case side2 => exact HC0.out); rintro e w7 ⟨rfl, hb⟩; refine ⟨_, rfl, ?_⟩; have n0_ := am_ (sp_ (pb0_ HB.out) hb); clear HB; have HB := n0_; clear n0_; (try clear hb); (try clear hb2); (try clear hk); (try clear hi)))
  go_ret; exact ⟨by first | rfl | (simp [errW_none, errW_some] <;> rfl) | (simp [*, errW_none, errW_some] <;> rfl), pb0_ HB.out⟩
end Go.Proofs.Ytbadelcnaeijkaa.Q
end
section
namespace Go.Proofs.Ytbadelcnaeijkaa.Q
open Go.RowKit Go.Proofs.YtbadelcnaeijkaaW.PrintWords Go.Proofs.YtbadelcnaeijkaaW.PrintLast Go.Proofs.YtbadelcnaeijkaaW.PrintMore
attribute [local go_sem] max2_int min2_int max_two min_two max_three min_three max_four min_four
attribute [local go_sem ↓] isSome_setCell
attribute [local go_sem] string_gtr
set_option linter.unusedVariables false
set_option linter.unusedSimpArgs false
def badIdx : List Int → Nat → Int
 | [], _ => -1
 | x :: l, i => if num x = true then badIdx l (i + 1) else (i : Int)
theorem badIdx_cons (x : Int) (l : List Int) (i : Nat) : badIdx (x :: l) i = if num x = true then badIdx l (i + 1) else (i : Int) := rfl
theorem badIdx_spec : ∀ (l : List Int) (i : Nat), (badIdx l i = -1 ∧ (l.all num) = true) ∨ (0 ≤ badIdx l i ∧ (l.all num) = false)
 | [], i => .inl ⟨rfl, rfl⟩
 | x :: l, i => by
  rw [badIdx_cons]
  by_cases h : num x = true
  ·
   rw [if_pos h]
   simpa [h] using badIdx_spec l (i + 1)
  ·
   rw [if_neg h]; exact .inr ⟨by omega, by simp [h]⟩
theorem wrong_fn (x : Int) (b : Bool) (hb : num x = b) (w : World) : Calls Try.prog 26 #[.int .i64 x] w fun e w' => e = .returned (.bool (!b)) ∧ w' = w := by
 have HF := number_fn x; rw [hb] at HF; clear hb; cases b
 ·
  go_enter Try.func26, Try.ntmps26
  go_wp2_with (go_at_call 27; refine (HF _).mono ?_; rintro e w9 ⟨rfl, rfl⟩)
  go_ret; exact ⟨rfl, rfl⟩
 ·
  go_enter Try.func26, Try.ntmps26
  go_wp2_with (go_at_call 27; refine (HF _).mono ?_; rintro e w9 ⟨rfl, rfl⟩)
  go_ret; exact ⟨rfl, rfl⟩
set_option maxHeartbeats 4000000 in
theorem bad_idx (A0 : Option Addr) (c0 : Nat) (l0 : List Int) (w : World) (hr0 : Kd.C (Kd.int .i64) w A0 l0.length l0) (hl : l0.length ≤ 1000000000) :
  Calls Try.prog 43 #[.slice A0 l0.length c0, .func (.func 26) #[] #[]] w fun e w' => e = .returned (.int .i64 (badIdx l0 0)) ∧ w' = w := by
 have HR0 := am_ hr0; have HL := am_ hl; clear hr0 hl; go_enter Try.func43, Try.ntmps43; go_wp2
 go_loopg [8] l0.length (fun kq v8 w' => ∃ i : Nat, v8 = .int .i64 (i : Int) ∧ Aside0 (i + kq = l0.length) ∧ Aside0 (badIdx (l0.drop i) i = badIdx l0 0) ∧ Aside0 (w' = w))
 case atStart => exact ⟨0, rfl, ⟨by omega⟩, ⟨rfl⟩, ⟨rfl⟩⟩
 case round =>
  obtain ⟨i, rfl, HN, HI, HB⟩ := hrel; obtain rfl := HB.out; clear HB; have hl2 := HL.out
  by_cases c2 : i < l0.length
  ·
   have c2b0 : decide ((i : Int) < (l0.length : Int)) = true := de_ (by omega); have c2b1 : decide (i < l0.length) = true := de_ c2; have p1 : 0 ≤ (i : Int) := by omega
   have q1 : (i : Int) < (l0.length : Int) := by omega
   obtain ⟨ad1, e1, hx1⟩ := Kd.at_int HR0.out (i : Int) p1 q1; cases e1; rw [Int.toNat_natCast] at hx1
   have hrd : rd l0 (i : Int) = l0[i]'c2 := by
    unfold rd
    rw [Int.toNat_natCast, List.getD_eq_getElem?_getD, List.getElem?_eq_getElem c2]; rfl
   rw [hrd] at hx1; have HD := am_ (List.drop_eq_getElem_cons c2); clear hrd
   have hw : IntKind.i64.wrap ((i : Int) + 1) = ((i + 1 : Nat) : Int) := by
    rw [i64_w]
    unfold wrap64
    omega
   generalize l0[i]'c2 = x at *; replace p1 := eq_true p1; replace q1 := eq_true q1; clear hl2
   by_cases c3 : num x = true
   ·
    have H3 := am_ c3; have HF := am_ (wrong_fn x true c3); clear c3
    go_wp2_with (go_at_call 26; refine (HF.out _).mono ?_; rintro e w9 ⟨rfl, rfl⟩)
    go_roundg (l0.length - (i + 1))
    case measure => have := HN.out; omega
    case rel =>
     have h1 := HI.out; rw [HD.out, badIdx_cons, if_pos H3.out] at h1; exact ⟨i + 1, by simp, ⟨by have := HN.out; omega⟩, ⟨h1⟩, ⟨rfl⟩⟩
   ·
    have H3 := am_ c3; have HF := am_ (wrong_fn x false (Bool.eq_false_iff.mpr c3)); clear c3; have h1 := HI.out; rw [HD.out, badIdx_cons, if_neg H3.out] at h1; have H1 := am_ h1; clear h1
    go_wp2_with (go_at_call 26; refine (HF.out _).mono ?_; rintro e w9 ⟨rfl, rfl⟩)
    go_ret; refine ⟨?_, rfl⟩; rw [← H1.out]; rfl
  ·
   have c2b0 : decide ((i : Int) < (l0.length : Int)) = false := df_ (by omega); have c2b1 : decide (i < l0.length) = false := df_ c2; have h1 := HI.out; rw [List.drop_of_length_le (by omega)] at h1; have H1 := am_ h1; clear h1 c2; go_wp2; go_ret; exact ⟨by rw [← H1.out]; rfl, rfl⟩
theorem bad_has (A0 : Option Addr) (c0 : Nat) (l0 : List Int) (w : World) (hr0 : Kd.C (Kd.int .i64) w A0 l0.length l0) (hl : l0.length ≤ 1000000000) :
  Calls Try.prog 28 #[.slice A0 l0.length c0, .func (.func 26) #[] #[]] w fun e w' => e = .returned (.bool (!l0.all num)) ∧ w' = w := by
 have HI := fun w hr0 => bad_idx A0 c0 l0 w hr0 hl
 rcases badIdx_spec l0 0 with ⟨h1, h2⟩ | ⟨h1, h2⟩
 ·
  rw [h1] at HI; rw [h2]; clear h1 h2; go_enter Try.func28, Try.ntmps28
  go_wp2_with (go_at_call 43; refine (HI _ hr0).mono ?_; rintro e w9 ⟨rfl, rfl⟩)
  go_ret; exact ⟨rfl, rfl⟩
 ·
  rw [h2]; generalize badIdx l0 0 = x at *; have c : decide (0 ≤ x) = true := de_ h1; clear h1 h2; go_enter Try.func28, Try.ntmps28
  go_wp2_with (go_at_call 43; refine (HI _ hr0).mono ?_; rintro e w9 ⟨rfl, rfl⟩)
  go_ret; exact ⟨rfl, rfl⟩
def addS (o : ByteArray) (p : List (ByteArray × Int)) : Int := (p.map fun x => if x.1 = o then x.2 else 0).sum
theorem addS_step (o : ByteArray) (p : List (ByteArray × Int)) (i : Nat) (h : i < p.length) : addS o (p.take (i + 1)) = addS o (p.take i) + (if p[i].1 = o then p[i].2 else 0) := by
 rw [List.take_add_one, List.getElem?_eq_getElem h, addS, List.map_append, List.sum_append]
 simp [addS, -List.map_take]
theorem addS_bound (o : ByteArray) : ∀ p : List (ByteArray × Int), (∀ x ∈ p, num x.2 = true) → 0 ≤ addS o p ∧ addS o p ≤ p.length * 1125899906842624
 | [], _ => ⟨Int.le_refl _, Int.le_refl _⟩
 | x :: l, h => by
  have ih := addS_bound o l (fun y hy => h y (List.mem_cons_of_mem _ hy)); have e : addS o (x :: l) = (if x.1 = o then x.2 else 0) + addS o l := by simp [addS]
  have := num_le (h x List.mem_cons_self); rw [e, List.length_cons]
  by_cases c : x.1 = o
  ·
   rw [if_pos c]
   omega
  ·
   rw [if_neg c]
   omega
def exc (l : List S55) (o : ByteArray) (n : Int) : Bool := (lim o l).2 && decide ((lim o l).1 < n)
def firstEx (l : List S55) (g : ByteArray → Int) : List ByteArray → Nat → Int × Int
 | [], _ => (0, 0)
 | o :: m, i => if exc l o (g o) = true then ((i : Int), 20) else firstEx l g m (i + 1)
theorem firstEx_cons (l : List S55) (g : ByteArray → Int) (o : ByteArray) (m : List ByteArray) (i : Nat) : firstEx l g (o :: m) i = if exc l o (g o) = true then ((i : Int), 20) else firstEx l g m (i + 1) := rfl
theorem exc_f (l : List S55) (hl : l.length ≤ 1000000000) (o : ByteArray) (n : Int) : quota_exceeds.f l o n = some (exc l o n) := by
 unfold quota_exceeds.f quota_Limit.f exc
 rw [if_pos hl]
 rcases lim o l with ⟨a, b⟩
 cases b <;> rfl
def admitS (l3 : List S66) (l9 : List S55) (m1 : List ByteArray) (m2 : List Int) : Int × Int :=
 if m1.length ≠ m2.length then (0, 8) else if (!m2.all num) = true then (0, 8) else firstEx l9 (fun s => used s l3 + addS s (m1.zip m2)) m1 0
def adT : Bool × List (List Nat × List Nat) := (true, [([], []), ([], []), ([0, 1], [0, 1]), ([], []), ([], []), ([3, 4], [3, 4]), ([5], [5]), ([2, 6], [2, 6]), ([0, 1, 7, 0, 1, 2, 3, 4, 5, 6, 7], [0, 1, 7])])
def adB : List Nat := [0, 0, 3, 0, 0, 24, 56, 127, 255]
theorem adTab : rtab .any (opsOf Try.f11 8) = adT := by kernel_rfl
theorem adBits : waitsOk adT.2 adB = true := by kernel_rfl
set_option maxRecDepth 100000 in
set_option maxHeartbeats 8000000 in
theorem admit_walk (a0 a1 a2 : Int) (A3 : Option Addr) (c3 : Nat) (l3 : List S66) (A4 : Option Addr) (c4 : Nat) (l4 : List S133) (A5 : Option Addr) (c5 : Nat) (l5 : List S135) (A6 : Option Addr) (c6 : Nat) (l6 : List S137) (A7 : Option Addr) (c7 : Nat) (l7 : List S139) (A8 : Option Addr) (c8 : Nat) (l8 : List S141) (A9 : Option Addr) (c9 : Nat) (l9 : List S55) (A10 : Option Addr) (c10 : Nat) (l10 : List S143) (B1 : Option Addr) (d1 : Nat) (m1 : List ByteArray) (B2 : Option Addr) (d2 : Nat) (m2 : List Int) (w : World) (hr3 : Kd.C k66 w A3 l3.length l3) (hr9 : Kd.C k55 w A9 l9.length l9) (hm1 : Kd.C Kd.string w B1 m1.length m1) (hm2 : Kd.C (Kd.int .i64) w B2 m2.length m2)
  (hc9 : l9.length ≤ c9) (hu : usedOk l3) (hl9 : l9.length ≤ 1000000000) (hz : m1.length ≤ 1000 ∧ ∀ o ∈ m1, o.size ≤ 140737488351232) (hl2 : m2.length ≤ 1000000000) :
  Calls Try.prog 11 #[.agg #[.int .i64 a0, .int .i64 a1, .int .i64 a2, .slice A3 l3.length c3, .slice A4 l4.length c4, .slice A5 l5.length c5, .slice A6 l6.length c6, .slice A7 l7.length c7, .slice A8 l8.length c8, .slice A9 l9.length c9, .slice A10 l10.length c10], .slice B1 m1.length d1, .slice B2 m2.length d2] w fun e w' => e = .returned (.tuple #[.int .i64 (admitS l3 l9 m1 m2).1, .int .i64 (admitS l3 l9 m1 m2).2]) ∧ Below w.heap.size w w' := by
 have HR3 := am_ hr3; have HR9 := am_ hr9; have HM1 := am_ hm1; have HM2 := am_ hm2; have HU := am_ hu; have HC9 := am_ hc9; have HL9 := am_ hl9; have HZ := am_ hz; have HL2 := am_ hl2; clear hc9 hr3 hr9 hm1 hm2 hu hl9 hz hl2
 by_cases e1 : m1.length = m2.length
 ·
  by_cases e2 : m2.all num = true
  ·
   have hA : admitS l3 l9 m1 m2 = firstEx l9 (fun s => used s l3 + addS s (m1.zip m2)) m1 0 := by
    unfold admitS
    rw [if_neg (not_not_intro e1), if_neg (by rw [e2]; decide)]
   have HBAD := am_ (bad_has B2 d2 m2); rw [e2] at HBAD; have b0 : decide ((m1.length : Int) = (m2.length : Int)) = true := de_ (by rw [e1]); have b1 : decide (m1.length = m2.length) = true := de_ e1; have b2 : ((m1.length : Int) != (m2.length : Int)) = false := by rw [e1]; exact bne_self_eq_false _
   have HN2 : Aside0 (∀ x ∈ m1.zip m2, num x.2 = true) := ⟨fun x hx => List.all_eq_true.1 e2 _ (List.of_mem_zip hx).2⟩; have HE1 := am_ e1; have HZL := am_ (show (m1.zip m2).length = m1.length by rw [List.length_zip, e1, Nat.min_self]); rw [hA]; clear hA e1 e2; go_enter Try.func11, Try.ntmps11
   go_wp2_with (first | ((with_reducible refine gate_dst (N := 3) rfl ?_); refine box_event ?hg (N := 3) ?hd (cs := #[.int .i64 a0, .int .i64 a1, .int .i64 a2, .slice A3 l3.length c3, .slice A4 l4.length c4, .slice A5 l5.length c5, .slice A6 l6.length c6, .slice A7 l7.length c7, .slice A8 l8.length c8, .slice A9 l9.length c9, .slice A10 l10.length c10]) (t := 31) ?hr ?_; (case hd => rfl); (case hg => rfl); (case hr => first | (go_simp; done) | (go_simp; rfl)); intro gb hg w1 hbox hb; have BK := am_ hbox; have HB := am_ hb; have GL := am_ (bk_ w1 ⟨gb, 3, none⟩ ((bc_ hbox 3).trans rfl)); have hcz_3 : w1.cell? ⟨gb, 3, none⟩ = some (.slice A3 l3.length c3) := (bc_ hbox 3).trans rfl; clear hb hbox hg) | (go_at_call 28; refine (HBAD.out _ (Kd.C_below HM2.out HB.out) HL2.out).mono ?_; rintro e w9 ⟨rfl, hw9⟩; subst w9) | (go_at_call 29; refine (totals_fn A3 c3 l3 _ (Kd.C_below HR3.out HB.out) HU.out.1 HU.out.2).mono ?_; rintro e w2 ⟨mb, rfl, hb1, hm, hb2⟩; have HMB := am_ hb1; have HM := am_ hm; have HB2 := am_ hb2; clear hb1 hm hb2 hcz_3))
   go_loopg [29] m1.length (fun kq v29 w' => ∃ i : Nat, v29 = .int .i64 (i : Int) ∧ Aside0 (i + kq = m1.length) ∧ Aside0 (∃ hs, MapIs w' mb (l3.length + i) (fun s => used s l3 + addS s ((m1.zip m2).take i)) hs) ∧ Aside0 (Below w1.heap.size w1 w'))
   case atStart => exact ⟨0, rfl, ⟨by omega⟩, ⟨_, mapIs_ext HM.out (fun s => by simp [addS]) (fun _ => rfl)⟩, HB2⟩
   case round =>
    obtain ⟨i, rfl, HN, HM2_, HBL⟩ := hrel; have HBW := am_ (HB.out.trans (HBL.out.mono HB.out.size))
    by_cases c2 : i < m1.length
    ·
     have c2b0 : decide ((i : Int) < (m1.length : Int)) = true := de_ (by omega); have c2b1 : decide (i < m1.length) = true := de_ c2; have p1 : 0 ≤ (i : Int) := by omega
     have q1 : (i : Int) < (m1.length : Int) := by omega
     have q2 : (i : Int) < (m2.length : Int) := by have := HE1.out; omega
     have c2' : i < m2.length := by have := HE1.out; omega
     obtain ⟨ad1, e1, hx1⟩ := Kd.at_string (Kd.C_below HM1.out HBW.out) (i : Int) p1 q1; obtain ⟨ad2, e2, hx2⟩ := Kd.at_int (Kd.C_below HM2.out HBW.out) (i : Int) p1 q2; cases e1; cases e2; rw [Int.toNat_natCast] at hx1 hx2
     have hrd1 : rdOf ByteArray.empty m1 (i : Int) = m1[i]'c2 := by
      unfold rdOf
      rw [Int.toNat_natCast, List.getD_eq_getElem?_getD, List.getElem?_eq_getElem c2]; rfl
     have hrd2 : rd m2 (i : Int) = m2[i]'c2' := by
      unfold rd
      rw [Int.toNat_natCast, List.getD_eq_getElem?_getD, List.getElem?_eq_getElem c2']; rfl
     rw [hrd1] at hx1; rw [hrd2] at hx2; have hzi : i < (m1.zip m2).length := by rw [HZL.out]; exact c2
     have HST : Aside0 (∀ s, addS s ((m1.zip m2).take (i + 1)) = addS s ((m1.zip m2).take i) + (if m1[i]'c2 = s then m2[i]'c2' else 0)) := ⟨fun s => by rw [addS_step s _ i hzi]; simp⟩; have HX2 : Aside0 (num (m2[i]'c2') = true) := ⟨by have := HN2.out _ (List.getElem_mem hzi); simpa using this⟩; have HZO : Aside0 ((m1[i]'c2).size ≤ 140737488351232) := ⟨HZ.out.2 _ (List.getElem_mem c2)⟩; have HUB := am_ (fun s => used_bound s l3); have HAB := am_ (fun s => addS_bound s ((m1.zip m2).take i) (fun x hx => HN2.out x (List.mem_of_mem_take hx))); have HTL := am_ (show ((m1.zip m2).take i).length = i by rw [List.length_take]; omega)
     have hw : IntKind.i64.wrap ((i : Int) + 1) = ((i + 1 : Nat) : Int) := by
      have := HZ.out.1; rw [i64_w]
      unfold wrap64
      omega
     clear hrd1 hrd2 hzi; generalize m1[i]'c2 = o at *; generalize m2[i]'c2' = x at *; have HW : Aside0 (wrap64 (used o l3 + addS o ((m1.zip m2).take i) + x) = used o l3 + addS o ((m1.zip m2).take i) + x) := ⟨(wrap_lit _ (by have := HUB.out o; have := HAB.out o; have := num_le HX2.out; omega) (by have := HUB.out o; have := HAB.out o; have := num_le HX2.out; have := HU.out.1; have := HZ.out.1; rw [HTL.out] at *; omega)).1⟩; replace p1 := eq_true p1; replace q1 := eq_true q1; replace q2 := eq_true q2; obtain ⟨hs, hm⟩ := HM2_.out; have HNI := am_ (show l3.length + i < maxLen by have := HU.out.1; have := HZ.out.1; unfold maxLen; omega); have HMI := am_ hm; have HC2 := am_ c2; clear hm c2 c2' HM2_; have HX2c := am_ hx2
     go_upto_region 8 with (fail)
     refine start_ (n := 9) (S := fun w' => MapIs w' mb (l3.length + i) (fun s => used s l3 + addS s ((m1.zip m2).take i)) hs ∧ w'.cell? (ad2.add i) = some (.int .i64 x)) (ds := [8]) #[false, false, false, false, false, false, false, false, false] (by kernel_rfl) rfl rfl ⟨HMI.out, hx2⟩ (fun hHeld => ?_); refine with_tabW adTab adBits (fun HT_ HW_ => ?_); have HBD : Aside0 (Below w1.heap.size w1 wr.drew) := ⟨HBL.out.drew⟩; clear HMI HX2c hx1 hx2 HBL HBW; generalize wr.drew = w3 at HBD hHeld ⊢; refine pure_ (i := 0) (N := some 34) (v := ?_) (a' := ?_) #[true, false, false, false, false, false, false, false, false] rfl rfl (any_of HT_.out (by kernel_rfl)) (fun _ _ _ h => h) (Or.inl ⟨by rfl, ?_⟩) ?_ ?_; rotate_left; (intro w'; go_simp; with_reducible rfl); rotate_left; (simp only [Act.put, lt1_, lt2_, lt3_, i64_w, i32_w]; rfl); refine pure_ (i := 1) (N := some 35) (v := ?_) (a' := ?_) #[true, true, false, false, false, false, false, false, false] rfl rfl (any_of HT_.out (by kernel_rfl)) (fun _ _ _ h => h) (Or.inl ⟨by rfl, ?_⟩) ?_ ?_; rotate_left; (intro w'; go_simp; with_reducible rfl); rotate_left; (simp only [Act.put, lt1_, lt2_, lt3_, i64_w, i32_w]; rfl); refine pure_ (i := 3) (N := some 37) (v := ?_) (a' := ?_) #[true, true, false, true, false, false, false, false, false] rfl rfl (any_of HT_.out (by kernel_rfl)) (fun _ _ _ h => h) (Or.inl ⟨by rfl, ?_⟩) ?_ ?_; rotate_left; (intro w'; go_simp; with_reducible rfl); rotate_left; (simp only [Act.put, lt1_, lt2_, lt3_, i64_w, i32_w]; rfl); refine pure_ (i := 4) (N := some 38) (v := ?_) (a' := ?_) #[true, true, false, true, true, false, false, false, false] rfl rfl (any_of HT_.out (by kernel_rfl)) (fun _ _ _ h => h) (Or.inl ⟨by rfl, ?_⟩) ?_ ?_; rotate_left; (intro w'; go_simp; with_reducible rfl); rotate_left; (simp only [Act.put, lt1_, lt2_, lt3_, i64_w, i32_w]; rfl); refine pure_ (i := 5) (N := some 39) (v := ?_) (a' := ?_) #[true, true, false, true, true, true, false, false, false] rfl rfl (any_of HT_.out (by kernel_rfl)) (fun _ _ _ h => h) (Or.inl ⟨by rfl, ?_⟩) ?_ ?_; rotate_left; (intro w'; go_simp; with_reducible rfl); rotate_left; (simp only [Act.put, lt1_, lt2_, lt3_, i64_w, i32_w]; rfl); refine take_ (i := 2) (N := some 36) (v := ?_) (a' := ?_) #[true, true, true, true, true, true, false, false, false] rfl rfl (take_ofW HT_.out HW_.out (by kernel_rfl)) (fun _ _ _ h => h) (Or.inl ⟨by rfl, ?_⟩) hHeld ?_ ?_; rotate_left
     ·
      rintro w' ⟨s0, s1⟩; have hrun := s0.look o HZO.out; go_simp; with_reducible rfl
     rotate_left
     ·
      simp only [Act.put, lt1_, lt2_, lt3_, i64_w, i32_w]; rfl
     refine take_ (i := 6) (N := some 40) (v := ?_) (a' := ?_) #[true, true, true, true, true, true, true, false, false] rfl rfl (take_ofW HT_.out HW_.out (by kernel_rfl)) (fun _ _ _ h => h) (Or.inl ⟨by rfl, ?_⟩) hHeld ?_ ?_; rotate_left
     ·
      rintro w' ⟨s0, s1⟩; go_simp; with_reducible rfl
     rotate_left
     ·
      simp only [Act.put, lt1_, lt2_, lt3_, i64_w, i32_w]; rfl
     refine pure_ (i := 7) (N := some 41) (v := ?_) (a' := ?_) #[true, true, true, true, true, true, true, true, false] rfl rfl (any_of HT_.out (by kernel_rfl)) (fun _ _ _ h => h) (Or.inl ⟨by rfl, ?_⟩) ?_ ?_; rotate_left; (intro w'; go_simp; with_reducible rfl); rotate_left; (simp only [Act.put, lt1_, lt2_, lt3_, i64_w, i32_w]; rfl); refine last_ (i := 8) (N := none) #[true, true, true, true, true, true, true, true, true] rfl rfl (one_of HT_.out (by kernel_rfl)) (by decide) (fun K hK => ?_); have hru := MapIs.update hHeld.1 HNI.out o HZO.out (wrap64 (used o l3 + addS o ((m1.zip m2).take i) + x)) (wrap64_wf _); obtain ⟨w4, hrun4, hm4, hg4⟩ := hru; have HM4 := am_ hm4; have HG4 := am_ hg4; clear hm4 hg4; refine skip_ (w1 := w4) (by rfl) rfl ?_ ?_
     ·
      go_simp
     refine hK.out _ _ ?_; clear hK K hHeld hrun4; refine done_ (done_of HT_.out (by kernel_rfl)) ?_
     try go_wp2
     go_roundg (m1.length - (i + 1))
     case measure => have := HN.out; have := HC2.out; omega
     case rel =>
      refine ⟨i + 1, by simp, ⟨by have := HN.out; have := HC2.out; omega⟩, ⟨_, mapIs_ext HM4.out (fun s => ?_) (fun _ => rfl)⟩, ⟨HBD.out.grown HG4.out HBD.out.size (fun k hk => by cases hk; exact HMB.out)⟩⟩; rw [HST.out s]
      by_cases e : s = o
      ·
       subst e; rw [if_pos rfl, if_pos rfl, HW.out, Int.add_assoc]
      ·
       rw [if_neg e, if_neg (fun h => e h.symm), Int.add_zero]
    ·
     have c2b0 : decide ((i : Int) < (m1.length : Int)) = false := df_ (by omega); have c2b1 : decide (i < m1.length) = false := df_ c2; have hi : i = m1.length := by have := HN.out; omega
     obtain ⟨hs, hm⟩ := HM2_.out; have HMF := am_ (mapIs_ext (g' := (fun s => used s l3 + addS s (m1.zip m2))) hm (fun s => by rw [List.take_of_length_le (by rw [HZL.out]; omega)]) (fun _ => rfl)); clear hm c2 hi HM2_ HM; obtain ⟨wz, hwz⟩ : ∃ wz, wz = wr := ⟨_, rfl⟩; subst hwz; have HMZ := am_ (show mb + 1 ≤ wz.heap.size from HMF.out.lt); go_wp2
     go_loopg [45] m1.length (fun kq v45 w' => ∃ j : Nat, v45 = .int .i64 (j : Int) ∧ Aside0 (j + kq = m1.length) ∧ Aside0 (firstEx l9 (fun s => used s l3 + addS s (m1.zip m2)) (m1.drop j) j = firstEx l9 (fun s => used s l3 + addS s (m1.zip m2)) m1 0) ∧ Aside0 (Below wz.heap.size wz w'))
     case atStart => exact ⟨0, rfl, ⟨by omega⟩, ⟨rfl⟩, ⟨Below.refl _ _⟩⟩
     case round =>
      obtain ⟨j, rfl, HN3, HI3, HB3⟩ := hrel; have HBX := am_ (HBW.out.trans (HB3.out.mono HBW.out.size)); have HB1X := am_ (HBL.out.trans (HB3.out.mono HBL.out.size)); have HMR := am_ (HMF.out.below (HB3.out.mono HMZ.out)); have BKR := am_ ((HB1X.out.block gb GL.out).trans BK.out)
      by_cases c2 : j < m1.length
      ·
       have c2b0 : decide ((j : Int) < (m1.length : Int)) = true := de_ (by omega); have c2b1 : decide (j < m1.length) = true := de_ c2; have p1 : 0 ≤ (j : Int) := by omega
       have q1 : (j : Int) < (m1.length : Int) := by omega
       obtain ⟨ad1, e1, hx1⟩ := Kd.at_string (Kd.C_below HM1.out HBX.out) (j : Int) p1 q1; cases e1; rw [Int.toNat_natCast] at hx1
       have hrd1 : rdOf ByteArray.empty m1 (j : Int) = m1[j]'c2 := by
        unfold rdOf
        rw [Int.toNat_natCast, List.getD_eq_getElem?_getD, List.getElem?_eq_getElem c2]; rfl
       rw [hrd1] at hx1; have hcz_9 : wr.cell? ⟨gb, 9, none⟩ = some (.slice A9 l9.length c9) := (bc_ BKR.out 9).trans rfl; have HZO : Aside0 ((m1[j]'c2).size ≤ 140737488351232) := ⟨HZ.out.2 _ (List.getElem_mem c2)⟩; have HD := am_ (List.drop_eq_getElem_cons c2)
       have hw : IntKind.i64.wrap ((j : Int) + 1) = ((j + 1 : Nat) : Int) := by
        have := HZ.out.1; rw [i64_w]
        unfold wrap64
        omega
       have HC2 := am_ c2; clear hrd1; generalize m1[j]'c2 = o at *; replace p1 := eq_true p1; replace q1 := eq_true q1; clear c2; have h1 := HI3.out; rw [HD.out, firstEx_cons] at h1; have HEX := am_ (exc_f l9 HL9.out o (used o l3 + addS o (m1.zip m2)))
       by_cases c3 : exc l9 o (used o l3 + addS o (m1.zip m2)) = true
       ·
        rw [if_pos c3] at h1; rw [c3] at HEX; have H1 := am_ h1; clear h1 c3
        go_wp2_with (first | ((with_reducible refine gate_dst (N := 55) rfl ?_); refine wp_look ?hg (Operand.tmp 53) (Operand.tmp 54) ?hop mb (l3.length + i) (fun s => used s l3 + addS s (m1.zip m2)) hs ?hm ?own o HZO.out ?hx ?_; (case hop => rfl); (case hm => first | (go_simp; done) | (go_simp; rfl)); (case own => exact HMR.out); (case hx => first | (go_simp; done) | (go_simp; rfl)); (case hg => rfl)) | (go_at_call 30; refine (quota_exceeds.calls A9 c9 l9 o _ _ _ (Kd.C_below HR9.out HBX.out) HC9.out HEX.out).mono ?_; rintro e w5 ⟨rfl, hb5⟩; have HB5 := am_ hb5; clear hb5))
        go_ret2; exact ⟨by rw [← H1.out]; rfl, HBX.out.trans (HB5.out.mono HBX.out.size)⟩
       ·
        rw [if_neg c3] at h1; rw [Bool.eq_false_iff.mpr c3] at HEX; have H1 := am_ h1; clear h1 c3
        go_wp2_with (first | ((with_reducible refine gate_dst (N := 55) rfl ?_); refine wp_look ?hg (Operand.tmp 53) (Operand.tmp 54) ?hop mb (l3.length + i) (fun s => used s l3 + addS s (m1.zip m2)) hs ?hm ?own o HZO.out ?hx ?_; (case hop => rfl); (case hm => first | (go_simp; done) | (go_simp; rfl)); (case own => exact HMR.out); (case hx => first | (go_simp; done) | (go_simp; rfl)); (case hg => rfl)) | (go_at_call 30; refine (quota_exceeds.calls A9 c9 l9 o _ _ _ (Kd.C_below HR9.out HBX.out) HC9.out HEX.out).mono ?_; rintro e w5 ⟨rfl, hb5⟩; have HB5 := am_ hb5; clear hb5))
        go_roundg (m1.length - (j + 1))
        case measure => have := HN3.out; have := HC2.out; omega
        case rel => exact ⟨j + 1, by simp, ⟨by have := HN3.out; have := HC2.out; omega⟩, ⟨H1.out⟩, ⟨HB3.out.trans (HB5.out.mono HB3.out.size)⟩⟩
      ·
       have c2b0 : decide ((j : Int) < (m1.length : Int)) = false := df_ (by omega); have c2b1 : decide (j < m1.length) = false := df_ c2; have h1 := HI3.out; rw [List.drop_of_length_le (by omega)] at h1; have H1 := am_ h1; clear h1 c2; go_wp2; go_ret2; exact ⟨by rw [← H1.out]; rfl, HBX.out⟩
  ·
   have hA : admitS l3 l9 m1 m2 = (0, 8) := by
    unfold admitS
    rw [if_neg (not_not_intro e1), if_pos (by rw [Bool.eq_false_iff.mpr e2]; rfl)]
   have HBAD := am_ (bad_has B2 d2 m2); rw [Bool.eq_false_iff.mpr e2] at HBAD; have b0 : decide ((m1.length : Int) = (m2.length : Int)) = true := de_ (by rw [e1]); have b1 : decide (m1.length = m2.length) = true := de_ e1; have b2 : ((m1.length : Int) != (m2.length : Int)) = false := by rw [e1]; exact bne_self_eq_false _
   rw [hA]; clear hA e1 e2; go_enter Try.func11, Try.ntmps11
   go_wp2_with (first | ((with_reducible refine gate_dst (N := 3) rfl ?_); refine box_event ?hg (N := 3) ?hd (cs := #[.int .i64 a0, .int .i64 a1, .int .i64 a2, .slice A3 l3.length c3, .slice A4 l4.length c4, .slice A5 l5.length c5, .slice A6 l6.length c6, .slice A7 l7.length c7, .slice A8 l8.length c8, .slice A9 l9.length c9, .slice A10 l10.length c10]) (t := 31) ?hr ?_; (case hd => rfl); (case hg => rfl); (case hr => first | (go_simp; done) | (go_simp; rfl)); intro gb hg w1 hbox hb; have BK := am_ hbox; have HB := am_ hb; have GW := am_ (show w.heap.size ≤ gb by rw [hg]; exact Nat.le_refl _); clear hb hbox hg) | (go_at_call 28; refine (HBAD.out _ (Kd.C_below HM2.out HB.out) HL2.out).mono ?_; rintro e w9 ⟨rfl, rfl⟩))
   go_ret2; exact ⟨rfl, HB.out⟩
 ·
  have hA : admitS l3 l9 m1 m2 = (0, 8) := if_pos e1; have b0 : decide ((m1.length : Int) = (m2.length : Int)) = false := df_ (by omega); have b1 : decide (m1.length = m2.length) = false := df_ e1; have b2 : ((m1.length : Int) != (m2.length : Int)) = true := bne_iff_ne.2 (by omega); rw [hA]; clear hA e1; go_enter Try.func11, Try.ntmps11
  go_wp2_with ((with_reducible refine gate_dst (N := 3) rfl ?_); refine box_event ?hg (N := 3) ?hd (cs := #[.int .i64 a0, .int .i64 a1, .int .i64 a2, .slice A3 l3.length c3, .slice A4 l4.length c4, .slice A5 l5.length c5, .slice A6 l6.length c6, .slice A7 l7.length c7, .slice A8 l8.length c8, .slice A9 l9.length c9, .slice A10 l10.length c10]) (t := 31) ?hr ?_; (case hd => rfl); (case hg => rfl); (case hr => first | (go_simp; done) | (go_simp; rfl)); intro gb hg w1 hbox hb; have BK := am_ hbox; have HB := am_ hb; have GW := am_ (show w.heap.size ≤ gb by rw [hg]; exact Nat.le_refl _); clear hb hbox hg)
  go_ret2; exact ⟨rfl, HB.out⟩
def admitOk (l3 : List S66) (l9 : List S55) (m1 : List ByteArray) (m2 : List Int) : Prop := usedOk l3 ∧ l9.length ≤ 1000000000 ∧ (m1.length ≤ 1000 ∧ ∀ o ∈ m1, o.size ≤ 140737488351232) ∧ m2.length ≤ 1000000000
instance (l3 : List S66) (l9 : List S55) (m1 : List ByteArray) (m2 : List Int) : Decidable (admitOk l3 l9 m1 m2) := inferInstanceAs (Decidable (_ ∧ _))
def quota_Admit.f (_a0 _a1 _a2 : Int) (l3 : List S66) (_l4 : List S133) (_l5 : List S135) (_l6 : List S137) (_l7 : List S139) (_l8 : List S141) (l9 : List S55) (_l10 : List S143) (m1 : List ByteArray) (m2 : List Int) : Option (Int × Int) := if admitOk l3 l9 m1 m2 then some (admitS l3 l9 m1 m2) else none
theorem quota_Admit.calls (a0 a1 a2 : Int) (A3 : Option Addr) (c3 : Nat) (l3 : List S66) (A4 : Option Addr) (c4 : Nat) (l4 : List S133) (A5 : Option Addr) (c5 : Nat) (l5 : List S135) (A6 : Option Addr) (c6 : Nat) (l6 : List S137) (A7 : Option Addr) (c7 : Nat) (l7 : List S139) (A8 : Option Addr) (c8 : Nat) (l8 : List S141) (A9 : Option Addr) (c9 : Nat) (l9 : List S55) (A10 : Option Addr) (c10 : Nat) (l10 : List S143) (B1 : Option Addr) (d1 : Nat) (m1 : List ByteArray) (B2 : Option Addr) (d2 : Nat) (m2 : List Int) (r1 r2 : Int) (w : World) (hr3 : Kd.C k66 w A3 l3.length l3) (_hc3 : l3.length ≤ c3) (_hr4 : Kd.C k133 w A4 l4.length l4) (_hc4 : l4.length ≤ c4) (_hr5 : Kd.C k135 w A5 l5.length l5) (_hc5 : l5.length ≤ c5) (_hr6 : Kd.C k137 w A6 l6.length l6) (_hc6 : l6.length ≤ c6) (_hr7 : Kd.C k139 w A7 l7.length l7) (_hc7 : l7.length ≤ c7) (_hr8 : Kd.C k141 w A8 l8.length l8) (_hc8 : l8.length ≤ c8) (hr9 : Kd.C k55 w A9 l9.length l9) (hc9 : l9.length ≤ c9) (_hr10 : Kd.C k143 w A10 l10.length l10) (_hc10 : l10.length ≤ c10) (hm1 : Kd.C Kd.string w B1 m1.length m1) (_hd1 : m1.length ≤ d1) (hm2 : Kd.C (Kd.int .i64) w B2 m2.length m2) (_hd2 : m2.length ≤ d2) (h : quota_Admit.f a0 a1 a2 l3 l4 l5 l6 l7 l8 l9 l10 m1 m2 = some (r1, r2)) :
  Calls Try.prog 11 #[.agg #[.int .i64 a0, .int .i64 a1, .int .i64 a2, .slice A3 l3.length c3, .slice A4 l4.length c4, .slice A5 l5.length c5, .slice A6 l6.length c6, .slice A7 l7.length c7, .slice A8 l8.length c8, .slice A9 l9.length c9, .slice A10 l10.length c10], .slice B1 m1.length d1, .slice B2 m2.length d2] w fun e w' => e = .returned (.tuple #[.int .i64 r1, .int .i64 r2]) ∧ Below w.heap.size w w' := by
 unfold quota_Admit.f at h
 by_cases hl : admitOk l3 l9 m1 m2
 ·
  rw [if_pos hl] at h; have e := si_ h; obtain ⟨rfl, rfl⟩ : (admitS l3 l9 m1 m2).1 = r1 ∧ (admitS l3 l9 m1 m2).2 = r2 := ⟨by rw [e], by rw [e]⟩; exact admit_walk a0 a1 a2 A3 c3 l3 A4 c4 l4 A5 c5 l5 A6 c6 l6 A7 c7 l7 A8 c8 l8 A9 c9 l9 A10 c10 l10 B1 d1 m1 B2 d2 m2 w hr3 hr9 hm1 hm2 hc9 hl.1 hl.2.1 hl.2.2.1 hl.2.2.2
 ·
  rw [if_neg hl] at h; cases h
end Go.Proofs.Ytbadelcnaeijkaa.Q
end
