import Derived.Test.YtbadelcnaeijkaaKQuotaShares5
set_option linter.unusedVariables false
set_option linter.unusedSimpArgs false
namespace Go.Proofs.Ytbadelcnaeijkaa.Q
open Go.RowKit Go.Proofs.YtbadelcnaeijkaaW.PrintWords Go.Proofs.YtbadelcnaeijkaaW.PrintLast Go.Proofs.YtbadelcnaeijkaaW.PrintMore
attribute [local go_sem] max2_int min2_int max_two min_two max_three min_three max_four min_four
attribute [local go_sem ↓] isSome_setCell
attribute [local go_sem] string_gtr
set_option linter.unusedVariables false
set_option linter.unusedSimpArgs false
mutual
def tapearchiveref32_Share.l0 : Nat → Int → List Int → Int → Int → Option (List Int × Int)
 | 0, _, _, _, _ => none
 | k + 1, x0, x1, x6, x7 => if x7 < (x1.length : Int) then (if 0 ≤ x7 then (if (rd x1 x7) < 0 then (some (([] : List Int), 7)) else (if (rd x1 x7) > 1125899906842624 then (some (([] : List Int), 7)) else (if (wrap64 (x6 + (rd x1 x7))) > 1125899906842624 then (some (([] : List Int), 7)) else (tapearchiveref32_Share.l0 k x0 x1 (wrap64 (x6 + (rd x1 x7))) (wrap64 (x7 + 1)))))) else (none)) else (if x0 < 0 then (tapearchiveref32_Share.j1 k x0 x1 x6 true) else (tapearchiveref32_Share.j1 k x0 x1 x6 (decide (x0 > 1125899906842624))))
def tapearchiveref32_Share.j1 : Nat → Int → List Int → Int → Bool → Option (List Int × Int)
 | 0, _, _, _, _ => none
 | k + 1, x0, x1, x6, x52 => if x52 = true then (some (([] : List Int), 7)) else (if x6 = 0 then (tapearchiveref32_Share.j2 k x0 x1 x6 (x0 != 0)) else (tapearchiveref32_Share.j2 k x0 x1 x6 false))
def tapearchiveref32_Share.j2 : Nat → Int → List Int → Int → Bool → Option (List Int × Int)
 | 0, _, _, _, _ => none
 | k + 1, x0, x1, x6, x58 => if x58 = true then (some (([] : List Int), 8)) else (if 0 ≤ (x1.length : Int) then (if ((x1.length : Int) : Int).toNat ≤ 35184372088832 then (tapearchiveref32_Share.l1 k x0 x1 x6 (List.replicate ((x1.length : Int) : Int).toNat 0) (List.replicate ((x1.length : Int) : Int).toNat 0) x0 0) else (none)) else (none))
def tapearchiveref32_Share.j4 : Nat → List Int → List Int → Int → Option (List Int × Int)
 | 0, _, _, _ => none
 | k + 1, x8, x9, x10 => tapearchiveref32_Share.l2 k x8 x9 x10
def tapearchiveref32_Share.l2 : Nat → List Int → List Int → Int → Option (List Int × Int)
 | 0, _, _, _ => none
 | k + 1, x8, x9, x10 => if x10 > 0 then (tapearchiveref32_Share.l3 k x8 x9 x10 0 0) else (some (x8, 0))
def tapearchiveref32_Share.l3 : Nat → List Int → List Int → Int → Int → Int → Option (List Int × Int)
 | 0, _, _, _, _, _ => none
 | k + 1, x8, x9, x10, x12, x13 => if x13 < (x9.length : Int) then (if 0 ≤ x13 then (if 0 ≤ x12 then (if x12 < (x9.length : Int) then (if (rd x9 x13) > (rd x9 x12) then (tapearchiveref32_Share.l3 k x8 x9 x10 x13 (wrap64 (x13 + 1))) else (tapearchiveref32_Share.l3 k x8 x9 x10 x12 (wrap64 (x13 + 1)))) else (none)) else (none)) else (none)) else (if 0 ≤ x12 then (if x12 < (x8.length : Int) then (if x12 < (x9.length : Int) then (tapearchiveref32_Share.l2 k (x8.set (x12 : Int).toNat (wrap64 ((rd x8 x12) + 1))) (x9.set (x12 : Int).toNat (-1)) (wrap64 (x10 - 1))) else (none)) else (none)) else (none))
def tapearchiveref32_Share.l1 : Nat → Int → List Int → Int → List Int → List Int → Int → Int → Option (List Int × Int)
 | 0, _, _, _, _, _, _, _ => none
 | k + 1, x0, x1, x6, x8, x9, x10, x11 => if x11 < (x1.length : Int) then (if x6 > 0 then (if 0 ≤ x11 then ((tapearchiveref32_divide.f k x0 (rd x1 x11) x6).bind fun bt235 => (if x11 < (x8.length : Int) then ((some (x8.set (x11 : Int).toNat bt235.1 : List Int)).bind fun y237 => (if x11 < (x9.length : Int) then (tapearchiveref32_Share.l1 k x0 x1 x6 y237 (x9.set (x11 : Int).toNat bt235.2) (wrap64 (x10 - (rd y237 x11))) (wrap64 (x11 + 1))) else (none))) else (none))) else (none)) else (tapearchiveref32_Share.j4 k x8 x9 x10)) else (tapearchiveref32_Share.j4 k x8 x9 x10)
end
def tapearchiveref32_Share.f (k : Nat) (a0 : Int) (l1 : List Int) : Option (List Int × Int) := tapearchiveref32_Share.l0 k a0 l1 0 0
set_option maxHeartbeats 8000000 in
set_option maxRecDepth 100000 in
theorem tapearchiveref32_Share.calls (k : Nat) (a0 : Int) (A1 : Option Addr) (c1 : Nat) (l1 : List Int) (r1 : List Int) (r2 : Int) (w : World) (hr1 : Kd.C (Kd.int .i64) w A1 l1.length l1) (hc1 : l1.length ≤ c1) (h : tapearchiveref32_Share.f k a0 l1 = some (r1, r2)) :
  Calls Try.prog 15 #[.int .i64 a0, .slice A1 l1.length c1] w fun e w' => ∃ v0_ : Value, e = .returned (.tuple #[v0_, .int .i64 r2]) ∧ Kd.R (Kd.int .i64) 3 w' w.heap.size (fun _ => True) v0_ r1 ∧ Below w.heap.size w w' := by
 have HR1 := am_ hr1; have HC1 := am_ hc1; clear hr1 hc1; have HB := am_ (Below.refl w.heap.size w); have H : (tapearchiveref32_Share.l0 k a0 l1 0 0) = some (r1, r2) := h; clear h; have H' := am_ H; clear H; go_enter Try.func15, Try.ntmps15; go_wp2
 repeat (go_quiet (fail); try go_wp2)
 go_loopg [6, 7] k (fun kq v6 v7 w' => ∃ (x6_1 : Int) (x7_1 : Int), v6 = .int .i64 x6_1 ∧ v7 = .int .i64 x7_1 ∧ Aside0 (tapearchiveref32_Share.l0 kq a0 l1 x6_1 x7_1 = some (r1, r2)) ∧ Aside0 (kq ≤ k) ∧ Aside0 (Below w.heap.size w w'))
 case atStart => exact ⟨(0), (0), (by first | rfl | (simp; done) | (simp [*]; done)), (by first | rfl | (simp; done) | (simp [*]; done)), H', ⟨Nat.le_refl _⟩, ⟨pb0_ HB.out⟩⟩
 case round =>
  clear H'
  try clear c1
  try clear p2
  obtain ⟨x6_1, x7_1, rfl, rfl, HA, HK1, HB⟩ := hrel; cases gk with
  | zero => exact absurd HA.out (by simp [tapearchiveref32_Share.l0])
  | succ k1 =>
   have H := HA.out; clear HA; simp only [tapearchiveref32_Share.l0] at H
   by_cases c3 : x7_1 < (l1.length : Int)
   ·
    rw [if_pos c3] at H; have c3b0 : decide (x7_1 < (l1.length : Int)) = true := de_ c3; clear c3
    by_cases c4 : 0 ≤ x7_1
    ·
     rw [if_pos c4] at H; have c4b0 : decide (0 ≤ x7_1) = true := de_ c4; clear c4
     by_cases c5 : (rd l1 x7_1) < 0
     ·
      rw [if_pos c5] at H; have c5b0 : decide ((rd l1 x7_1) < 0) = true := de_ c5; clear c5; simp only [Option.some.injEq, Prod.mk.injEq] at H; obtain ⟨rfl, rfl⟩ := H; have p224 : 0 ≤ (x7_1 : Int) := ot_ (by first | (with_reducible assumption) | assumption); have q224 : x7_1 < (l1.length : Int) := ot_ (by first | (with_reducible assumption) | assumption); obtain ⟨ad224, e224, hx224_0⟩ := Kd.at_int HR1.out x7_1 p224 q224; cases e224; replace hx224_0 := (HB.out.cell (bk_ w _ hx224_0)).trans hx224_0; replace p224 := eq_true p224; replace q224 := eq_true q224; go_wp2
      repeat (go_quiet (fail); try go_wp2)
      go_ret2; exact ⟨_, by first | rfl | (simp [errW_none, errW_some] <;> rfl) | (simp [*, errW_none, errW_some] <;> rfl), by first | exact Kd.R_nil _ _ _ _ _ | exact Kd.N_nil _ _ _ _ _ | exact Kd.V_nil _ _ _ _ _ | exact Kd.Q_nil _ _ _ _ _ | exact Kd.S_nil _ _ _ _ _, pb0_ HB.out⟩
     ·
      rw [if_neg c5] at H; have c5b0 : decide ((rd l1 x7_1) < 0) = false := df_ c5; clear c5
      by_cases c6 : (rd l1 x7_1) > 1125899906842624
      ·
       rw [if_pos c6] at H; have c6b0 : decide (1125899906842624 < (rd l1 x7_1)) = true := de_ c6; clear c6; simp only [Option.some.injEq, Prod.mk.injEq] at H; obtain ⟨rfl, rfl⟩ := H; have p224 : 0 ≤ (x7_1 : Int) := ot_ (by first | (with_reducible assumption) | assumption); have q224 : x7_1 < (l1.length : Int) := ot_ (by first | (with_reducible assumption) | assumption); obtain ⟨ad224, e224, hx224_0⟩ := Kd.at_int HR1.out x7_1 p224 q224; cases e224; replace hx224_0 := (HB.out.cell (bk_ w _ hx224_0)).trans hx224_0; replace p224 := eq_true p224; replace q224 := eq_true q224; have p225 : 0 ≤ (x7_1 : Int) := ot_ (by first | (with_reducible assumption) | assumption); have q225 : x7_1 < (l1.length : Int) := ot_ (by first | (with_reducible assumption) | assumption); obtain ⟨ad225, e225, hx225_0⟩ := Kd.at_int HR1.out x7_1 p225 q225; obtain rfl : ad224 = ad225 := (by injection e225); replace hx225_0 := (HB.out.cell (bk_ w _ hx225_0)).trans hx225_0; replace p225 := eq_true p225; replace q225 := eq_true q225; go_wp2
       repeat (go_quiet (fail); try go_wp2)
       go_ret2; exact ⟨_, by first | rfl | (simp [errW_none, errW_some] <;> rfl) | (simp [*, errW_none, errW_some] <;> rfl), by first | exact Kd.R_nil _ _ _ _ _ | exact Kd.N_nil _ _ _ _ _ | exact Kd.V_nil _ _ _ _ _ | exact Kd.Q_nil _ _ _ _ _ | exact Kd.S_nil _ _ _ _ _, pb0_ HB.out⟩
      ·
       rw [if_neg c6] at H; have c6b0 : decide (1125899906842624 < (rd l1 x7_1)) = false := df_ c6; clear c6
       by_cases c7 : (wrap64 (x6_1 + (rd l1 x7_1))) > 1125899906842624
       ·
        rw [if_pos c7] at H; have c7b0 : decide (1125899906842624 < (wrap64 (x6_1 + (rd l1 x7_1)))) = true := de_ c7; clear c7; simp only [Option.some.injEq, Prod.mk.injEq] at H; obtain ⟨rfl, rfl⟩ := H; have p224 : 0 ≤ (x7_1 : Int) := ot_ (by first | (with_reducible assumption) | assumption); have q224 : x7_1 < (l1.length : Int) := ot_ (by first | (with_reducible assumption) | assumption); obtain ⟨ad224, e224, hx224_0⟩ := Kd.at_int HR1.out x7_1 p224 q224; cases e224; replace hx224_0 := (HB.out.cell (bk_ w _ hx224_0)).trans hx224_0; replace p224 := eq_true p224; replace q224 := eq_true q224; have p225 : 0 ≤ (x7_1 : Int) := ot_ (by first | (with_reducible assumption) | assumption); have q225 : x7_1 < (l1.length : Int) := ot_ (by first | (with_reducible assumption) | assumption); obtain ⟨ad225, e225, hx225_0⟩ := Kd.at_int HR1.out x7_1 p225 q225; obtain rfl : ad224 = ad225 := (by injection e225); replace hx225_0 := (HB.out.cell (bk_ w _ hx225_0)).trans hx225_0; replace p225 := eq_true p225; replace q225 := eq_true q225; have p226 : 0 ≤ (x7_1 : Int) := ot_ (by first | (with_reducible assumption) | assumption); have q226 : x7_1 < (l1.length : Int) := ot_ (by first | (with_reducible assumption) | assumption); obtain ⟨ad226, e226, hx226_0⟩ := Kd.at_int HR1.out x7_1 p226 q226; obtain rfl : ad224 = ad226 := (by injection e226); replace hx226_0 := (HB.out.cell (bk_ w _ hx226_0)).trans hx226_0; replace p226 := eq_true p226; replace q226 := eq_true q226; go_wp2
        repeat (go_quiet (fail); try go_wp2)
        go_ret2; exact ⟨_, by first | rfl | (simp [errW_none, errW_some] <;> rfl) | (simp [*, errW_none, errW_some] <;> rfl), by first | exact Kd.R_nil _ _ _ _ _ | exact Kd.N_nil _ _ _ _ _ | exact Kd.V_nil _ _ _ _ _ | exact Kd.Q_nil _ _ _ _ _ | exact Kd.S_nil _ _ _ _ _, pb0_ HB.out⟩
       ·
        rw [if_neg c7] at H; have c7b0 : decide (1125899906842624 < (wrap64 (x6_1 + (rd l1 x7_1)))) = false := df_ c7; clear c7; have H' := am_ H; clear H; have p224 : 0 ≤ (x7_1 : Int) := ot_ (by first | (with_reducible assumption) | assumption); have q224 : x7_1 < (l1.length : Int) := ot_ (by first | (with_reducible assumption) | assumption); obtain ⟨ad224, e224, hx224_0⟩ := Kd.at_int HR1.out x7_1 p224 q224; cases e224; replace hx224_0 := (HB.out.cell (bk_ w _ hx224_0)).trans hx224_0; replace p224 := eq_true p224; replace q224 := eq_true q224; have p225 : 0 ≤ (x7_1 : Int) := ot_ (by first | (with_reducible assumption) | assumption); have q225 : x7_1 < (l1.length : Int) := ot_ (by first | (with_reducible assumption) | assumption); obtain ⟨ad225, e225, hx225_0⟩ := Kd.at_int HR1.out x7_1 p225 q225; obtain rfl : ad224 = ad225 := (by injection e225); replace hx225_0 := (HB.out.cell (bk_ w _ hx225_0)).trans hx225_0; replace p225 := eq_true p225; replace q225 := eq_true q225; have p226 : 0 ≤ (x7_1 : Int) := ot_ (by first | (with_reducible assumption) | assumption); have q226 : x7_1 < (l1.length : Int) := ot_ (by first | (with_reducible assumption) | assumption); obtain ⟨ad226, e226, hx226_0⟩ := Kd.at_int HR1.out x7_1 p226 q226; obtain rfl : ad224 = ad226 := (by injection e226); replace hx226_0 := (HB.out.cell (bk_ w _ hx226_0)).trans hx226_0; replace p226 := eq_true p226; replace q226 := eq_true q226; have p227 : 0 ≤ (x7_1 : Int) := ot_ (by first | (with_reducible assumption) | assumption); have q227 : x7_1 < (l1.length : Int) := ot_ (by first | (with_reducible assumption) | assumption); obtain ⟨ad227, e227, hx227_0⟩ := Kd.at_int HR1.out x7_1 p227 q227; obtain rfl : ad224 = ad227 := (by injection e227); replace hx227_0 := (HB.out.cell (bk_ w _ hx227_0)).trans hx227_0; replace p227 := eq_true p227; replace q227 := eq_true q227; go_wp2
        repeat (go_quiet (fail); try go_wp2)
        go_roundg k1
        case measure => have := HK1.out; omega
        case rel => exact ⟨(wrap64 (x6_1 + (rd l1 x7_1))), (wrap64 (x7_1 + 1)), (by first | rfl | (simp; done) | (simp [*]; done)), (by first | rfl | (simp; done) | (simp [*]; done)), H', ⟨by have := HK1.out; omega⟩, ⟨pb0_ HB.out⟩⟩
    ·
     rw [if_neg c4] at H; exact absurd H (by simp)
   ·
    rw [if_neg c3] at H; have c3b0 : decide (x7_1 < (l1.length : Int)) = false := df_ c3; clear c3; have HC8 := am_ H; clear H
    go_upto_region 8 with (fail)
    repeat (go_quiet (fail); go_upto_region 8 with (fail))
    go_cut [52] (fun v52 wc => ∃ (kq : Nat) (x52_7 : Bool), v52 = .bool x52_7 ∧ Aside0 (tapearchiveref32_Share.j1 kq a0 l1 x6_1 x52_7 = some (r1, r2)) ∧ Aside0 (kq ≤ k1) ∧ Aside0 (Below w.heap.size w wc))
    case first =>
     have H := HC8.out; clear HC8
     by_cases c9 : a0 < 0
     ·
      rw [if_pos c9] at H; have c9b0 : decide (a0 < 0) = true := de_ c9; clear c9
      (first | rw [c9b0] | (simp only [i64_w, i32_w]; rw [c9b0]) | rw [c9b2] | rw [c9b1] | skip)
      have H' := am_ H; clear H; go_wp2
      repeat (go_quiet (fail); try go_wp2)
      go_meet
      case rel => exact ⟨_, (true), (by first | rfl | (simp; done) | (simp [*]; done)), H', ⟨by have := HK1.out; first | omega | exact Nat.le_refl _⟩, ⟨pb0_ HB.out⟩⟩
     ·
      rw [if_neg c9] at H; have c9b0 : decide (a0 < 0) = false := df_ c9; clear c9
      (first | rw [c9b0] | (simp only [i64_w, i32_w]; rw [c9b0]) | rw [c9b2] | rw [c9b1] | skip)
      have H' := am_ H; clear H; go_wp2
      repeat (go_quiet (fail); try go_wp2)
      go_meet
      case rel => exact ⟨_, (decide (a0 > 1125899906842624)), (by first | rfl | (simp; done) | (simp [*]; done)), H', ⟨by have := HK1.out; first | omega | exact Nat.le_refl _⟩, ⟨pb0_ HB.out⟩⟩
    case rest =>
     clear HC8
     try clear c1
     try clear p2
     try clear q2
     try clear hx2
     try clear c3
     try clear c3b0
     try clear c4
     try clear c4b0
     try clear c5
     try clear c5b0
     try clear c6
     try clear c6b0
     try clear p6
     try clear c7
     try clear c7b0
     try clear c9
     try clear c9b0
     try clear c9b1
     try clear c9b2
     try clear hx224_0
     try clear hx225_0
     try clear hx226_0
     try clear hx227_0
     try clear p2
     try clear p224
     try clear p225
     try clear p226
     try clear p227
     try clear q224
     try clear q225
     try clear q226
     try clear q227
     obtain ⟨kq, x52_7, rfl, HA, HJ7, HB⟩ := hcut; cases kq with
     | zero => exact absurd HA.out (by simp [tapearchiveref32_Share.j1])
     | succ kj7 =>
      have H := HA.out; clear HA; simp only [tapearchiveref32_Share.j1] at H
      by_cases c10 : x52_7 = true
      ·
       subst c10; have H1 : (some (([] : List Int), 7)) = some (r1, r2) := by rw [if_pos rfl] at H; exact H
       clear H; have H := H1; clear H1; simp only [Option.some.injEq, Prod.mk.injEq] at H; obtain ⟨rfl, rfl⟩ := H; go_wp2
       repeat (go_quiet (fail); try go_wp2)
       go_ret2; exact ⟨_, by first | rfl | (simp [errW_none, errW_some] <;> rfl) | (simp [*, errW_none, errW_some] <;> rfl), by first | exact Kd.R_nil _ _ _ _ _ | exact Kd.N_nil _ _ _ _ _ | exact Kd.V_nil _ _ _ _ _ | exact Kd.Q_nil _ _ _ _ _ | exact Kd.S_nil _ _ _ _ _, pb0_ HB.out⟩
      ·
       replace c10 := Bool.eq_false_iff.mpr c10; subst c10; have H1 : (if x6_1 = 0 then (tapearchiveref32_Share.j2 kj7 a0 l1 x6_1 (a0 != 0)) else (tapearchiveref32_Share.j2 kj7 a0 l1 x6_1 false)) = some (r1, r2) := by rw [if_neg (show ¬ (false = true) by decide)] at H; exact H
       clear H; have H := H1; clear H1; have HC11 := am_ H; clear H
       go_upto_region 10 with (fail)
       repeat (go_quiet (fail); go_upto_region 10 with (fail))
       go_cut [58] (fun v58 wc => ∃ (kq : Nat) (x58_10 : Bool), v58 = .bool x58_10 ∧ Aside0 (tapearchiveref32_Share.j2 kq a0 l1 x6_1 x58_10 = some (r1, r2)) ∧ Aside0 (kq ≤ kj7) ∧ Aside0 (Below w.heap.size w wc))
       case first =>
        have H := HC11.out; clear HC11
        by_cases c12 : x6_1 = 0
        ·
         rw [if_pos c12] at H; have c12b0 : (x6_1 == 0) = true := beq_iff_eq.mpr c12; have c12b1 : (x6_1 != 0) = false := bne_eq_false_iff_eq.mpr c12; clear c12
         (first | rw [c12b0] | (simp only [i64_w, i32_w]; rw [c12b0]) | rw [c12b2] | rw [c12b1] | skip)
         have H' := am_ H; clear H; go_wp2
         repeat (go_quiet (fail); try go_wp2)
         go_meet
         case rel => exact ⟨_, ((a0 != 0)), (by first | rfl | (simp; done) | (simp [*]; done)), H', ⟨by have := HK1.out; have := HJ7.out; first | omega | exact Nat.le_refl _⟩, ⟨pb0_ HB.out⟩⟩
        ·
         rw [if_neg c12] at H; have c12b0 : (x6_1 == 0) = false := beq_eq_false_iff_ne.mpr c12; have c12b1 : (x6_1 != 0) = true := bne_iff_ne.mpr c12
         (first | rw [c12b0] | (simp only [i64_w, i32_w]; rw [c12b0]) | rw [c12b2] | rw [c12b1] | skip)
         have H' := am_ H; clear H; go_wp2
         repeat (go_quiet (fail); try go_wp2)
         go_meet
         case rel => exact ⟨_, (false), (by first | rfl | (simp; done) | (simp [*]; done)), H', ⟨by have := HK1.out; have := HJ7.out; first | omega | exact Nat.le_refl _⟩, ⟨pb0_ HB.out⟩⟩
       case rest =>
        clear HC11
        try clear c1
        try clear p2
        try clear q2
        try clear hx2
        try clear c3
        try clear c3b0
        try clear c4
        try clear c4b0
        try clear c5
        try clear c5b0
        try clear c6
        try clear c6b0
        try clear p6
        try clear c7
        try clear c7b0
        try clear c9
        try clear c9b0
        try clear c9b1
        try clear c9b2
        try clear c10
        try clear c12
        try clear c12b0
        try clear c12b1
        try clear c12b2
        try clear hx224_0
        try clear hx225_0
        try clear hx226_0
        try clear hx227_0
        try clear p2
        try clear p224
        try clear p225
        try clear p226
        try clear p227
        try clear p6
        try clear q2
        try clear q224
        try clear q225
        try clear q226
        try clear q227
        obtain ⟨kq, x58_10, rfl, HA, HJ10, HB⟩ := hcut; cases kq with
        | zero => exact absurd HA.out (by simp [tapearchiveref32_Share.j2])
        | succ kj10 =>
         have H := HA.out; clear HA; simp only [tapearchiveref32_Share.j2] at H
         by_cases c13 : x58_10 = true
         ·
          subst c13; have H1 : (some (([] : List Int), 8)) = some (r1, r2) := by rw [if_pos rfl] at H; exact H
          clear H; have H := H1; clear H1; simp only [Option.some.injEq, Prod.mk.injEq] at H; obtain ⟨rfl, rfl⟩ := H; go_wp2
          repeat (go_quiet (fail); try go_wp2)
          go_ret2; exact ⟨_, by first | rfl | (simp [errW_none, errW_some] <;> rfl) | (simp [*, errW_none, errW_some] <;> rfl), by first | exact Kd.R_nil _ _ _ _ _ | exact Kd.N_nil _ _ _ _ _ | exact Kd.V_nil _ _ _ _ _ | exact Kd.Q_nil _ _ _ _ _ | exact Kd.S_nil _ _ _ _ _, pb0_ HB.out⟩
         ·
          replace c13 := Bool.eq_false_iff.mpr c13; subst c13; have H1 : (if 0 ≤ (l1.length : Int) then (if ((l1.length : Int) : Int).toNat ≤ 35184372088832 then (tapearchiveref32_Share.l1 kj10 a0 l1 x6_1 (List.replicate ((l1.length : Int) : Int).toNat 0) (List.replicate ((l1.length : Int) : Int).toNat 0) a0 0) else (none)) else (none)) = some (r1, r2) := by rw [if_neg (show ¬ (false = true) by decide)] at H; exact H
          clear H; have H := H1; clear H1
          by_cases c14 : 0 ≤ (l1.length : Int)
          ·
           rw [if_pos c14] at H; have c14b0 := eq_true c14; have c14b1 : decide (0 ≤ (l1.length : Int)) = true := de_ c14; clear c14
           by_cases c15 : ((l1.length : Int) : Int).toNat ≤ 35184372088832
           ·
            rw [if_pos c15] at H; have c15b0 := eq_true c15; have c15b1 : decide (((l1.length : Int) : Int).toNat ≤ 35184372088832) = true := de_ c15; clear c15; obtain ⟨y228, hy228⟩ : ∃ y_ : List Int, y_ = (List.replicate ((l1.length : Int) : Int).toNat 0) := ⟨_, rfl⟩; replace H : (tapearchiveref32_Share.l1 kj10 a0 l1 x6_1 y228 (List.replicate ((l1.length : Int) : Int).toNat 0) a0 0) = some (r1, r2) := by first | (rw [hy228]; with_reducible exact H) | (have H2_ := (Option.bind_some _ _).symm.trans H; rw [hy228]; with_reducible exact H2_) | (have H2_ := (Option.bind_some _ _).symm.trans H; with_reducible exact H2_) | with_reducible exact H | (rw [hy228]; exact H) | exact H
            have Ny228 := am_ hy228; clear hy228; obtain ⟨y231, hy231⟩ : ∃ y_ : List Int, y_ = (List.replicate ((l1.length : Int) : Int).toNat 0) := ⟨_, rfl⟩; replace H : (tapearchiveref32_Share.l1 kj10 a0 l1 x6_1 y228 y231 a0 0) = some (r1, r2) := by first | (rw [hy231]; with_reducible exact H) | (have H2_ := (Option.bind_some _ _).symm.trans H; rw [hy231]; with_reducible exact H2_) | (have H2_ := (Option.bind_some _ _).symm.trans H; with_reducible exact H2_) | with_reducible exact H | (rw [hy231]; exact H) | exact H
            have Ny231 := am_ hy231; clear hy231; have HC16 := am_ H; clear H
            go_upto_block 2 with (first | ((with_reducible refine gate_dst (N := 61) rfl ?_); refine Kd.R_make (Kd.int .i64) _ 3 rfl (N := 61) rfl 33 _ _ rfl (l1.length : Int) rfl rfl Try.underlying33 (.int .i64 0) 8 info3 rfl (by decide) (by omega) 0 (ok := fun _ => True) (okp := fun _ => True) rfl (fun _ hk => hk) trivial (ot_ (by first | (with_reducible assumption) | assumption)) (Nat.le_trans (Nat.mul_le_mul_right _ (ot_ (by first | (with_reducible assumption) | assumption) : (l1.length : Int).toNat ≤ 35184372088832)) (by omega)) (Below.refl _ _) (Nat.le_refl _) ?_; intro v229 w17 ho18 hb hg_ hnew_; clear hg_ hnew_; (first | rw [← Ny228.out] at ho18 | (simp only [Int.reduceToNat] at ho18; rw [← Ny228.out] at ho18)); have n0_ := am_ (Kd.R_lower ho18 (bz_ (pb0_ HB.out))); have n1_ := am_ (sp_ (pb0_ HB.out) hb); clear HB; have HO230 := n0_; have HB := n1_; clear n0_ n1_; clear hb ho18) | ((with_reducible refine gate_dst (N := 64) rfl ?_); refine Kd.R_make (Kd.int .i64) _ 3 rfl (N := 64) rfl 33 _ _ rfl (l1.length : Int) rfl rfl Try.underlying33 (.int .i64 0) 8 info3 rfl (by decide) (by omega) 0 (ok := fun _ => True) (okp := fun _ => True) rfl (fun _ hk => hk) trivial (ot_ (by first | (with_reducible assumption) | assumption)) (Nat.le_trans (Nat.mul_le_mul_right _ (ot_ (by first | (with_reducible assumption) | assumption) : (l1.length : Int).toNat ≤ 35184372088832)) (by omega)) (Below.refl _ _) (Nat.le_refl _) ?_; intro v232 w19 ho20 hb hg_ hnew_; clear hg_ hnew_; (first | rw [← Ny231.out] at ho20 | (simp only [Int.reduceToNat] at ho20; rw [← Ny231.out] at ho20)); have n0_ := am_ (Kd.R_elder' (pR_ HO230.out) (Kd.R_base ho20) hb); have n1_ := am_ (Kd.R_lower (Kd.R_new' ho20 (Kd.R_lt (pR_ HO230.out))) (bz_ (pb0_ HB.out))); have n2_ := am_ (sp_ (pb0_ HB.out) hb); clear HO230; clear HB; have HO230 := n0_; have HO233 := n1_; have HB := n2_; clear n0_ n1_ n2_; clear hb ho20))
            repeat (go_quiet (first | ((with_reducible refine gate_dst (N := 61) rfl ?_); refine Kd.R_make (Kd.int .i64) _ 3 rfl (N := 61) rfl 33 _ _ rfl (l1.length : Int) rfl rfl Try.underlying33 (.int .i64 0) 8 info3 rfl (by decide) (by omega) 0 (ok := fun _ => True) (okp := fun _ => True) rfl (fun _ hk => hk) trivial (ot_ (by first | (with_reducible assumption) | assumption)) (Nat.le_trans (Nat.mul_le_mul_right _ (ot_ (by first | (with_reducible assumption) | assumption) : (l1.length : Int).toNat ≤ 35184372088832)) (by omega)) (Below.refl _ _) (Nat.le_refl _) ?_; intro v229 w17 ho18 hb hg_ hnew_; clear hg_ hnew_; (first | rw [← Ny228.out] at ho18 | (simp only [Int.reduceToNat] at ho18; rw [← Ny228.out] at ho18)); have n0_ := am_ (Kd.R_lower ho18 (bz_ (pb0_ HB.out))); have n1_ := am_ (sp_ (pb0_ HB.out) hb); clear HB; have HO230 := n0_; have HB := n1_; clear n0_ n1_; clear hb ho18) | ((with_reducible refine gate_dst (N := 64) rfl ?_); refine Kd.R_make (Kd.int .i64) _ 3 rfl (N := 64) rfl 33 _ _ rfl (l1.length : Int) rfl rfl Try.underlying33 (.int .i64 0) 8 info3 rfl (by decide) (by omega) 0 (ok := fun _ => True) (okp := fun _ => True) rfl (fun _ hk => hk) trivial (ot_ (by first | (with_reducible assumption) | assumption)) (Nat.le_trans (Nat.mul_le_mul_right _ (ot_ (by first | (with_reducible assumption) | assumption) : (l1.length : Int).toNat ≤ 35184372088832)) (by omega)) (Below.refl _ _) (Nat.le_refl _) ?_; intro v232 w19 ho20 hb hg_ hnew_; clear hg_ hnew_; (first | rw [← Ny231.out] at ho20 | (simp only [Int.reduceToNat] at ho20; rw [← Ny231.out] at ho20)); have n0_ := am_ (Kd.R_elder' (pR_ HO230.out) (Kd.R_base ho20) hb); have n1_ := am_ (Kd.R_lower (Kd.R_new' ho20 (Kd.R_lt (pR_ HO230.out))) (bz_ (pb0_ HB.out))); have n2_ := am_ (sp_ (pb0_ HB.out) hb); clear HO230; clear HB; have HO230 := n0_; have HO233 := n1_; have HB := n2_; clear n0_ n1_ n2_; clear hb ho20)); go_upto_block 2 with (first | ((with_reducible refine gate_dst (N := 61) rfl ?_); refine Kd.R_make (Kd.int .i64) _ 3 rfl (N := 61) rfl 33 _ _ rfl (l1.length : Int) rfl rfl Try.underlying33 (.int .i64 0) 8 info3 rfl (by decide) (by omega) 0 (ok := fun _ => True) (okp := fun _ => True) rfl (fun _ hk => hk) trivial (ot_ (by first | (with_reducible assumption) | assumption)) (Nat.le_trans (Nat.mul_le_mul_right _ (ot_ (by first | (with_reducible assumption) | assumption) : (l1.length : Int).toNat ≤ 35184372088832)) (by omega)) (Below.refl _ _) (Nat.le_refl _) ?_; intro v229 w17 ho18 hb hg_ hnew_; clear hg_ hnew_; (first | rw [← Ny228.out] at ho18 | (simp only [Int.reduceToNat] at ho18; rw [← Ny228.out] at ho18)); have n0_ := am_ (Kd.R_lower ho18 (bz_ (pb0_ HB.out))); have n1_ := am_ (sp_ (pb0_ HB.out) hb); clear HB; have HO230 := n0_; have HB := n1_; clear n0_ n1_; clear hb ho18) | ((with_reducible refine gate_dst (N := 64) rfl ?_); refine Kd.R_make (Kd.int .i64) _ 3 rfl (N := 64) rfl 33 _ _ rfl (l1.length : Int) rfl rfl Try.underlying33 (.int .i64 0) 8 info3 rfl (by decide) (by omega) 0 (ok := fun _ => True) (okp := fun _ => True) rfl (fun _ hk => hk) trivial (ot_ (by first | (with_reducible assumption) | assumption)) (Nat.le_trans (Nat.mul_le_mul_right _ (ot_ (by first | (with_reducible assumption) | assumption) : (l1.length : Int).toNat ≤ 35184372088832)) (by omega)) (Below.refl _ _) (Nat.le_refl _) ?_; intro v232 w19 ho20 hb hg_ hnew_; clear hg_ hnew_; (first | rw [← Ny231.out] at ho20 | (simp only [Int.reduceToNat] at ho20; rw [← Ny231.out] at ho20)); have n0_ := am_ (Kd.R_elder' (pR_ HO230.out) (Kd.R_base ho20) hb); have n1_ := am_ (Kd.R_lower (Kd.R_new' ho20 (Kd.R_lt (pR_ HO230.out))) (bz_ (pb0_ HB.out))); have n2_ := am_ (sp_ (pb0_ HB.out) hb); clear HO230; clear HB; have HO230 := n0_; have HO233 := n1_; have HB := n2_; clear n0_ n1_ n2_; clear hb ho20)))
            (try simp only [Act.put, lt1_, lt2_, lt3_])
            go_cut [10] (fun v10 wc => ∃ (kq : Nat) (x8_15 : List Int) (x9_15 : List Int) (x10_15 : Int), v10 = .int .i64 x10_15 ∧ Aside0 (tapearchiveref32_Share.j4 kq x8_15 x9_15 x10_15 = some (r1, r2)) ∧ Aside0 (kq ≤ kj10) ∧ Aside0 (Kd.R (Kd.int .i64) 3 wc w.heap.size (fun k_ => some k_ ≠ (v232 : Value).ownBlock) v229 x8_15) ∧ Aside0 (Kd.R (Kd.int .i64) 3 wc w.heap.size (fun k_ => some k_ ≠ (v229 : Value).ownBlock) v232 x9_15) ∧ Aside0 (Below w.heap.size w wc))
            case first =>
             have H := HC16.out; clear HC16; have H' := am_ H; clear H; go_wp2
             repeat (go_quiet (fail); try go_wp2)
             go_loopg [10, 11] kj10 (fun kq v10 v11 w' => ∃ (x8_4 : List Int) (x9_4 : List Int) (x10_4 : Int) (x11_4 : Int), v10 = .int .i64 x10_4 ∧ v11 = .int .i64 x11_4 ∧ Aside0 (tapearchiveref32_Share.l1 kq a0 l1 x6_1 x8_4 x9_4 x10_4 x11_4 = some (r1, r2)) ∧ Aside0 (kq ≤ kj10) ∧ Aside0 (Kd.R (Kd.int .i64) 3 w' w.heap.size (fun k_ => some k_ ≠ (v232 : Value).ownBlock) v229 x8_4) ∧ Aside0 (Kd.R (Kd.int .i64) 3 w' w.heap.size (fun k_ => some k_ ≠ (v229 : Value).ownBlock) v232 x9_4) ∧ Aside0 (Below w.heap.size w w'))
             case atStart => exact ⟨(y228), (y231), (a0), (0), (by first | rfl | (simp; done) | (simp [*]; done)), (by first | rfl | (simp; done) | (simp [*]; done)), H', ⟨Nat.le_refl _⟩, ⟨by (with_reducible repeat (first | apply Kd.R_alloc | apply Kd.R_drewN | apply Kd.R_drew)); exact Kd.R_mono HO230.out (fun _ hk => hk.2)⟩, ⟨by (with_reducible repeat (first | apply Kd.R_alloc | apply Kd.R_drewN | apply Kd.R_drew)); exact Kd.R_mono HO233.out (fun _ hk => hk.2)⟩, ⟨pb0_ HB.out⟩⟩
             case round =>
              clear H'
              try clear c1
              try clear p2
              try clear q2
              try clear hx2
              try clear c3
              try clear c3b0
              try clear c4
              try clear c4b0
              try clear c5
              try clear c5b0
              try clear c6
              try clear c6b0
              try clear p6
              try clear c7
              try clear c7b0
              try clear c9
              try clear c9b0
              try clear c9b1
              try clear c9b2
              try clear c10
              try clear c12
              try clear c12b0
              try clear c12b1
              try clear c12b2
              try clear c13
              try clear c14
              try clear c14b0
              try clear c14b1
              try clear c15
              try clear c15b0
              try clear c15b1
              try clear hx224_0
              try clear hx225_0
              try clear hx226_0
              try clear hx227_0
              try clear p2
              try clear p224
              try clear p225
              try clear p226
              try clear p227
              try clear p6
              try clear q2
              try clear q224
              try clear q225
              try clear q226
              try clear q227
              obtain ⟨x8_4, x9_4, x10_4, x11_4, rfl, rfl, HA, HK4, HO_8, HO_9, HB⟩ := hrel; cases gk with
              | zero => exact absurd HA.out (by simp [tapearchiveref32_Share.l1])
              | succ k4 =>
               have H := HA.out; clear HA; simp only [tapearchiveref32_Share.l1] at H
               by_cases c21 : x11_4 < (l1.length : Int)
               ·
                rw [if_pos c21] at H; have c21b0 : decide (x11_4 < (l1.length : Int)) = true := de_ c21; clear c21
                (first | rw [c21b0] | (simp only [i64_w, i32_w]; rw [c21b0]) | rw [c21b2] | rw [c21b1] | skip)
                by_cases c22 : x6_1 > 0
                ·
                 rw [if_pos c22] at H; have c22b0 : decide (0 < x6_1) = true := de_ c22; clear c22
                 by_cases c23 : 0 ≤ x11_4
                 ·
                  rw [if_pos c23] at H; have c23b0 : decide (0 ≤ x11_4) = true := de_ c23; clear c23; replace H := Option.bind_eq_some_iff.mp H; obtain ⟨⟨t235, t236⟩, A240, H⟩ := H; replace H : (if x11_4 < (x8_4.length : Int) then ((some (x8_4.set (x11_4 : Int).toNat t235 : List Int)).bind fun y237 => (if x11_4 < (x9_4.length : Int) then (tapearchiveref32_Share.l1 k4 a0 l1 x6_1 y237 (x9_4.set (x11_4 : Int).toNat t236) (wrap64 (x10_4 - (rd y237 x11_4))) (wrap64 (x11_4 + 1))) else (none))) else (none)) = some (r1, r2) := H; have A24 := am_ A240; clear A240
                  by_cases c25 : x11_4 < (x8_4.length : Int)
                  ·
                   rw [if_pos c25] at H; have c25b0 : decide (x11_4 < (x8_4.length : Int)) = true := de_ c25; clear c25; obtain ⟨y237, hy237⟩ : ∃ y_ : List Int, y_ = (x8_4.set (x11_4 : Int).toNat t235) := ⟨_, rfl⟩; replace H : (if x11_4 < (x9_4.length : Int) then (tapearchiveref32_Share.l1 k4 a0 l1 x6_1 y237 (x9_4.set (x11_4 : Int).toNat t236) (wrap64 (x10_4 - (rd y237 x11_4))) (wrap64 (x11_4 + 1))) else (none)) = some (r1, r2) := by first | (rw [hy237]; with_reducible exact H) | (have H2_ := (Option.bind_some _ _).symm.trans H; rw [hy237]; with_reducible exact H2_) | (have H2_ := (Option.bind_some _ _).symm.trans H; with_reducible exact H2_) | with_reducible exact H | (rw [hy237]; exact H) | exact H
                   have Ny237 := am_ hy237; clear hy237
                   by_cases c27 : x11_4 < (x9_4.length : Int)
                   ·
                    rw [if_pos c27] at H; have c27b0 : decide (x11_4 < (x9_4.length : Int)) = true := de_ c27; clear c27; obtain ⟨y238, hy238⟩ : ∃ y_ : List Int, y_ = (x9_4.set (x11_4 : Int).toNat t236) := ⟨_, rfl⟩; replace H : (tapearchiveref32_Share.l1 k4 a0 l1 x6_1 y237 y238 (wrap64 (x10_4 - (rd y237 x11_4))) (wrap64 (x11_4 + 1))) = some (r1, r2) := by first | (rw [hy238]; with_reducible exact H) | (have H2_ := (Option.bind_some _ _).symm.trans H; rw [hy238]; with_reducible exact H2_) | (have H2_ := (Option.bind_some _ _).symm.trans H; with_reducible exact H2_) | with_reducible exact H | (rw [hy238]; exact H) | exact H
                    have Ny238 := am_ hy238; clear hy238; have H' := am_ H; clear H; have p234 : 0 ≤ (x11_4 : Int) := ot_ (by first | (with_reducible assumption) | assumption); have q234 : x11_4 < (l1.length : Int) := ot_ (by first | (with_reducible assumption) | assumption); obtain ⟨ad234, e234, hx234_0⟩ := Kd.at_int HR1.out x11_4 p234 q234; cases e234; replace hx234_0 := (HB.out.cell (bk_ w _ hx234_0)).trans hx234_0; replace p234 := eq_true p234; replace q234 := eq_true q234
                    go_wp2_with (first | (go_at_call 37; (with_reducible refine (tapearchiveref32_divide.calls k4 a0 (rd l1 x11_4) x6_1 t235 t236 _ A24.out).mono ?_); rintro e w' ⟨rfl, ⟨nd, rfl⟩⟩; (try first | exact ⟨rfl, _, World.drewN_drewN _ _ _⟩ | exact ⟨rfl, _, Eq.trans (World.drewN_drewN _ _ _) (congrArg (World.drewN _) (Nat.add_assoc _ _ _))⟩); have p26 : 0 ≤ (x11_4 : Int) := ot_ (by first | (with_reducible assumption) | assumption); have q26 : (x11_4 : Int) < ((x8_4.length : Int) : Int) := ot_ (by first | (with_reducible assumption) | assumption); obtain ⟨go26, co26, eo26, gb26, gl26, cl26, HG26⟩ := Kd.R_form HO_8.out (by omega); (first | cases eo26 | (injection eo26 with ea_ en_ ec_; (first | subst ea_ | (injection ea_ with ea_; subst ea_)); subst ec_; clear en_)); have GB26 := am_ gb26; have GG26 := am_ HG26; clear gb26 gl26 HG26; obtain ⟨hx26_0, hf26_0⟩ := Kd.R_celln 0 HO_8.out (x11_4 : Int) p26 q26; replace p26 := eq_true p26; replace q26 := eq_true q26; obtain ⟨hy29_, hz29_⟩ := Kd.R_celln 0 HO_8.out (x11_4 : Int) (ot_ (by first | (with_reducible assumption) | assumption)) (ot_ (by first | (with_reducible assumption) | assumption)); have HP29 := Kd.R_putg HO_8.out (x11_4 : Int) t235) | ((with_reducible refine gate_store (t := 3) (p := 90) rfl ?_); (try (rw [drewN_self wr]; generalize hq_ : World.drewN wr _ = wr; have n0_ := am_ (Kd.R_at hq_ HO_8.out); have n1_ := am_ (Kd.R_at hq_ HO_9.out); have n2_ := am_ (below_at hq_ HB.out); clear hq_ HO_8 HO_9 HB; have HO_8 := n0_; have HO_9 := n1_; have HB := n2_; clear n0_ n1_ n2_; (try (obtain ⟨hy29_, hz29_⟩ := Kd.R_celln 0 HO_8.out (x11_4 : Int) (ot_ (by first | (with_reducible assumption) | assumption)) (ot_ (by first | (with_reducible assumption) | assumption)))); (try (have HP29 := Kd.R_putg HO_8.out (x11_4 : Int) t235)))); refine store_event (t := 3) (p := 90) (v := ?vo_w30) (w1 := (wr.setCell ⟨go26, (x11_4 : Int).toNat, none⟩ (.int .i64 t235))) ?hg ?ho ?hn ?hr ?_; (case ho => rfl); (case hg => rfl); (case hn => rfl); (case hr => first | (go_simp; done) | (go_simp; rfl)); intro w30 hw; have hg : wr.grownBy w30 (some go26) := (by rw [hw]; exact HP29.2); have hp_ : Kd.R (Kd.int .i64) 3 w30 w.heap.size (fun k_ => some k_ ≠ (v232 : Value).ownBlock) (.slice (some ⟨go26, 0, none⟩) x8_4.length co26) y237 := (by rw [hw, Ny237.out]; exact HP29.1); clear HP29; have n0_ := am_ (hp_); have n1_ := am_ (Kd.R_after (v := (.slice (some ⟨go26, 0, none⟩) x8_4.length co26)) (v1 := (.slice (some ⟨go26, 0, none⟩) x8_4.length co26)) (ok := (fun _ => True)) (by (with_reducible repeat (first | apply Kd.R_alloc | apply Kd.R_drewN | apply Kd.R_drew)); exact Kd.R_mono HO_9.out (fun _ hk => ⟨trivial, hk⟩)) hg (.inl rfl)); have n2_ := am_ ((by rw [hw]; exact bs_ (HB.out) GB26.out : Below w.heap.size w w30)); clear HO_8; clear HO_9; clear HB; have HO_8 := n0_; have HO_9 := n1_; have HB := n2_; clear n0_ n1_ n2_; clear hg hw hp_; have p28 : 0 ≤ (x11_4 : Int) := ot_ (by first | (with_reducible assumption) | assumption); have q28 : (x11_4 : Int) < ((x9_4.length : Int) : Int) := ot_ (by first | (with_reducible assumption) | assumption); obtain ⟨go28, co28, eo28, gb28, gl28, cl28, HG28⟩ := Kd.R_form HO_9.out (by omega); (first | cases eo28 | (injection eo28 with ea_ en_ ec_; (first | subst ea_ | (injection ea_ with ea_; subst ea_)); subst ec_; clear en_)); have GB28 := am_ gb28; have GG28 := am_ HG28; clear gb28 gl28 HG28; obtain ⟨hx28_0, hf28_0⟩ := Kd.R_celln 0 HO_9.out (x11_4 : Int) p28 q28; replace p28 := eq_true p28; replace q28 := eq_true q28; have n_ := am_ (Kd.R_mono (ok' := (fun k_ => some k_ ≠ (.slice (some ⟨go26, 0, none⟩) x8_4.length co26 : Value).ownBlock)) HO_9.out (fun k_ hk => hk.2)); clear HO_9; have HO_9 := n_; clear n_; obtain ⟨hy31_, hz31_⟩ := Kd.R_celln 0 HO_9.out (x11_4 : Int) (ot_ (by first | (with_reducible assumption) | assumption)) (ot_ (by first | (with_reducible assumption) | assumption)); have HP31 := Kd.R_putg HO_9.out (x11_4 : Int) t236) | ((with_reducible refine gate_store (t := 3) (p := 91) rfl ?_); (try (rw [drewN_self w30]; generalize hq_ : World.drewN w30 _ = w30; have n0_ := am_ (Kd.R_at hq_ HO_8.out); have n1_ := am_ (Kd.R_at hq_ HO_9.out); have n2_ := am_ (below_at hq_ HB.out); clear hq_ HO_8 HO_9 HB; have HO_8 := n0_; have HO_9 := n1_; have HB := n2_; clear n0_ n1_ n2_; (try (have n_ := am_ (Kd.R_mono (ok' := (fun k_ => some k_ ≠ (.slice (some ⟨go26, 0, none⟩) x8_4.length co26 : Value).ownBlock)) HO_9.out (fun k_ hk => hk.2)); clear HO_9; have HO_9 := n_; clear n_)); (try (obtain ⟨hy31_, hz31_⟩ := Kd.R_celln 0 HO_9.out (x11_4 : Int) (ot_ (by first | (with_reducible assumption) | assumption)) (ot_ (by first | (with_reducible assumption) | assumption)))); (try (have HP31 := Kd.R_putg HO_9.out (x11_4 : Int) t236)))); refine store_event (t := 3) (p := 91) (v := ?vo_w32) (w1 := (w30.setCell ⟨go28, (x11_4 : Int).toNat, none⟩ (.int .i64 t236))) ?hg ?ho ?hn ?hr ?_; (case ho => rfl); (case hg => rfl); (case hn => rfl); (case hr => first | (go_simp; done) | (go_simp; rfl)); intro w32 hw; have hg : w30.grownBy w32 (some go28) := (by rw [hw]; exact HP31.2); have hp_ : Kd.R (Kd.int .i64) 3 w32 w.heap.size (fun k_ => some k_ ≠ (.slice (some ⟨go26, 0, none⟩) x8_4.length co26 : Value).ownBlock) (.slice (some ⟨go28, 0, none⟩) x9_4.length co28) y238 := (by rw [hw, Ny238.out]; exact HP31.1); clear HP31; have n0_ := am_ (Kd.R_after (v := (.slice (some ⟨go28, 0, none⟩) x9_4.length co28)) (v1 := (.slice (some ⟨go28, 0, none⟩) x9_4.length co28)) (ok := (fun _ => True)) (by (with_reducible repeat (first | apply Kd.R_alloc | apply Kd.R_drewN | apply Kd.R_drew)); exact Kd.R_mono HO_8.out (fun _ hk => ⟨trivial, hk⟩)) hg (.inl rfl)); have n1_ := am_ (hp_); have n2_ := am_ ((by rw [hw]; exact bs_ (HB.out) GB28.out : Below w.heap.size w w32)); clear HO_8; clear HO_9; clear HB; have HO_8 := n0_; have HO_9 := n1_; have HB := n2_; clear n0_ n1_ n2_; clear hg hw hp_; have p239 : 0 ≤ (x11_4 : Int) := ot_ (by first | (with_reducible assumption) | assumption); have q239 : x11_4 < (y237.length : Int) := (by have h_ : (x11_4 : Int) < ((x8_4.length : Int) : Int) := ot_ (by first | (with_reducible assumption) | assumption); first | (have e_ := (Kd.R_reads' HO_8.out).1; omega) | simpa only [Ny237.out, List.length_set] using h_); have ql239 : ((x11_4 : Int) < ((x8_4.length : Int) : Int)) = True := eq_true (ot_ (by first | (with_reducible assumption) | assumption)); obtain ⟨ad239, e239, hx239_0⟩ := Kd.at_int (Kd.R_reads' HO_8.out).2.2 x11_4 p239 q239; obtain rfl : (⟨go26, 0, none⟩ : Addr) = ad239 := (by injection e239); (first | simp only [add_plain] at hx239_0 | simp only [add_at] at hx239_0 | simp only [Addr.add, Nat.zero_add] at hx239_0 | skip); replace p239 := eq_true p239; replace q239 := eq_true q239))
                    repeat (go_quiet (first | (go_at_call 37; (with_reducible refine (tapearchiveref32_divide.calls k4 a0 (rd l1 x11_4) x6_1 t235 t236 _ A24.out).mono ?_); rintro e w' ⟨rfl, ⟨nd, rfl⟩⟩; (try first | exact ⟨rfl, _, World.drewN_drewN _ _ _⟩ | exact ⟨rfl, _, Eq.trans (World.drewN_drewN _ _ _) (congrArg (World.drewN _) (Nat.add_assoc _ _ _))⟩); have p26 : 0 ≤ (x11_4 : Int) := ot_ (by first | (with_reducible assumption) | assumption); have q26 : (x11_4 : Int) < ((x8_4.length : Int) : Int) := ot_ (by first | (with_reducible assumption) | assumption); obtain ⟨go26, co26, eo26, gb26, gl26, cl26, HG26⟩ := Kd.R_form HO_8.out (by omega); (first | cases eo26 | (injection eo26 with ea_ en_ ec_; (first | subst ea_ | (injection ea_ with ea_; subst ea_)); subst ec_; clear en_)); have GB26 := am_ gb26; have GG26 := am_ HG26; clear gb26 gl26 HG26; obtain ⟨hx26_0, hf26_0⟩ := Kd.R_celln 0 HO_8.out (x11_4 : Int) p26 q26; replace p26 := eq_true p26; replace q26 := eq_true q26; obtain ⟨hy29_, hz29_⟩ := Kd.R_celln 0 HO_8.out (x11_4 : Int) (ot_ (by first | (with_reducible assumption) | assumption)) (ot_ (by first | (with_reducible assumption) | assumption)); have HP29 := Kd.R_putg HO_8.out (x11_4 : Int) t235) | ((with_reducible refine gate_store (t := 3) (p := 90) rfl ?_); (try (rw [drewN_self wr]; generalize hq_ : World.drewN wr _ = wr; have n0_ := am_ (Kd.R_at hq_ HO_8.out); have n1_ := am_ (Kd.R_at hq_ HO_9.out); have n2_ := am_ (below_at hq_ HB.out); clear hq_ HO_8 HO_9 HB; have HO_8 := n0_; have HO_9 := n1_; have HB := n2_; clear n0_ n1_ n2_; (try (obtain ⟨hy29_, hz29_⟩ := Kd.R_celln 0 HO_8.out (x11_4 : Int) (ot_ (by first | (with_reducible assumption) | assumption)) (ot_ (by first | (with_reducible assumption) | assumption)))); (try (have HP29 := Kd.R_putg HO_8.out (x11_4 : Int) t235)))); refine store_event (t := 3) (p := 90) (v := ?vo_w30) (w1 := (wr.setCell ⟨go26, (x11_4 : Int).toNat, none⟩ (.int .i64 t235))) ?hg ?ho ?hn ?hr ?_; (case ho => rfl); (case hg => rfl); (case hn => rfl); (case hr => first | (go_simp; done) | (go_simp; rfl)); intro w30 hw; have hg : wr.grownBy w30 (some go26) := (by rw [hw]; exact HP29.2); have hp_ : Kd.R (Kd.int .i64) 3 w30 w.heap.size (fun k_ => some k_ ≠ (v232 : Value).ownBlock) (.slice (some ⟨go26, 0, none⟩) x8_4.length co26) y237 := (by rw [hw, Ny237.out]; exact HP29.1); clear HP29; have n0_ := am_ (hp_); have n1_ := am_ (Kd.R_after (v := (.slice (some ⟨go26, 0, none⟩) x8_4.length co26)) (v1 := (.slice (some ⟨go26, 0, none⟩) x8_4.length co26)) (ok := (fun _ => True)) (by (with_reducible repeat (first | apply Kd.R_alloc | apply Kd.R_drewN | apply Kd.R_drew)); exact Kd.R_mono HO_9.out (fun _ hk => ⟨trivial, hk⟩)) hg (.inl rfl)); have n2_ := am_ ((by rw [hw]; exact bs_ (HB.out) GB26.out : Below w.heap.size w w30)); clear HO_8; clear HO_9; clear HB; have HO_8 := n0_; have HO_9 := n1_; have HB := n2_; clear n0_ n1_ n2_; clear hg hw hp_; have p28 : 0 ≤ (x11_4 : Int) := ot_ (by first | (with_reducible assumption) | assumption); have q28 : (x11_4 : Int) < ((x9_4.length : Int) : Int) := ot_ (by first | (with_reducible assumption) | assumption); obtain ⟨go28, co28, eo28, gb28, gl28, cl28, HG28⟩ := Kd.R_form HO_9.out (by omega); (first | cases eo28 | (injection eo28 with ea_ en_ ec_; (first | subst ea_ | (injection ea_ with ea_; subst ea_)); subst ec_; clear en_)); have GB28 := am_ gb28; have GG28 := am_ HG28; clear gb28 gl28 HG28; obtain ⟨hx28_0, hf28_0⟩ := Kd.R_celln 0 HO_9.out (x11_4 : Int) p28 q28; replace p28 := eq_true p28; replace q28 := eq_true q28; have n_ := am_ (Kd.R_mono (ok' := (fun k_ => some k_ ≠ (.slice (some ⟨go26, 0, none⟩) x8_4.length co26 : Value).ownBlock)) HO_9.out (fun k_ hk => hk.2)); clear HO_9; have HO_9 := n_; clear n_; obtain ⟨hy31_, hz31_⟩ := Kd.R_celln 0 HO_9.out (x11_4 : Int) (ot_ (by first | (with_reducible assumption) | assumption)) (ot_ (by first | (with_reducible assumption) | assumption)); have HP31 := Kd.R_putg HO_9.out (x11_4 : Int) t236) | ((with_reducible refine gate_store (t := 3) (p := 91) rfl ?_); (try (rw [drewN_self w30]; generalize hq_ : World.drewN w30 _ = w30; have n0_ := am_ (Kd.R_at hq_ HO_8.out); have n1_ := am_ (Kd.R_at hq_ HO_9.out); have n2_ := am_ (below_at hq_ HB.out); clear hq_ HO_8 HO_9 HB; have HO_8 := n0_; have HO_9 := n1_; have HB := n2_; clear n0_ n1_ n2_; (try (have n_ := am_ (Kd.R_mono (ok' := (fun k_ => some k_ ≠ (.slice (some ⟨go26, 0, none⟩) x8_4.length co26 : Value).ownBlock)) HO_9.out (fun k_ hk => hk.2)); clear HO_9; have HO_9 := n_; clear n_)); (try (obtain ⟨hy31_, hz31_⟩ := Kd.R_celln 0 HO_9.out (x11_4 : Int) (ot_ (by first | (with_reducible assumption) | assumption)) (ot_ (by first | (with_reducible assumption) | assumption)))); (try (have HP31 := Kd.R_putg HO_9.out (x11_4 : Int) t236)))); refine store_event (t := 3) (p := 91) (v := ?vo_w32) (w1 := (w30.setCell ⟨go28, (x11_4 : Int).toNat, none⟩ (.int .i64 t236))) ?hg ?ho ?hn ?hr ?_; (case ho => rfl); (case hg => rfl); (case hn => rfl); (case hr => first | (go_simp; done) | (go_simp; rfl)); intro w32 hw; have hg : w30.grownBy w32 (some go28) := (by rw [hw]; exact HP31.2); have hp_ : Kd.R (Kd.int .i64) 3 w32 w.heap.size (fun k_ => some k_ ≠ (.slice (some ⟨go26, 0, none⟩) x8_4.length co26 : Value).ownBlock) (.slice (some ⟨go28, 0, none⟩) x9_4.length co28) y238 := (by rw [hw, Ny238.out]; exact HP31.1); clear HP31; have n0_ := am_ (Kd.R_after (v := (.slice (some ⟨go28, 0, none⟩) x9_4.length co28)) (v1 := (.slice (some ⟨go28, 0, none⟩) x9_4.length co28)) (ok := (fun _ => True)) (by (with_reducible repeat (first | apply Kd.R_alloc | apply Kd.R_drewN | apply Kd.R_drew)); exact Kd.R_mono HO_8.out (fun _ hk => ⟨trivial, hk⟩)) hg (.inl rfl)); have n1_ := am_ (hp_); have n2_ := am_ ((by rw [hw]; exact bs_ (HB.out) GB28.out : Below w.heap.size w w32)); clear HO_8; clear HO_9; clear HB; have HO_8 := n0_; have HO_9 := n1_; have HB := n2_; clear n0_ n1_ n2_; clear hg hw hp_; have p239 : 0 ≤ (x11_4 : Int) := ot_ (by first | (with_reducible assumption) | assumption); have q239 : x11_4 < (y237.length : Int) := (by have h_ : (x11_4 : Int) < ((x8_4.length : Int) : Int) := ot_ (by first | (with_reducible assumption) | assumption); first | (have e_ := (Kd.R_reads' HO_8.out).1; omega) | simpa only [Ny237.out, List.length_set] using h_); have ql239 : ((x11_4 : Int) < ((x8_4.length : Int) : Int)) = True := eq_true (ot_ (by first | (with_reducible assumption) | assumption)); obtain ⟨ad239, e239, hx239_0⟩ := Kd.at_int (Kd.R_reads' HO_8.out).2.2 x11_4 p239 q239; obtain rfl : (⟨go26, 0, none⟩ : Addr) = ad239 := (by injection e239); (first | simp only [add_plain] at hx239_0 | simp only [add_at] at hx239_0 | simp only [Addr.add, Nat.zero_add] at hx239_0 | skip); replace p239 := eq_true p239; replace q239 := eq_true q239)); try go_wp2_with (first | (go_at_call 37; (with_reducible refine (tapearchiveref32_divide.calls k4 a0 (rd l1 x11_4) x6_1 t235 t236 _ A24.out).mono ?_); rintro e w' ⟨rfl, ⟨nd, rfl⟩⟩; (try first | exact ⟨rfl, _, World.drewN_drewN _ _ _⟩ | exact ⟨rfl, _, Eq.trans (World.drewN_drewN _ _ _) (congrArg (World.drewN _) (Nat.add_assoc _ _ _))⟩); have p26 : 0 ≤ (x11_4 : Int) := ot_ (by first | (with_reducible assumption) | assumption); have q26 : (x11_4 : Int) < ((x8_4.length : Int) : Int) := ot_ (by first | (with_reducible assumption) | assumption); obtain ⟨go26, co26, eo26, gb26, gl26, cl26, HG26⟩ := Kd.R_form HO_8.out (by omega); (first | cases eo26 | (injection eo26 with ea_ en_ ec_; (first | subst ea_ | (injection ea_ with ea_; subst ea_)); subst ec_; clear en_)); have GB26 := am_ gb26; have GG26 := am_ HG26; clear gb26 gl26 HG26; obtain ⟨hx26_0, hf26_0⟩ := Kd.R_celln 0 HO_8.out (x11_4 : Int) p26 q26; replace p26 := eq_true p26; replace q26 := eq_true q26; obtain ⟨hy29_, hz29_⟩ := Kd.R_celln 0 HO_8.out (x11_4 : Int) (ot_ (by first | (with_reducible assumption) | assumption)) (ot_ (by first | (with_reducible assumption) | assumption)); have HP29 := Kd.R_putg HO_8.out (x11_4 : Int) t235) | ((with_reducible refine gate_store (t := 3) (p := 90) rfl ?_); (try (rw [drewN_self wr]; generalize hq_ : World.drewN wr _ = wr; have n0_ := am_ (Kd.R_at hq_ HO_8.out); have n1_ := am_ (Kd.R_at hq_ HO_9.out); have n2_ := am_ (below_at hq_ HB.out); clear hq_ HO_8 HO_9 HB; have HO_8 := n0_; have HO_9 := n1_; have HB := n2_; clear n0_ n1_ n2_; (try (obtain ⟨hy29_, hz29_⟩ := Kd.R_celln 0 HO_8.out (x11_4 : Int) (ot_ (by first | (with_reducible assumption) | assumption)) (ot_ (by first | (with_reducible assumption) | assumption)))); (try (have HP29 := Kd.R_putg HO_8.out (x11_4 : Int) t235)))); refine store_event (t := 3) (p := 90) (v := ?vo_w30) (w1 := (wr.setCell ⟨go26, (x11_4 : Int).toNat, none⟩ (.int .i64 t235))) ?hg ?ho ?hn ?hr ?_; (case ho => rfl); (case hg => rfl); (case hn => rfl); (case hr => first | (go_simp; done) | (go_simp; rfl)); intro w30 hw; have hg : wr.grownBy w30 (some go26) := (by rw [hw]; exact HP29.2); have hp_ : Kd.R (Kd.int .i64) 3 w30 w.heap.size (fun k_ => some k_ ≠ (v232 : Value).ownBlock) (.slice (some ⟨go26, 0, none⟩) x8_4.length co26) y237 := (by rw [hw, Ny237.out]; exact HP29.1); clear HP29; have n0_ := am_ (hp_); have n1_ := am_ (Kd.R_after (v := (.slice (some ⟨go26, 0, none⟩) x8_4.length co26)) (v1 := (.slice (some ⟨go26, 0, none⟩) x8_4.length co26)) (ok := (fun _ => True)) (by (with_reducible repeat (first | apply Kd.R_alloc | apply Kd.R_drewN | apply Kd.R_drew)); exact Kd.R_mono HO_9.out (fun _ hk => ⟨trivial, hk⟩)) hg (.inl rfl)); have n2_ := am_ ((by rw [hw]; exact bs_ (HB.out) GB26.out : Below w.heap.size w w30)); clear HO_8; clear HO_9; clear HB; have HO_8 := n0_; have HO_9 := n1_; have HB := n2_; clear n0_ n1_ n2_; clear hg hw hp_; have p28 : 0 ≤ (x11_4 : Int) := ot_ (by first | (with_reducible assumption) | assumption); have q28 : (x11_4 : Int) < ((x9_4.length : Int) : Int) := ot_ (by first | (with_reducible assumption) | assumption); obtain ⟨go28, co28, eo28, gb28, gl28, cl28, HG28⟩ := Kd.R_form HO_9.out (by omega); (first | cases eo28 | (injection eo28 with ea_ en_ ec_; (first | subst ea_ | (injection ea_ with ea_; subst ea_)); subst ec_; clear en_)); have GB28 := am_ gb28; have GG28 := am_ HG28; clear gb28 gl28 HG28; obtain ⟨hx28_0, hf28_0⟩ := Kd.R_celln 0 HO_9.out (x11_4 : Int) p28 q28; replace p28 := eq_true p28; replace q28 := eq_true q28; have n_ := am_ (Kd.R_mono (ok' := (fun k_ => some k_ ≠ (.slice (some ⟨go26, 0, none⟩) x8_4.length co26 : Value).ownBlock)) HO_9.out (fun k_ hk => hk.2)); clear HO_9; have HO_9 := n_; clear n_; obtain ⟨hy31_, hz31_⟩ := Kd.R_celln 0 HO_9.out (x11_4 : Int) (ot_ (by first | (with_reducible assumption) | assumption)) (ot_ (by first | (with_reducible assumption) | assumption)); have HP31 := Kd.R_putg HO_9.out (x11_4 : Int) t236) | ((with_reducible refine gate_store (t := 3) (p := 91) rfl ?_); (try (rw [drewN_self w30]; generalize hq_ : World.drewN w30 _ = w30; have n0_ := am_ (Kd.R_at hq_ HO_8.out); have n1_ := am_ (Kd.R_at hq_ HO_9.out); have n2_ := am_ (below_at hq_ HB.out); clear hq_ HO_8 HO_9 HB; have HO_8 := n0_; have HO_9 := n1_; have HB := n2_; clear n0_ n1_ n2_; (try (have n_ := am_ (Kd.R_mono (ok' := (fun k_ => some k_ ≠ (.slice (some ⟨go26, 0, none⟩) x8_4.length co26 : Value).ownBlock)) HO_9.out (fun k_ hk => hk.2)); clear HO_9; have HO_9 := n_; clear n_)); (try (obtain ⟨hy31_, hz31_⟩ := Kd.R_celln 0 HO_9.out (x11_4 : Int) (ot_ (by first | (with_reducible assumption) | assumption)) (ot_ (by first | (with_reducible assumption) | assumption)))); (try (have HP31 := Kd.R_putg HO_9.out (x11_4 : Int) t236)))); refine store_event (t := 3) (p := 91) (v := ?vo_w32) (w1 := (w30.setCell ⟨go28, (x11_4 : Int).toNat, none⟩ (.int .i64 t236))) ?hg ?ho ?hn ?hr ?_; (case ho => rfl); (case hg => rfl); (case hn => rfl); (case hr => first | (go_simp; done) | (go_simp; rfl)); intro w32 hw; have hg : w30.grownBy w32 (some go28) := (by rw [hw]; exact HP31.2); have hp_ : Kd.R (Kd.int .i64) 3 w32 w.heap.size (fun k_ => some k_ ≠ (.slice (some ⟨go26, 0, none⟩) x8_4.length co26 : Value).ownBlock) (.slice (some ⟨go28, 0, none⟩) x9_4.length co28) y238 := (by rw [hw, Ny238.out]; exact HP31.1); clear HP31; have n0_ := am_ (Kd.R_after (v := (.slice (some ⟨go28, 0, none⟩) x9_4.length co28)) (v1 := (.slice (some ⟨go28, 0, none⟩) x9_4.length co28)) (ok := (fun _ => True)) (by (with_reducible repeat (first | apply Kd.R_alloc | apply Kd.R_drewN | apply Kd.R_drew)); exact Kd.R_mono HO_8.out (fun _ hk => ⟨trivial, hk⟩)) hg (.inl rfl)); have n1_ := am_ (hp_); have n2_ := am_ ((by rw [hw]; exact bs_ (HB.out) GB28.out : Below w.heap.size w w32)); clear HO_8; clear HO_9; clear HB; have HO_8 := n0_; have HO_9 := n1_; have HB := n2_; clear n0_ n1_ n2_; clear hg hw hp_; have p239 : 0 ≤ (x11_4 : Int) := ot_ (by first | (with_reducible assumption) | assumption); have q239 : x11_4 < (y237.length : Int) := (by have h_ : (x11_4 : Int) < ((x8_4.length : Int) : Int) := ot_ (by first | (with_reducible assumption) | assumption); first | (have e_ := (Kd.R_reads' HO_8.out).1; omega) | simpa only [Ny237.out, List.length_set] using h_); have ql239 : ((x11_4 : Int) < ((x8_4.length : Int) : Int)) = True := eq_true (ot_ (by first | (with_reducible assumption) | assumption)); obtain ⟨ad239, e239, hx239_0⟩ := Kd.at_int (Kd.R_reads' HO_8.out).2.2 x11_4 p239 q239; obtain rfl : (⟨go26, 0, none⟩ : Addr) = ad239 := (by injection e239); (first | simp only [add_plain] at hx239_0 | simp only [add_at] at hx239_0 | simp only [Addr.add, Nat.zero_add] at hx239_0 | skip); replace p239 := eq_true p239; replace q239 := eq_true q239)))
                    go_roundg k4
                    case measure => have := HK1.out; have := HJ7.out; have := HJ10.out; have := HK4.out; omega
                    case rel => exact ⟨(y237), (y238), (wrap64 (x10_4 - (rd y237 x11_4))), (wrap64 (x11_4 + 1)), (by first | rfl | (simp; done) | (simp [*]; done)), (by first | rfl | (simp; done) | (simp [*]; done)), H', ⟨by have := HK1.out; have := HJ7.out; have := HJ10.out; have := HK4.out; omega⟩, ⟨by (with_reducible repeat (first | apply Kd.R_alloc | apply Kd.R_drewN | apply Kd.R_drew)); exact Kd.R_mono HO_8.out (fun _ hk => hk.2)⟩, ⟨by (with_reducible repeat (first | apply Kd.R_alloc | apply Kd.R_drewN | apply Kd.R_drew)); exact HO_9.out⟩, ⟨pb0_ HB.out⟩⟩
                   ·
                    rw [if_neg c27] at H; exact absurd H (by simp)
                  ·
                   rw [if_neg c25] at H; exact absurd H (by simp)
                 ·
                  rw [if_neg c23] at H; exact absurd H (by simp)
                ·
                 rw [if_neg c22] at H; have c22b0 : decide (0 < x6_1) = false := df_ c22; clear c22; have H' := am_ H; clear H; go_wp2
                 repeat (go_quiet (fail); try go_wp2)
                 go_meet
                 case rel => exact ⟨_, (x8_4), (x9_4), (x10_4), (by first | rfl | (simp; done) | (simp [*]; done)), H', ⟨by have := HK1.out; have := HJ7.out; have := HJ10.out; have := HK4.out; first | omega | exact Nat.le_refl _⟩, ⟨by (with_reducible repeat (first | apply Kd.R_alloc | apply Kd.R_drewN | apply Kd.R_drew)); exact HO_8.out⟩, ⟨by (with_reducible repeat (first | apply Kd.R_alloc | apply Kd.R_drewN | apply Kd.R_drew)); exact HO_9.out⟩, ⟨pb0_ HB.out⟩⟩
               ·
                rw [if_neg c21] at H; have c21b0 : decide (x11_4 < (l1.length : Int)) = false := df_ c21; clear c21
                (first | rw [c21b0] | (simp only [i64_w, i32_w]; rw [c21b0]) | rw [c21b2] | rw [c21b1] | skip)
                have H' := am_ H; clear H; go_wp2
                repeat (go_quiet (fail); try go_wp2)
                go_meet
                case rel => exact ⟨_, (x8_4), (x9_4), (x10_4), (by first | rfl | (simp; done) | (simp [*]; done)), H', ⟨by have := HK1.out; have := HJ7.out; have := HJ10.out; have := HK4.out; first | omega | exact Nat.le_refl _⟩, ⟨by (with_reducible repeat (first | apply Kd.R_alloc | apply Kd.R_drewN | apply Kd.R_drew)); exact HO_8.out⟩, ⟨by (with_reducible repeat (first | apply Kd.R_alloc | apply Kd.R_drewN | apply Kd.R_drew)); exact HO_9.out⟩, ⟨pb0_ HB.out⟩⟩
            case rest =>
             clear HC16
             try clear c1
             try clear c2
             try clear p2
             try clear q2
             try clear hx2
             try clear hf2
             try clear c3
             try clear c3b0
             try clear c4
             try clear c4b0
             try clear c5
             try clear c5b0
             try clear c6
             try clear c6b0
             try clear p6
             try clear c7
             try clear c7b0
             try clear c9
             try clear c9b0
             try clear c9b1
             try clear c9b2
             try clear c10
             try clear c12
             try clear c12b0
             try clear c12b1
             try clear c12b2
             try clear c13
             try clear c14
             try clear c14b0
             try clear c14b1
             try clear c15
             try clear c15b0
             try clear c15b1
             try clear c21
             try clear c21b0
             try clear c21b1
             try clear c21b2
             try clear c22
             try clear c22b0
             try clear p22
             try clear q22
             try clear hx22
             try clear c23
             try clear c23b0
             try clear p23
             try clear q23
             try clear hx23
             try clear c25
             try clear c25b0
             try clear p26
             try clear q26
             try clear hx26
             try clear hf26
             try clear c27
             try clear c27b0
             try clear p28
             try clear q28
             try clear hx28
             try clear hf28
             try clear hx224_0
             try clear hx225_0
             try clear hx226_0
             try clear hx227_0
             try clear hx234_0
             try clear hx239_0
             try clear hx26_0
             try clear hx28_0
             try clear p2
             try clear p224
             try clear p225
             try clear p226
             try clear p227
             try clear p234
             try clear p239
             try clear p26
             try clear p28
             try clear p6
             try clear q2
             try clear q224
             try clear q225
             try clear q226
             try clear q227
             try clear q234
             try clear q239
             try clear q26
             try clear q28
             obtain ⟨kq, x8_15, x9_15, x10_15, rfl, HA, HJ15, HO_8, HO_9, HB⟩ := hcut; cases kq with
             | zero => exact absurd HA.out (by simp [tapearchiveref32_Share.j4])
             | succ kj15 =>
              have H := HA.out; clear HA; simp only [tapearchiveref32_Share.j4] at H; have H' := am_ H; clear H; go_wp2
              repeat (go_quiet (fail); try go_wp2)
              go_loopg [10] kj15 (fun kq v10 w' => ∃ (x8_5 : List Int) (x9_5 : List Int) (x10_5 : Int), v10 = .int .i64 x10_5 ∧ Aside0 (tapearchiveref32_Share.l2 kq x8_5 x9_5 x10_5 = some (r1, r2)) ∧ Aside0 (kq ≤ kj15) ∧ Aside0 (Kd.R (Kd.int .i64) 3 w' w.heap.size (fun k_ => some k_ ≠ (v232 : Value).ownBlock) v229 x8_5) ∧ Aside0 (Kd.R (Kd.int .i64) 3 w' w.heap.size (fun k_ => some k_ ≠ (v229 : Value).ownBlock) v232 x9_5) ∧ Aside0 (Below w.heap.size w w'))
              case atStart => exact ⟨(x8_15), (x9_15), (x10_15), (by first | rfl | (simp; done) | (simp [*]; done)), H', ⟨Nat.le_refl _⟩, ⟨by (with_reducible repeat (first | apply Kd.R_alloc | apply Kd.R_drewN | apply Kd.R_drew)); exact HO_8.out⟩, ⟨by (with_reducible repeat (first | apply Kd.R_alloc | apply Kd.R_drewN | apply Kd.R_drew)); exact HO_9.out⟩, ⟨pb0_ HB.out⟩⟩
              case round =>
               clear H'
               try clear c1
               try clear c2
               try clear p2
               try clear q2
               try clear hx2
               try clear hf2
               try clear c3
               try clear c3b0
               try clear c4
               try clear c4b0
               try clear c5
               try clear c5b0
               try clear c6
               try clear c6b0
               try clear p6
               try clear c7
               try clear c7b0
               try clear c9
               try clear c9b0
               try clear c9b1
               try clear c9b2
               try clear c10
               try clear c12
               try clear c12b0
               try clear c12b1
               try clear c12b2
               try clear c13
               try clear c14
               try clear c14b0
               try clear c14b1
               try clear c15
               try clear c15b0
               try clear c15b1
               try clear c21
               try clear c21b0
               try clear c21b1
               try clear c21b2
               try clear c22
               try clear c22b0
               try clear p22
               try clear q22
               try clear hx22
               try clear c23
               try clear c23b0
               try clear p23
               try clear q23
               try clear hx23
               try clear c25
               try clear c25b0
               try clear p26
               try clear q26
               try clear hx26
               try clear hf26
               try clear c27
               try clear c27b0
               try clear p28
               try clear q28
               try clear hx28
               try clear hf28
               try clear hx224_0
               try clear hx225_0
               try clear hx226_0
               try clear hx227_0
               try clear hx234_0
               try clear hx239_0
               try clear hx26_0
               try clear hx28_0
               try clear p2
               try clear p22
               try clear p224
               try clear p225
               try clear p226
               try clear p227
               try clear p23
               try clear p234
               try clear p239
               try clear p26
               try clear p28
               try clear p6
               try clear q2
               try clear q22
               try clear q224
               try clear q225
               try clear q226
               try clear q227
               try clear q23
               try clear q234
               try clear q239
               try clear q26
               try clear q28
               obtain ⟨x8_5, x9_5, x10_5, rfl, HA, HK5, HO_8, HO_9, HB⟩ := hrel; cases gk with
               | zero => exact absurd HA.out (by simp [tapearchiveref32_Share.l2])
               | succ k5 =>
                have H := HA.out; clear HA; simp only [tapearchiveref32_Share.l2] at H
                by_cases c33 : x10_5 > 0
                ·
                 rw [if_pos c33] at H; have c33b0 : decide (0 < x10_5) = true := de_ c33; clear c33; have H' := am_ H; clear H; go_wp2
                 repeat (go_quiet (fail); try go_wp2)
                 go_loopg [12, 13] k5 (fun kq v12 v13 w' => ∃ (x12_6 : Int) (x13_6 : Int), v12 = .int .i64 x12_6 ∧ v13 = .int .i64 x13_6 ∧ Aside0 (tapearchiveref32_Share.l3 kq x8_5 x9_5 x10_5 x12_6 x13_6 = some (r1, r2)) ∧ Aside0 (kq ≤ k5) ∧ Aside0 (Kd.R (Kd.int .i64) 3 w' w.heap.size (fun k_ => some k_ ≠ (v232 : Value).ownBlock) v229 x8_5) ∧ Aside0 (Kd.R (Kd.int .i64) 3 w' w.heap.size (fun k_ => some k_ ≠ (v229 : Value).ownBlock) v232 x9_5) ∧ Aside0 (Below w.heap.size w w'))
                 case atStart => exact ⟨(0), (0), (by first | rfl | (simp; done) | (simp [*]; done)), (by first | rfl | (simp; done) | (simp [*]; done)), H', ⟨Nat.le_refl _⟩, ⟨by (with_reducible repeat (first | apply Kd.R_alloc | apply Kd.R_drewN | apply Kd.R_drew)); exact HO_8.out⟩, ⟨by (with_reducible repeat (first | apply Kd.R_alloc | apply Kd.R_drewN | apply Kd.R_drew)); exact HO_9.out⟩, ⟨pb0_ HB.out⟩⟩
                 case round =>
                  clear H'
                  try clear c1
                  try clear c2
                  try clear p2
                  try clear q2
                  try clear hx2
                  try clear hf2
                  try clear c3
                  try clear c3b0
                  try clear c4
                  try clear c4b0
                  try clear c5
                  try clear c5b0
                  try clear c6
                  try clear c6b0
                  try clear p6
                  try clear c7
                  try clear c7b0
                  try clear c9
                  try clear c9b0
                  try clear c9b1
                  try clear c9b2
                  try clear c10
                  try clear c12
                  try clear c12b0
                  try clear c12b1
                  try clear c12b2
                  try clear c13
                  try clear c14
                  try clear c14b0
                  try clear c14b1
                  try clear c15
                  try clear c15b0
                  try clear c15b1
                  try clear c21
                  try clear c21b0
                  try clear c21b1
                  try clear c21b2
                  try clear c22
                  try clear c22b0
                  try clear p22
                  try clear q22
                  try clear hx22
                  try clear c23
                  try clear c23b0
                  try clear p23
                  try clear q23
                  try clear hx23
                  try clear c25
                  try clear c25b0
                  try clear p26
                  try clear q26
                  try clear hx26
                  try clear hf26
                  try clear c27
                  try clear c27b0
                  try clear p28
                  try clear q28
                  try clear hx28
                  try clear hf28
                  try clear c33
                  try clear c33b0
                  try clear hx224_0
                  try clear hx225_0
                  try clear hx226_0
                  try clear hx227_0
                  try clear hx234_0
                  try clear hx239_0
                  try clear hx26_0
                  try clear hx28_0
                  try clear p2
                  try clear p22
                  try clear p224
                  try clear p225
                  try clear p226
                  try clear p227
                  try clear p23
                  try clear p234
                  try clear p239
                  try clear p26
                  try clear p28
                  try clear p6
                  try clear q2
                  try clear q22
                  try clear q224
                  try clear q225
                  try clear q226
                  try clear q227
                  try clear q23
                  try clear q234
                  try clear q239
                  try clear q26
                  try clear q28
                  obtain ⟨x12_6, x13_6, rfl, rfl, HA, HK6, HO_8, HO_9, HB⟩ := hrel; cases gk with
                  | zero => exact absurd HA.out (by simp [tapearchiveref32_Share.l3])
                  | succ k6 =>
                   have H := HA.out; clear HA; simp only [tapearchiveref32_Share.l3] at H
                   by_cases c34 : x13_6 < (x9_5.length : Int)
                   ·
                    rw [if_pos c34] at H; have c34b0 : decide (x13_6 < (x9_5.length : Int)) = true := de_ c34; clear c34
                    by_cases c35 : 0 ≤ x13_6
                    ·
                     rw [if_pos c35] at H; have c35b0 : decide (0 ≤ x13_6) = true := de_ c35; clear c35
                     by_cases c36 : 0 ≤ x12_6
                     ·
                      rw [if_pos c36] at H; have c36b0 : decide (0 ≤ x12_6) = true := de_ c36; clear c36
                      by_cases c37 : x12_6 < (x9_5.length : Int)
                      ·
                       rw [if_pos c37] at H; have c37b0 : decide (x12_6 < (x9_5.length : Int)) = true := de_ c37; clear c37
                       by_cases c38 : (rd x9_5 x13_6) > (rd x9_5 x12_6)
                       ·
                        rw [if_pos c38] at H; have c38b0 : decide ((rd x9_5 x12_6) < (rd x9_5 x13_6)) = true := de_ c38; clear c38; have H' := am_ H; clear H; obtain ⟨Ao39, co39, eo39⟩ := Kd.R_slice HO_9.out; subst eo39; have p240 : 0 ≤ (x13_6 : Int) := ot_ (by first | (with_reducible assumption) | assumption); have q240 : x13_6 < (x9_5.length : Int) := ot_ (by first | (with_reducible assumption) | assumption); obtain ⟨ad240, e240, hx240_0⟩ := Kd.at_int (Kd.R_reads' HO_9.out).2.2 x13_6 p240 q240; cases e240; replace p240 := eq_true p240; replace q240 := eq_true q240; have p241 : 0 ≤ (x12_6 : Int) := ot_ (by first | (with_reducible assumption) | assumption); have q241 : x12_6 < (x9_5.length : Int) := ot_ (by first | (with_reducible assumption) | assumption); obtain ⟨ad241, e241, hx241_0⟩ := Kd.at_int (Kd.R_reads' HO_9.out).2.2 x12_6 p241 q241; obtain rfl : ad240 = ad241 := (by injection e241); replace p241 := eq_true p241; replace q241 := eq_true q241; go_wp2
                        repeat (go_quiet (fail); try go_wp2)
                        go_roundg k6
                        case measure => have := HK1.out; have := HJ7.out; have := HJ10.out; have := HJ15.out; have := HK5.out; have := HK6.out; omega
                        case rel => exact ⟨(x13_6), (wrap64 (x13_6 + 1)), (by first | rfl | (simp; done) | (simp [*]; done)), (by first | rfl | (simp; done) | (simp [*]; done)), H', ⟨by have := HK1.out; have := HJ7.out; have := HJ10.out; have := HJ15.out; have := HK5.out; have := HK6.out; omega⟩, ⟨by (with_reducible repeat (first | apply Kd.R_alloc | apply Kd.R_drewN | apply Kd.R_drew)); exact HO_8.out⟩, ⟨by (with_reducible repeat (first | apply Kd.R_alloc | apply Kd.R_drewN | apply Kd.R_drew)); exact HO_9.out⟩, ⟨pb0_ HB.out⟩⟩
                       ·
                        rw [if_neg c38] at H; have c38b0 : decide ((rd x9_5 x12_6) < (rd x9_5 x13_6)) = false := df_ c38; clear c38; have H' := am_ H; clear H; obtain ⟨Ao40, co40, eo40⟩ := Kd.R_slice HO_9.out; subst eo40; have p240 : 0 ≤ (x13_6 : Int) := ot_ (by first | (with_reducible assumption) | assumption); have q240 : x13_6 < (x9_5.length : Int) := ot_ (by first | (with_reducible assumption) | assumption); obtain ⟨ad240, e240, hx240_0⟩ := Kd.at_int (Kd.R_reads' HO_9.out).2.2 x13_6 p240 q240; cases e240; replace p240 := eq_true p240; replace q240 := eq_true q240; have p241 : 0 ≤ (x12_6 : Int) := ot_ (by first | (with_reducible assumption) | assumption); have q241 : x12_6 < (x9_5.length : Int) := ot_ (by first | (with_reducible assumption) | assumption); obtain ⟨ad241, e241, hx241_0⟩ := Kd.at_int (Kd.R_reads' HO_9.out).2.2 x12_6 p241 q241; obtain rfl : ad240 = ad241 := (by injection e241); replace p241 := eq_true p241; replace q241 := eq_true q241; go_wp2
                        repeat (go_quiet (fail); try go_wp2)
                        go_roundg k6
                        case measure => have := HK1.out; have := HJ7.out; have := HJ10.out; have := HJ15.out; have := HK5.out; have := HK6.out; omega
                        case rel => exact ⟨(x12_6), (wrap64 (x13_6 + 1)), (by first | rfl | (simp; done) | (simp [*]; done)), (by first | rfl | (simp; done) | (simp [*]; done)), H', ⟨by have := HK1.out; have := HJ7.out; have := HJ10.out; have := HJ15.out; have := HK5.out; have := HK6.out; omega⟩, ⟨by (with_reducible repeat (first | apply Kd.R_alloc | apply Kd.R_drewN | apply Kd.R_drew)); exact HO_8.out⟩, ⟨by (with_reducible repeat (first | apply Kd.R_alloc | apply Kd.R_drewN | apply Kd.R_drew)); exact HO_9.out⟩, ⟨pb0_ HB.out⟩⟩
                      ·
                       rw [if_neg c37] at H; exact absurd H (by simp)
                     ·
                      rw [if_neg c36] at H; exact absurd H (by simp)
                    ·
                     rw [if_neg c35] at H; exact absurd H (by simp)
                   ·
                    rw [if_neg c34] at H; have c34b0 : decide (x13_6 < (x9_5.length : Int)) = false := df_ c34; clear c34
                    by_cases c41 : 0 ≤ x12_6
                    ·
                     rw [if_pos c41] at H; have c41b0 : decide (0 ≤ x12_6) = true := de_ c41; clear c41
                     by_cases c42 : x12_6 < (x8_5.length : Int)
                     ·
                      rw [if_pos c42] at H; have c42b0 : decide (x12_6 < (x8_5.length : Int)) = true := de_ c42; clear c42; obtain ⟨y243, hy243⟩ : ∃ y_ : List Int, y_ = (x8_5.set (x12_6 : Int).toNat (wrap64 ((rd x8_5 x12_6) + 1))) := ⟨_, rfl⟩; replace H : (if x12_6 < (x9_5.length : Int) then (tapearchiveref32_Share.l2 k6 y243 (x9_5.set (x12_6 : Int).toNat (-1)) (wrap64 (x10_5 - 1))) else (none)) = some (r1, r2) := by first | (rw [hy243]; with_reducible exact H) | (have H2_ := (Option.bind_some _ _).symm.trans H; rw [hy243]; with_reducible exact H2_) | (have H2_ := (Option.bind_some _ _).symm.trans H; with_reducible exact H2_) | with_reducible exact H | (rw [hy243]; exact H) | exact H
                      have Ny243 := am_ hy243; clear hy243
                      by_cases c44 : x12_6 < (x9_5.length : Int)
                      ·
                       rw [if_pos c44] at H; have c44b0 : decide (x12_6 < (x9_5.length : Int)) = true := de_ c44; clear c44; obtain ⟨y244, hy244⟩ : ∃ y_ : List Int, y_ = (x9_5.set (x12_6 : Int).toNat (-1)) := ⟨_, rfl⟩; replace H : (tapearchiveref32_Share.l2 k6 y243 y244 (wrap64 (x10_5 - 1))) = some (r1, r2) := by first | (rw [hy244]; with_reducible exact H) | (have H2_ := (Option.bind_some _ _).symm.trans H; rw [hy244]; with_reducible exact H2_) | (have H2_ := (Option.bind_some _ _).symm.trans H; with_reducible exact H2_) | with_reducible exact H | (rw [hy244]; exact H) | exact H
                       have Ny244 := am_ hy244; clear hy244; have H' := am_ H; clear H; obtain ⟨Ao46, co46, eo46⟩ := Kd.R_slice HO_9.out; subst eo46; obtain ⟨Ao47, co47, eo47⟩ := Kd.R_slice HO_8.out; subst eo47; have p242 : 0 ≤ (x12_6 : Int) := ot_ (by first | (with_reducible assumption) | assumption); have q242 : x12_6 < (x8_5.length : Int) := ot_ (by first | (with_reducible assumption) | assumption); obtain ⟨ad242, e242, hx242_0⟩ := Kd.at_int (Kd.R_reads' HO_8.out).2.2 x12_6 p242 q242; cases e242; replace p242 := eq_true p242; replace q242 := eq_true q242; have p43 : 0 ≤ (x12_6 : Int) := ot_ (by first | (with_reducible assumption) | assumption); have q43 : (x12_6 : Int) < ((x8_5.length : Int) : Int) := ot_ (by first | (with_reducible assumption) | assumption); obtain ⟨go43, co43, eo43, gb43, gl43, cl43, HG43⟩ := Kd.R_form HO_8.out (by omega)
                       (first | cases eo43 | (injection eo43 with ea_ en_ ec_; (first | subst ea_ | (injection ea_ with ea_; subst ea_)); subst ec_; clear en_))
                       have GB43 := am_ gb43; have GG43 := am_ HG43; clear gb43 gl43 HG43
                       (first | simp only [add_plain] at hx242_0 | skip)
                       obtain ⟨hx43_0, hf43_0⟩ := Kd.R_celln 0 HO_8.out (x12_6 : Int) p43 q43; replace p43 := eq_true p43; replace q43 := eq_true q43; have HP48 := Kd.R_putg HO_8.out (x12_6 : Int) (wrap64 ((rd x8_5 x12_6) + 1))
                       go_wp2_with (first | ((with_reducible refine gate_store (t := 3) (p := 121) rfl ?_); (try (rw [drewN_self wr]; generalize hq_ : World.drewN wr _ = wr; have n0_ := am_ (Kd.R_at hq_ HO_8.out); have n1_ := am_ (Kd.R_at hq_ HO_9.out); have n2_ := am_ (below_at hq_ HB.out); clear hq_ HO_8 HO_9 HB; have HO_8 := n0_; have HO_9 := n1_; have HB := n2_; clear n0_ n1_ n2_; (try (have HP48 := Kd.R_putg HO_8.out (x12_6 : Int) (wrap64 ((rd x8_5 x12_6) + 1)))))); refine store_event (t := 3) (p := 121) (v := ?vo_w49) (w1 := (wr.setCell ⟨go43, (x12_6 : Int).toNat, none⟩ (.int .i64 (wrap64 ((rd x8_5 x12_6) + 1))))) ?hg ?ho ?hn ?hr ?_; (case ho => rfl); (case hg => rfl); (case hn => rfl); (case hr => first | (go_simp; done) | (go_simp; rfl)); intro w49 hw; have hg : wr.grownBy w49 (some go43) := (by rw [hw]; exact HP48.2); have hp_ : Kd.R (Kd.int .i64) 3 w49 w.heap.size (fun k_ => some k_ ≠ (.slice Ao46 x9_5.length co46 : Value).ownBlock) (.slice (some ⟨go43, 0, none⟩) x8_5.length co47) y243 := (by rw [hw, Ny243.out]; exact HP48.1); clear HP48; have n0_ := am_ (hp_); have n1_ := am_ (Kd.R_after (v := (.slice (some ⟨go43, 0, none⟩) x8_5.length co47)) (v1 := (.slice (some ⟨go43, 0, none⟩) x8_5.length co47)) (ok := (fun _ => True)) (by (with_reducible repeat (first | apply Kd.R_alloc | apply Kd.R_drewN | apply Kd.R_drew)); exact Kd.R_mono HO_9.out (fun _ hk => ⟨trivial, hk⟩)) hg (.inl rfl)); have n2_ := am_ ((by rw [hw]; exact bs_ (HB.out) GB43.out : Below w.heap.size w w49)); clear HO_8; clear HO_9; clear HB; have HO_8 := n0_; have HO_9 := n1_; have HB := n2_; clear n0_ n1_ n2_; clear hg hw hp_; have p45 : 0 ≤ (x12_6 : Int) := ot_ (by first | (with_reducible assumption) | assumption); have q45 : (x12_6 : Int) < ((x9_5.length : Int) : Int) := ot_ (by first | (with_reducible assumption) | assumption); obtain ⟨go45, co45, eo45, gb45, gl45, cl45, HG45⟩ := Kd.R_form HO_9.out (by omega); (first | cases eo45 | (injection eo45 with ea_ en_ ec_; (first | subst ea_ | (injection ea_ with ea_; subst ea_)); subst ec_; clear en_)); have GB45 := am_ gb45; have GG45 := am_ HG45; clear gb45 gl45 HG45; obtain ⟨hx45_0, hf45_0⟩ := Kd.R_celln 0 HO_9.out (x12_6 : Int) p45 q45; replace p45 := eq_true p45; replace q45 := eq_true q45; have n_ := am_ (Kd.R_mono (ok' := (fun k_ => some k_ ≠ (.slice (some ⟨go43, 0, none⟩) x8_5.length co47 : Value).ownBlock)) HO_9.out (fun k_ hk => hk.2)); clear HO_9; have HO_9 := n_; clear n_; obtain ⟨hy50_, hz50_⟩ := Kd.R_celln 0 HO_9.out (x12_6 : Int) (ot_ (by first | (with_reducible assumption) | assumption)) (ot_ (by first | (with_reducible assumption) | assumption)); have HP50 := Kd.R_putg HO_9.out (x12_6 : Int) (-1)) | ((with_reducible refine gate_store (t := 3) (p := 124) rfl ?_); (try (rw [drewN_self w49]; generalize hq_ : World.drewN w49 _ = w49; have n0_ := am_ (Kd.R_at hq_ HO_8.out); have n1_ := am_ (Kd.R_at hq_ HO_9.out); have n2_ := am_ (below_at hq_ HB.out); clear hq_ HO_8 HO_9 HB; have HO_8 := n0_; have HO_9 := n1_; have HB := n2_; clear n0_ n1_ n2_; (try (have n_ := am_ (Kd.R_mono (ok' := (fun k_ => some k_ ≠ (.slice (some ⟨go43, 0, none⟩) x8_5.length co47 : Value).ownBlock)) HO_9.out (fun k_ hk => hk.2)); clear HO_9; have HO_9 := n_; clear n_)); (try (obtain ⟨hy50_, hz50_⟩ := Kd.R_celln 0 HO_9.out (x12_6 : Int) (ot_ (by first | (with_reducible assumption) | assumption)) (ot_ (by first | (with_reducible assumption) | assumption)))); (try (have HP50 := Kd.R_putg HO_9.out (x12_6 : Int) (-1))))); refine store_event (t := 3) (p := 124) (v := ?vo_w51) (w1 := (w49.setCell ⟨go45, (x12_6 : Int).toNat, none⟩ (.int .i64 (-1)))) ?hg ?ho ?hn ?hr ?_; (case ho => rfl); (case hg => rfl); (case hn => rfl); (case hr => first | (go_simp; done) | (go_simp; rfl)); intro w51 hw; have hg : w49.grownBy w51 (some go45) := (by rw [hw]; exact HP50.2); have hp_ : Kd.R (Kd.int .i64) 3 w51 w.heap.size (fun k_ => some k_ ≠ (.slice (some ⟨go43, 0, none⟩) x8_5.length co47 : Value).ownBlock) (.slice (some ⟨go45, 0, none⟩) x9_5.length co46) y244 := (by rw [hw, Ny244.out]; exact HP50.1); clear HP50; have n0_ := am_ (Kd.R_after (v := (.slice (some ⟨go45, 0, none⟩) x9_5.length co46)) (v1 := (.slice (some ⟨go45, 0, none⟩) x9_5.length co46)) (ok := (fun _ => True)) (by (with_reducible repeat (first | apply Kd.R_alloc | apply Kd.R_drewN | apply Kd.R_drew)); exact Kd.R_mono HO_8.out (fun _ hk => ⟨trivial, hk⟩)) hg (.inl rfl)); have n1_ := am_ (hp_); have n2_ := am_ ((by rw [hw]; exact bs_ (HB.out) GB45.out : Below w.heap.size w w51)); clear HO_8; clear HO_9; clear HB; have HO_8 := n0_; have HO_9 := n1_; have HB := n2_; clear n0_ n1_ n2_; clear hg hw hp_))
                       repeat (go_quiet (first | ((with_reducible refine gate_store (t := 3) (p := 121) rfl ?_); (try (rw [drewN_self wr]; generalize hq_ : World.drewN wr _ = wr; have n0_ := am_ (Kd.R_at hq_ HO_8.out); have n1_ := am_ (Kd.R_at hq_ HO_9.out); have n2_ := am_ (below_at hq_ HB.out); clear hq_ HO_8 HO_9 HB; have HO_8 := n0_; have HO_9 := n1_; have HB := n2_; clear n0_ n1_ n2_; (try (have HP48 := Kd.R_putg HO_8.out (x12_6 : Int) (wrap64 ((rd x8_5 x12_6) + 1)))))); refine store_event (t := 3) (p := 121) (v := ?vo_w49) (w1 := (wr.setCell ⟨go43, (x12_6 : Int).toNat, none⟩ (.int .i64 (wrap64 ((rd x8_5 x12_6) + 1))))) ?hg ?ho ?hn ?hr ?_; (case ho => rfl); (case hg => rfl); (case hn => rfl); (case hr => first | (go_simp; done) | (go_simp; rfl)); intro w49 hw; have hg : wr.grownBy w49 (some go43) := (by rw [hw]; exact HP48.2); have hp_ : Kd.R (Kd.int .i64) 3 w49 w.heap.size (fun k_ => some k_ ≠ (.slice Ao46 x9_5.length co46 : Value).ownBlock) (.slice (some ⟨go43, 0, none⟩) x8_5.length co47) y243 := (by rw [hw, Ny243.out]; exact HP48.1); clear HP48; have n0_ := am_ (hp_); have n1_ := am_ (Kd.R_after (v := (.slice (some ⟨go43, 0, none⟩) x8_5.length co47)) (v1 := (.slice (some ⟨go43, 0, none⟩) x8_5.length co47)) (ok := (fun _ => True)) (by (with_reducible repeat (first | apply Kd.R_alloc | apply Kd.R_drewN | apply Kd.R_drew)); exact Kd.R_mono HO_9.out (fun _ hk => ⟨trivial, hk⟩)) hg (.inl rfl)); have n2_ := am_ ((by rw [hw]; exact bs_ (HB.out) GB43.out : Below w.heap.size w w49)); clear HO_8; clear HO_9; clear HB; have HO_8 := n0_; have HO_9 := n1_; have HB := n2_; clear n0_ n1_ n2_; clear hg hw hp_; have p45 : 0 ≤ (x12_6 : Int) := ot_ (by first | (with_reducible assumption) | assumption); have q45 : (x12_6 : Int) < ((x9_5.length : Int) : Int) := ot_ (by first | (with_reducible assumption) | assumption); obtain ⟨go45, co45, eo45, gb45, gl45, cl45, HG45⟩ := Kd.R_form HO_9.out (by omega); (first | cases eo45 | (injection eo45 with ea_ en_ ec_; (first | subst ea_ | (injection ea_ with ea_; subst ea_)); subst ec_; clear en_)); have GB45 := am_ gb45; have GG45 := am_ HG45; clear gb45 gl45 HG45; obtain ⟨hx45_0, hf45_0⟩ := Kd.R_celln 0 HO_9.out (x12_6 : Int) p45 q45; replace p45 := eq_true p45; replace q45 := eq_true q45; have n_ := am_ (Kd.R_mono (ok' := (fun k_ => some k_ ≠ (.slice (some ⟨go43, 0, none⟩) x8_5.length co47 : Value).ownBlock)) HO_9.out (fun k_ hk => hk.2)); clear HO_9; have HO_9 := n_; clear n_; obtain ⟨hy50_, hz50_⟩ := Kd.R_celln 0 HO_9.out (x12_6 : Int) (ot_ (by first | (with_reducible assumption) | assumption)) (ot_ (by first | (with_reducible assumption) | assumption)); have HP50 := Kd.R_putg HO_9.out (x12_6 : Int) (-1)) | ((with_reducible refine gate_store (t := 3) (p := 124) rfl ?_); (try (rw [drewN_self w49]; generalize hq_ : World.drewN w49 _ = w49; have n0_ := am_ (Kd.R_at hq_ HO_8.out); have n1_ := am_ (Kd.R_at hq_ HO_9.out); have n2_ := am_ (below_at hq_ HB.out); clear hq_ HO_8 HO_9 HB; have HO_8 := n0_; have HO_9 := n1_; have HB := n2_; clear n0_ n1_ n2_; (try (have n_ := am_ (Kd.R_mono (ok' := (fun k_ => some k_ ≠ (.slice (some ⟨go43, 0, none⟩) x8_5.length co47 : Value).ownBlock)) HO_9.out (fun k_ hk => hk.2)); clear HO_9; have HO_9 := n_; clear n_)); (try (obtain ⟨hy50_, hz50_⟩ := Kd.R_celln 0 HO_9.out (x12_6 : Int) (ot_ (by first | (with_reducible assumption) | assumption)) (ot_ (by first | (with_reducible assumption) | assumption)))); (try (have HP50 := Kd.R_putg HO_9.out (x12_6 : Int) (-1))))); refine store_event (t := 3) (p := 124) (v := ?vo_w51) (w1 := (w49.setCell ⟨go45, (x12_6 : Int).toNat, none⟩ (.int .i64 (-1)))) ?hg ?ho ?hn ?hr ?_; (case ho => rfl); (case hg => rfl); (case hn => rfl); (case hr => first | (go_simp; done) | (go_simp; rfl)); intro w51 hw; have hg : w49.grownBy w51 (some go45) := (by rw [hw]; exact HP50.2); have hp_ : Kd.R (Kd.int .i64) 3 w51 w.heap.size (fun k_ => some k_ ≠ (.slice (some ⟨go43, 0, none⟩) x8_5.length co47 : Value).ownBlock) (.slice (some ⟨go45, 0, none⟩) x9_5.length co46) y244 := (by rw [hw, Ny244.out]; exact HP50.1); clear HP50; have n0_ := am_ (Kd.R_after (v := (.slice (some ⟨go45, 0, none⟩) x9_5.length co46)) (v1 := (.slice (some ⟨go45, 0, none⟩) x9_5.length co46)) (ok := (fun _ => True)) (by (with_reducible repeat (first | apply Kd.R_alloc | apply Kd.R_drewN | apply Kd.R_drew)); exact Kd.R_mono HO_8.out (fun _ hk => ⟨trivial, hk⟩)) hg (.inl rfl)); have n1_ := am_ (hp_); have n2_ := am_ ((by rw [hw]; exact bs_ (HB.out) GB45.out : Below w.heap.size w w51)); clear HO_8; clear HO_9; clear HB; have HO_8 := n0_; have HO_9 := n1_; have HB := n2_; clear n0_ n1_ n2_; clear hg hw hp_)); try go_wp2_with (first | ((with_reducible refine gate_store (t := 3) (p := 121) rfl ?_); (try (rw [drewN_self wr]; generalize hq_ : World.drewN wr _ = wr; have n0_ := am_ (Kd.R_at hq_ HO_8.out); have n1_ := am_ (Kd.R_at hq_ HO_9.out); have n2_ := am_ (below_at hq_ HB.out); clear hq_ HO_8 HO_9 HB; have HO_8 := n0_; have HO_9 := n1_; have HB := n2_; clear n0_ n1_ n2_; (try (have HP48 := Kd.R_putg HO_8.out (x12_6 : Int) (wrap64 ((rd x8_5 x12_6) + 1)))))); refine store_event (t := 3) (p := 121) (v := ?vo_w49) (w1 := (wr.setCell ⟨go43, (x12_6 : Int).toNat, none⟩ (.int .i64 (wrap64 ((rd x8_5 x12_6) + 1))))) ?hg ?ho ?hn ?hr ?_; (case ho => rfl); (case hg => rfl); (case hn => rfl); (case hr => first | (go_simp; done) | (go_simp; rfl)); intro w49 hw; have hg : wr.grownBy w49 (some go43) := (by rw [hw]; exact HP48.2); have hp_ : Kd.R (Kd.int .i64) 3 w49 w.heap.size (fun k_ => some k_ ≠ (.slice Ao46 x9_5.length co46 : Value).ownBlock) (.slice (some ⟨go43, 0, none⟩) x8_5.length co47) y243 := (by rw [hw, Ny243.out]; exact HP48.1); clear HP48; have n0_ := am_ (hp_); have n1_ := am_ (Kd.R_after (v := (.slice (some ⟨go43, 0, none⟩) x8_5.length co47)) (v1 := (.slice (some ⟨go43, 0, none⟩) x8_5.length co47)) (ok := (fun _ => True)) (by (with_reducible repeat (first | apply Kd.R_alloc | apply Kd.R_drewN | apply Kd.R_drew)); exact Kd.R_mono HO_9.out (fun _ hk => ⟨trivial, hk⟩)) hg (.inl rfl)); have n2_ := am_ ((by rw [hw]; exact bs_ (HB.out) GB43.out : Below w.heap.size w w49)); clear HO_8; clear HO_9; clear HB; have HO_8 := n0_; have HO_9 := n1_; have HB := n2_; clear n0_ n1_ n2_; clear hg hw hp_; have p45 : 0 ≤ (x12_6 : Int) := ot_ (by first | (with_reducible assumption) | assumption); have q45 : (x12_6 : Int) < ((x9_5.length : Int) : Int) := ot_ (by first | (with_reducible assumption) | assumption); obtain ⟨go45, co45, eo45, gb45, gl45, cl45, HG45⟩ := Kd.R_form HO_9.out (by omega); (first | cases eo45 | (injection eo45 with ea_ en_ ec_; (first | subst ea_ | (injection ea_ with ea_; subst ea_)); subst ec_; clear en_)); have GB45 := am_ gb45; have GG45 := am_ HG45; clear gb45 gl45 HG45; obtain ⟨hx45_0, hf45_0⟩ := Kd.R_celln 0 HO_9.out (x12_6 : Int) p45 q45; replace p45 := eq_true p45; replace q45 := eq_true q45; have n_ := am_ (Kd.R_mono (ok' := (fun k_ => some k_ ≠ (.slice (some ⟨go43, 0, none⟩) x8_5.length co47 : Value).ownBlock)) HO_9.out (fun k_ hk => hk.2)); clear HO_9; have HO_9 := n_; clear n_; obtain ⟨hy50_, hz50_⟩ := Kd.R_celln 0 HO_9.out (x12_6 : Int) (ot_ (by first | (with_reducible assumption) | assumption)) (ot_ (by first | (with_reducible assumption) | assumption)); have HP50 := Kd.R_putg HO_9.out (x12_6 : Int) (-1)) | ((with_reducible refine gate_store (t := 3) (p := 124) rfl ?_); (try (rw [drewN_self w49]; generalize hq_ : World.drewN w49 _ = w49; have n0_ := am_ (Kd.R_at hq_ HO_8.out); have n1_ := am_ (Kd.R_at hq_ HO_9.out); have n2_ := am_ (below_at hq_ HB.out); clear hq_ HO_8 HO_9 HB; have HO_8 := n0_; have HO_9 := n1_; have HB := n2_; clear n0_ n1_ n2_; (try (have n_ := am_ (Kd.R_mono (ok' := (fun k_ => some k_ ≠ (.slice (some ⟨go43, 0, none⟩) x8_5.length co47 : Value).ownBlock)) HO_9.out (fun k_ hk => hk.2)); clear HO_9; have HO_9 := n_; clear n_)); (try (obtain ⟨hy50_, hz50_⟩ := Kd.R_celln 0 HO_9.out (x12_6 : Int) (ot_ (by first | (with_reducible assumption) | assumption)) (ot_ (by first | (with_reducible assumption) | assumption)))); (try (have HP50 := Kd.R_putg HO_9.out (x12_6 : Int) (-1))))); refine store_event (t := 3) (p := 124) (v := ?vo_w51) (w1 := (w49.setCell ⟨go45, (x12_6 : Int).toNat, none⟩ (.int .i64 (-1)))) ?hg ?ho ?hn ?hr ?_; (case ho => rfl); (case hg => rfl); (case hn => rfl); (case hr => first | (go_simp; done) | (go_simp; rfl)); intro w51 hw; have hg : w49.grownBy w51 (some go45) := (by rw [hw]; exact HP50.2); have hp_ : Kd.R (Kd.int .i64) 3 w51 w.heap.size (fun k_ => some k_ ≠ (.slice (some ⟨go43, 0, none⟩) x8_5.length co47 : Value).ownBlock) (.slice (some ⟨go45, 0, none⟩) x9_5.length co46) y244 := (by rw [hw, Ny244.out]; exact HP50.1); clear HP50; have n0_ := am_ (Kd.R_after (v := (.slice (some ⟨go45, 0, none⟩) x9_5.length co46)) (v1 := (.slice (some ⟨go45, 0, none⟩) x9_5.length co46)) (ok := (fun _ => True)) (by (with_reducible repeat (first | apply Kd.R_alloc | apply Kd.R_drewN | apply Kd.R_drew)); exact Kd.R_mono HO_8.out (fun _ hk => ⟨trivial, hk⟩)) hg (.inl rfl)); have n1_ := am_ (hp_); have n2_ := am_ ((by rw [hw]; exact bs_ (HB.out) GB45.out : Below w.heap.size w w51)); clear HO_8; clear HO_9; clear HB; have HO_8 := n0_; have HO_9 := n1_; have HB := n2_; clear n0_ n1_ n2_; clear hg hw hp_)))
                       go_roundg k6
                       case measure => have := HK1.out; have := HJ7.out; have := HJ10.out; have := HJ15.out; have := HK5.out; have := HK6.out; omega
                       case rel => exact ⟨(y243), (y244), (wrap64 (x10_5 - 1)), (by first | rfl | (simp; done) | (simp [*]; done)), H', ⟨by have := HK1.out; have := HJ7.out; have := HJ10.out; have := HJ15.out; have := HK5.out; have := HK6.out; omega⟩, ⟨by (with_reducible repeat (first | apply Kd.R_alloc | apply Kd.R_drewN | apply Kd.R_drew)); exact Kd.R_mono HO_8.out (fun _ hk => hk.2)⟩, ⟨by (with_reducible repeat (first | apply Kd.R_alloc | apply Kd.R_drewN | apply Kd.R_drew)); exact HO_9.out⟩, ⟨pb0_ HB.out⟩⟩
                      ·
                       rw [if_neg c44] at H; exact absurd H (by simp)
                     ·
                      rw [if_neg c42] at H; exact absurd H (by simp)
                    ·
                     rw [if_neg c41] at H; exact absurd H (by simp)
                ·
                 rw [if_neg c33] at H; have c33b0 : decide (0 < x10_5) = false := df_ c33; clear c33; simp only [Option.some.injEq, Prod.mk.injEq] at H; obtain ⟨rfl, rfl⟩ := H; go_wp2
                 repeat (go_quiet (fail); try go_wp2)
                 go_ret2; exact ⟨_, by first | rfl | (simp [errW_none, errW_some] <;> rfl) | (simp [*, errW_none, errW_some] <;> rfl), by (with_reducible repeat (first | apply Kd.R_alloc | apply Kd.R_drewN | apply Kd.R_drew)); exact Kd.R_mono HO_8.out (fun _ hk => trivial), pb0_ HB.out⟩
           ·
            rw [if_neg c15] at H; exact absurd H (by simp)
          ·
           rw [if_neg c14] at H; exact absurd H (by simp)
end Go.Proofs.Ytbadelcnaeijkaa.Q
