import Derived.Test.YtifhmdlgjojodaaDoorKLexerSeparators8
set_option linter.unusedVariables false
set_option linter.unusedSimpArgs false
section
namespace Go.Proofs.YtifhmdlgjojodaaDoor.Q
open Go.RowKit Go.Proofs.YtifhmdlgjojodaaDoorW.PrintWords Go.Proofs.YtifhmdlgjojodaaDoorW.PrintLast Go.Proofs.YtifhmdlgjojodaaDoorW.PrintMore
attribute [local go_sem] max2_int min2_int max_two min_two max_three min_three max_four min_four
attribute [local go_sem ↓] isSome_setCell
set_option linter.unusedVariables false
set_option linter.unusedSimpArgs false
def tapearchivelaw28_small.l0 : Nat → List (S36) → Int → Int → Option (Bool)
  | 0, _, _, _ => none
  | k + 1, x0, x3, x4 => if x4 < (x0.length : Int) then (if 0 ≤ x4 then (if (wrap64 (x3 + (((rd_T36 x0 x4).f1).size : Int))) > 32768 then (some false) else (tapearchivelaw28_small.l0 k x0 (wrap64 (x3 + (((rd_T36 x0 x4).f1).size : Int))) (wrap64 (x4 + 1)))) else (none)) else (some true)
def tapearchivelaw28_small.f (k : Nat) (l0 : List (S36)) : Option (Bool) := if (l0.length : Int) > 400 then (some false) else (tapearchivelaw28_small.l0 k l0 0 0)
set_option maxHeartbeats 8000000 in
set_option maxRecDepth 100000 in
theorem tapearchivelaw28_small.calls (k : Nat) (A0 : Option Addr) (c0 : Nat) (l0 : List (S36)) (r : Bool) (w : World) (hr0 : Kd.C k36 w A0 l0.length l0) (hc0 : l0.length ≤ c0) (h : tapearchivelaw28_small.f k l0 = some r) :
    Calls Tryd.prog 13 #[.slice A0 l0.length c0] w fun e w' => e = .returned (.bool r) ∧ Drawn0 w w' := by
  have HR0 := Aside0.mk hr0
  have HC0 := Aside0.mk hc0
  clear hr0 hc0
  have H : (if (l0.length : Int) > 400 then (some false) else (tapearchivelaw28_small.l0 k l0 0 0)) = some r := h
  clear h
  by_cases c2 : (l0.length : Int) > 400
  · rw [if_pos c2] at H
    have c2b0 : decide (400 < (l0.length : Int)) = true := decide_eq_true c2
    have c2b1 : decide (400 < l0.length) = true := decide_eq_true (by omega)
    clear c2
    obtain rfl := Option.some.inj H
    go_enter Tryd.func13, Tryd.ntmps13
    go_wp2
    go_ret
    exact ⟨by first | rfl | (simp; done) | (simp [*]; done), by repeat (first | exact Drawn0.refl _ | apply Drawn0.step)⟩
  · rw [if_neg c2] at H
    have c2b0 : decide (400 < (l0.length : Int)) = false := decide_eq_false c2
    have c2b1 : decide (400 < l0.length) = false := decide_eq_false (by omega)
    clear c2
    have H' := Aside0.mk H
    clear H
    go_enter Tryd.func13, Tryd.ntmps13
    go_wp2
    go_loopg [3, 4] k (fun kq v3 v4 w' => ∃ (x3_1 : Int) (x4_1 : Int), v3 = .int .i64 x3_1 ∧ v4 = .int .i64 x4_1 ∧ Aside0 (tapearchivelaw28_small.l0 kq l0 x3_1 x4_1 = some r) ∧ Aside0 (kq ≤ k) ∧ Drawn0 w w')
    case atStart => exact ⟨(0), (0), (by first | rfl | (simp; done) | (simp [*]; done)), (by first | rfl | (simp; done) | (simp [*]; done)), H', ⟨Nat.le_refl _⟩, by repeat (first | exact Drawn0.refl _ | apply Drawn0.step)⟩
    case round =>
      clear H'
      try clear c1
      try clear c2
      try clear c2b0
      try clear c2b1
      try clear p2
      obtain ⟨x3_1, x4_1, rfl, rfl, HA, HK1, ⟨m1, rfl⟩⟩ := hrel
      cases gk with
      | zero => exact absurd HA.out (by simp [tapearchivelaw28_small.l0])
      | succ k1 =>
        have H := HA.out
        clear HA
        simp only [tapearchivelaw28_small.l0] at H
        by_cases c3 : x4_1 < (l0.length : Int)
        · rw [if_pos c3] at H
          have c3b0 : decide (x4_1 < (l0.length : Int)) = true := decide_eq_true c3
          clear c3
          by_cases c4 : 0 ≤ x4_1
          · rw [if_pos c4] at H
            have c4b0 : decide (0 ≤ x4_1) = true := decide_eq_true c4
            clear c4
            by_cases c5 : (wrap64 (x3_1 + (((rd_T36 l0 x4_1).f1).size : Int))) > 32768
            · rw [if_pos c5] at H
              have c5b0 : decide (32768 < (wrap64 (x3_1 + (((rd_T36 l0 x4_1).f1).size : Int)))) = true := decide_eq_true c5
              clear c5
              obtain rfl := Option.some.inj H
              have p232 : 0 ≤ (x4_1 : Int) := of_decide_eq_true (by first | (with_reducible assumption) | assumption)
              have q232 : x4_1 < (l0.length : Int) := of_decide_eq_true (by first | (with_reducible assumption) | assumption)
              obtain ⟨ad232, e232, hx232_0, hx232_1, hx232_2, hx232_3⟩ := at_T36 HR0.out x4_1 p232 q232
              cases e232
              replace p232 := eq_true p232
              replace q232 := eq_true q232
              go_wp2
              go_ret
              exact ⟨by first | rfl | (simp; done) | (simp [*]; done), by repeat (first | exact Drawn0.refl _ | apply Drawn0.step)⟩
            · rw [if_neg c5] at H
              have c5b0 : decide (32768 < (wrap64 (x3_1 + (((rd_T36 l0 x4_1).f1).size : Int)))) = false := decide_eq_false c5
              clear c5
              have H' := Aside0.mk H
              clear H
              have p232 : 0 ≤ (x4_1 : Int) := of_decide_eq_true (by first | (with_reducible assumption) | assumption)
              have q232 : x4_1 < (l0.length : Int) := of_decide_eq_true (by first | (with_reducible assumption) | assumption)
              obtain ⟨ad232, e232, hx232_0, hx232_1, hx232_2, hx232_3⟩ := at_T36 HR0.out x4_1 p232 q232
              cases e232
              replace p232 := eq_true p232
              replace q232 := eq_true q232
              go_wp2
              go_roundg k1
              case measure => have := HK1.out; omega
              case rel => exact ⟨(wrap64 (x3_1 + (((rd_T36 l0 x4_1).f1).size : Int))), (wrap64 (x4_1 + 1)), (by first | rfl | (simp; done) | (simp [*]; done)), (by first | rfl | (simp; done) | (simp [*]; done)), H', ⟨by have := HK1.out; omega⟩, by repeat (first | exact Drawn0.refl _ | apply Drawn0.step)⟩
          · rw [if_neg c4] at H
            exact absurd H (by simp)
        · rw [if_neg c3] at H
          have c3b0 : decide (x4_1 < (l0.length : Int)) = false := decide_eq_false c3
          clear c3
          obtain rfl := Option.some.inj H
          go_wp2
          go_ret
          exact ⟨by first | rfl | (simp; done) | (simp [*]; done), by repeat (first | exact Drawn0.refl _ | apply Drawn0.step)⟩
end Go.Proofs.YtifhmdlgjojodaaDoor.Q
end
section
namespace Go.Proofs.YtifhmdlgjojodaaDoor.Q
open Go.RowKit Go.Proofs.YtifhmdlgjojodaaDoorW.PrintWords Go.Proofs.YtifhmdlgjojodaaDoorW.PrintLast Go.Proofs.YtifhmdlgjojodaaDoorW.PrintMore
attribute [local go_sem] max2_int min2_int max_two min_two max_three min_three max_four min_four
attribute [local go_sem ↓] isSome_setCell
set_option linter.unusedVariables false
set_option linter.unusedSimpArgs false
def tapearchivelaw28_gap.f (a0 : Int) : Option (ByteArray) := if (Int.tmod a0 5) = 0 then (some (⟨#[32]⟩ : ByteArray)) else (if (Int.tmod a0 5) = 1 then (some (⟨#[10]⟩ : ByteArray)) else (if (Int.tmod a0 5) = 2 then (some (⟨#[35, 32, 97, 32, 99, 111, 109, 109, 101, 110, 116, 59, 32, 34, 10]⟩ : ByteArray)) else (if (Int.tmod a0 5) = 3 then (some (⟨#[32, 32, 10, 10, 32]⟩ : ByteArray)) else (some (⟨#[32, 35, 10, 35, 120, 10, 32]⟩ : ByteArray)))))
set_option maxHeartbeats 8000000 in
set_option maxRecDepth 100000 in
theorem tapearchivelaw28_gap.calls (a0 : Int) (r : ByteArray) (w : World) (h : tapearchivelaw28_gap.f a0 = some r) :
    Calls Tryd.prog 20 #[.int .u8 a0] w fun e w' => e = .returned (.string r) ∧ Drawn0 w w' := by
  have H : (if (Int.tmod a0 5) = 0 then (some (⟨#[32]⟩ : ByteArray)) else (if (Int.tmod a0 5) = 1 then (some (⟨#[10]⟩ : ByteArray)) else (if (Int.tmod a0 5) = 2 then (some (⟨#[35, 32, 97, 32, 99, 111, 109, 109, 101, 110, 116, 59, 32, 34, 10]⟩ : ByteArray)) else (if (Int.tmod a0 5) = 3 then (some (⟨#[32, 32, 10, 10, 32]⟩ : ByteArray)) else (some (⟨#[32, 35, 10, 35, 120, 10, 32]⟩ : ByteArray)))))) = some r := h
  clear h
  by_cases c2 : (Int.tmod a0 5) = 0
  · rw [if_pos c2] at H
    have c2b0 : ((Int.tmod a0 5) == 0) = true := beq_iff_eq.mpr c2
    have c2b1 : ((Int.tmod a0 5) != 0) = false := bne_eq_false_iff_eq.mpr c2
    clear c2
    obtain rfl := Option.some.inj H
    go_enter Tryd.func20, Tryd.ntmps20
    go_wp2
    go_ret
    exact ⟨by first | rfl | (simp; done) | (simp [*]; done), by repeat (first | exact Drawn0.refl _ | apply Drawn0.step)⟩
  · rw [if_neg c2] at H
    have c2b0 : ((Int.tmod a0 5) == 0) = false := beq_eq_false_iff_ne.mpr c2
    have c2b1 : ((Int.tmod a0 5) != 0) = true := bne_iff_ne.mpr c2
    by_cases c3 : (Int.tmod a0 5) = 1
    · rw [if_pos c3] at H
      have c3b0 : ((Int.tmod a0 5) == 1) = true := beq_iff_eq.mpr c3
      have c3b1 : ((Int.tmod a0 5) != 1) = false := bne_eq_false_iff_eq.mpr c3
      clear c3
      obtain rfl := Option.some.inj H
      go_enter Tryd.func20, Tryd.ntmps20
      go_wp2
      go_ret
      exact ⟨by first | rfl | (simp; done) | (simp [*]; done), by repeat (first | exact Drawn0.refl _ | apply Drawn0.step)⟩
    · rw [if_neg c3] at H
      have c3b0 : ((Int.tmod a0 5) == 1) = false := beq_eq_false_iff_ne.mpr c3
      have c3b1 : ((Int.tmod a0 5) != 1) = true := bne_iff_ne.mpr c3
      by_cases c4 : (Int.tmod a0 5) = 2
      · rw [if_pos c4] at H
        have c4b0 : ((Int.tmod a0 5) == 2) = true := beq_iff_eq.mpr c4
        have c4b1 : ((Int.tmod a0 5) != 2) = false := bne_eq_false_iff_eq.mpr c4
        clear c4
        obtain rfl := Option.some.inj H
        go_enter Tryd.func20, Tryd.ntmps20
        go_wp2
        go_ret
        exact ⟨by first | rfl | (simp; done) | (simp [*]; done), by repeat (first | exact Drawn0.refl _ | apply Drawn0.step)⟩
      · rw [if_neg c4] at H
        have c4b0 : ((Int.tmod a0 5) == 2) = false := beq_eq_false_iff_ne.mpr c4
        have c4b1 : ((Int.tmod a0 5) != 2) = true := bne_iff_ne.mpr c4
        by_cases c5 : (Int.tmod a0 5) = 3
        · rw [if_pos c5] at H
          have c5b0 : ((Int.tmod a0 5) == 3) = true := beq_iff_eq.mpr c5
          have c5b1 : ((Int.tmod a0 5) != 3) = false := bne_eq_false_iff_eq.mpr c5
          clear c5
          obtain rfl := Option.some.inj H
          go_enter Tryd.func20, Tryd.ntmps20
          go_wp2
          go_ret
          exact ⟨by first | rfl | (simp; done) | (simp [*]; done), by repeat (first | exact Drawn0.refl _ | apply Drawn0.step)⟩
        · rw [if_neg c5] at H
          have c5b0 : ((Int.tmod a0 5) == 3) = false := beq_eq_false_iff_ne.mpr c5
          have c5b1 : ((Int.tmod a0 5) != 3) = true := bne_iff_ne.mpr c5
          obtain rfl := Option.some.inj H
          go_enter Tryd.func20, Tryd.ntmps20
          go_wp2
          go_ret
          exact ⟨by first | rfl | (simp; done) | (simp [*]; done), by repeat (first | exact Drawn0.refl _ | apply Drawn0.step)⟩
end Go.Proofs.YtifhmdlgjojodaaDoor.Q
end
section
namespace Go.Proofs.YtifhmdlgjojodaaDoor.Q
open Go.RowKit Go.Proofs.YtifhmdlgjojodaaDoorW.PrintWords Go.Proofs.YtifhmdlgjojodaaDoorW.PrintLast Go.Proofs.YtifhmdlgjojodaaDoorW.PrintMore
attribute [local go_sem] max2_int min2_int max_two min_two max_three min_three max_four min_four
attribute [local go_sem ↓] isSome_setCell
set_option linter.unusedVariables false
set_option linter.unusedSimpArgs false
mutual
def tapearchivelaw28_LexerSeparators.j0 : Nat → List (S36) → List Int → Bool → Option (Bool)
  | 0, _, _, _ => none
  | k + 1, x0, x1, x32 => if x32 = true then (some true) else (if 0 < (x1.length : Int) then ((tapearchivelaw28_gap.f (rd x1 0)).bind fun t286 => (tapearchivelaw28_LexerSeparators.l0 k x0 x1 t286 (([] : List Int)) 0)) else (none))
def tapearchivelaw28_LexerSeparators.l0 : Nat → List (S36) → List Int → ByteArray → List Int → Int → Option (Bool)
  | 0, _, _, _, _, _ => none
  | k + 1, x0, x1, x5, x6, x7 => if x7 < (x0.length : Int) then (if (x5.size : Int) > 8192 then (some true) else (if 0 ≤ x7 then (if x7 ≤ (wrap64 (x7 + 1)) then (if (wrap64 (x7 + 1)) ≤ (x0.length : Int) then ((lexer_Text.f k ((x0.take ((wrap64 (x7 + 1)) : Int).toNat).drop (x7 : Int).toNat)).bind fun t294 => (if t294.toList = ([] : List UInt8) then (some true) else (if x6.length < 17592186044416 then (if x5.size + t294.size ≤ 9223372036854775807 then (if (x1.length : Int) = 0 then (none) else (if 0 ≤ (Int.tmod (wrap64 (x7 + 1)) (x1.length : Int)) then (if (Int.tmod (wrap64 (x7 + 1)) (x1.length : Int)) < (x1.length : Int) then ((tapearchivelaw28_gap.f (rd x1 (Int.tmod (wrap64 (x7 + 1)) (x1.length : Int)))).bind fun t299 => (if x5.size + t294.size + t299.size ≤ 9223372036854775807 then (tapearchivelaw28_LexerSeparators.l0 k x0 x1 ((x5 ++ t294) ++ t299) (x6 ++ [(x5.size : Int)]) (wrap64 (x7 + 1))) else (none))) else (none)) else (none))) else (none)) else (none)))) else (none)) else (none)) else (none))) else (if (x5.size : Int) > 16384 then (some true) else ((lexer_Tokens.f k x5).bind fun bt300 => (if bt300.2.2 = 0 then ((tapearchiveref28_Same.f k x0 bt300.1 false).bind fun t305 => (tapearchivelaw28_LexerSeparators.j2 k x6 bt300.1 (!t305))) else (tapearchivelaw28_LexerSeparators.j2 k x6 bt300.1 true))))
def tapearchivelaw28_LexerSeparators.j2 : Nat → List Int → List (S36) → Bool → Option (Bool)
  | 0, _, _, _ => none
  | k + 1, x6, x9, x89 => if x89 = true then (some false) else (tapearchivelaw28_LexerSeparators.l1 k x6 x9 0)
def tapearchivelaw28_LexerSeparators.l1 : Nat → List Int → List (S36) → Int → Option (Bool)
  | 0, _, _, _ => none
  | k + 1, x6, x9, x12 => if x12 < (x9.length : Int) then (if 0 ≤ x12 then (if x12 < (x6.length : Int) then (if ((rd_T36 x9 x12).f3) = (rd x6 x12) then (tapearchivelaw28_LexerSeparators.l1 k x6 x9 (wrap64 (x12 + 1))) else (some false)) else (none)) else (none)) else (some true)
end
def tapearchivelaw28_LexerSeparators.f (k : Nat) (l0 : List (S36)) (l1 : List Int) : Option (Bool) := (tapearchivelaw28_lives.f k).bind fun t283 => (if t283 = true then ((tapearchivelaw28_small.f k l0).bind fun t284 => (if t284 = true then (if (l1.length : Int) = 0 then (tapearchivelaw28_LexerSeparators.j0 k l0 l1 true) else (if (l1.length : Int) > 100 then (tapearchivelaw28_LexerSeparators.j0 k l0 l1 true) else (tapearchivelaw28_LexerSeparators.j0 k l0 l1 (decide ((l0.length : Int) > 200))))) else (tapearchivelaw28_LexerSeparators.j0 k l0 l1 true))) else (some false))
set_option maxHeartbeats 8000000 in
set_option maxRecDepth 100000 in
theorem tapearchivelaw28_LexerSeparators.calls (k : Nat) (A0 : Option Addr) (c0 : Nat) (l0 : List (S36)) (A1 : Option Addr) (c1 : Nat) (l1 : List Int) (r : Bool) (w : World) (hG : Go.Proofs.YtifhmdlgjojodaaDoorX.Glob w) (hr0 : Kd.C k36 w A0 l0.length l0) (hc0 : l0.length ≤ c0) (hr1 : Kd.C (Kd.int .u8) w A1 l1.length l1) (hc1 : l1.length ≤ c1) (h : tapearchivelaw28_LexerSeparators.f k l0 l1 = some r) :
    Calls Tryd.prog 6 #[.slice A0 l0.length c0, .slice A1 l1.length c1] w fun e w' => e = .returned (.bool r) ∧ Below w.heap.size w w' := by
  have HR0 := Aside0.mk hr0
  have HC0 := Aside0.mk hc0
  clear hr0 hc0
  have HR1 := Aside0.mk hr1
  have HC1 := Aside0.mk hc1
  clear hr1 hc1
  have HB := Aside0.mk (Below.refl w.heap.size w)
  have H : ((tapearchivelaw28_lives.f k).bind fun t283 => (if t283 = true then ((tapearchivelaw28_small.f k l0).bind fun t284 => (if t284 = true then (if (l1.length : Int) = 0 then (tapearchivelaw28_LexerSeparators.j0 k l0 l1 true) else (if (l1.length : Int) > 100 then (tapearchivelaw28_LexerSeparators.j0 k l0 l1 true) else (tapearchivelaw28_LexerSeparators.j0 k l0 l1 (decide ((l0.length : Int) > 200))))) else (tapearchivelaw28_LexerSeparators.j0 k l0 l1 true))) else (some false))) = some r := h
  clear h
  replace H := Option.bind_eq_some_iff.mp H
  obtain ⟨t283, A30, H⟩ := H
  replace H : (if t283 = true then ((tapearchivelaw28_small.f k l0).bind fun t284 => (if t284 = true then (if (l1.length : Int) = 0 then (tapearchivelaw28_LexerSeparators.j0 k l0 l1 true) else (if (l1.length : Int) > 100 then (tapearchivelaw28_LexerSeparators.j0 k l0 l1 true) else (tapearchivelaw28_LexerSeparators.j0 k l0 l1 (decide ((l0.length : Int) > 200))))) else (tapearchivelaw28_LexerSeparators.j0 k l0 l1 true))) else (some false)) = some r := H
  have A3 := Aside0.mk A30
  clear A30
  by_cases c4 : t283 = true
  · subst c4
    have H1 : ((tapearchivelaw28_small.f k l0).bind fun t284 => (if t284 = true then (if (l1.length : Int) = 0 then (tapearchivelaw28_LexerSeparators.j0 k l0 l1 true) else (if (l1.length : Int) > 100 then (tapearchivelaw28_LexerSeparators.j0 k l0 l1 true) else (tapearchivelaw28_LexerSeparators.j0 k l0 l1 (decide ((l0.length : Int) > 200))))) else (tapearchivelaw28_LexerSeparators.j0 k l0 l1 true))) = some r := by rw [if_pos rfl] at H; exact H
    clear H
    have H := H1
    clear H1
    have HC5 := Aside0.mk H
    clear H
    go_enter Tryd.func6, Tryd.ntmps6
    go_upto_region 3 with (first | (go_at_call 9; (with_reducible refine (tapearchivelaw28_lives.calls k  true _ ?side1 A3.out).mono ?_); (case side1 => exact Go.Proofs.YtifhmdlgjojodaaDoorX.Glob.below hG (by repeat (first | (with_reducible first | exact HB.out | apply below_alloc | apply pw_below_drewN | apply below_drew1) | exact HB.out))); rintro e w6 ⟨rfl, hb⟩; have n0_ := Aside0.mk (below_step (by repeat (first | (with_reducible first | exact HB.out | apply below_alloc | apply pw_below_drewN | apply below_drew1) | exact HB.out)) hb); clear HB; have HB := n0_; clear n0_; (try clear hb); (try clear hb2); (try clear hk); (try clear hi)))
    repeat (go_quiet (first | (go_at_call 9; (with_reducible refine (tapearchivelaw28_lives.calls k  true _ ?side1 A3.out).mono ?_); (case side1 => exact Go.Proofs.YtifhmdlgjojodaaDoorX.Glob.below hG (by repeat (first | (with_reducible first | exact HB.out | apply below_alloc | apply pw_below_drewN | apply below_drew1) | exact HB.out))); rintro e w6 ⟨rfl, hb⟩; have n0_ := Aside0.mk (below_step (by repeat (first | (with_reducible first | exact HB.out | apply below_alloc | apply pw_below_drewN | apply below_drew1) | exact HB.out)) hb); clear HB; have HB := n0_; clear n0_; (try clear hb); (try clear hb2); (try clear hk); (try clear hi))); go_upto_region 3 with (first | (go_at_call 9; (with_reducible refine (tapearchivelaw28_lives.calls k  true _ ?side1 A3.out).mono ?_); (case side1 => exact Go.Proofs.YtifhmdlgjojodaaDoorX.Glob.below hG (by repeat (first | (with_reducible first | exact HB.out | apply below_alloc | apply pw_below_drewN | apply below_drew1) | exact HB.out))); rintro e w6 ⟨rfl, hb⟩; have n0_ := Aside0.mk (below_step (by repeat (first | (with_reducible first | exact HB.out | apply below_alloc | apply pw_below_drewN | apply below_drew1) | exact HB.out)) hb); clear HB; have HB := n0_; clear n0_; (try clear hb); (try clear hb2); (try clear hk); (try clear hi))))
    (try simp only [Act.put, List.setIfInBounds_toArray, List.set_cons_zero, List.set_cons_succ])
    go_cut [32] (fun v32 wc => ∃ (kq : Nat) (x32_4 : Bool), v32 = .bool x32_4 ∧ Aside0 (tapearchivelaw28_LexerSeparators.j0 kq l0 l1 x32_4 = some r) ∧ Aside0 (kq ≤ k) ∧ Aside0 (Below w.heap.size w wc))
    case first =>
      have H := HC5.out
      clear HC5
      replace H := Option.bind_eq_some_iff.mp H
      obtain ⟨t284, A70, H⟩ := H
      replace H : (if t284 = true then (if (l1.length : Int) = 0 then (tapearchivelaw28_LexerSeparators.j0 k l0 l1 true) else (if (l1.length : Int) > 100 then (tapearchivelaw28_LexerSeparators.j0 k l0 l1 true) else (tapearchivelaw28_LexerSeparators.j0 k l0 l1 (decide ((l0.length : Int) > 200))))) else (tapearchivelaw28_LexerSeparators.j0 k l0 l1 true)) = some r := H
      have A7 := Aside0.mk A70
      clear A70
      by_cases c8 : t284 = true
      · subst c8
        have H1 : (if (l1.length : Int) = 0 then (tapearchivelaw28_LexerSeparators.j0 k l0 l1 true) else (if (l1.length : Int) > 100 then (tapearchivelaw28_LexerSeparators.j0 k l0 l1 true) else (tapearchivelaw28_LexerSeparators.j0 k l0 l1 (decide ((l0.length : Int) > 200))))) = some r := by rw [if_pos rfl] at H; exact H
        clear H
        have H := H1
        clear H1
        by_cases c9 : (l1.length : Int) = 0
        · rw [if_pos c9] at H
          have c9b0 : ((l1.length : Int) == 0) = true := beq_iff_eq.mpr c9
          have c9b1 : ((l1.length : Int) != 0) = false := bne_eq_false_iff_eq.mpr c9
          clear c9
          (first | rw [c9b0] | (simp only [i64_w, i32_w]; rw [c9b0]) | rw [c9b2] | skip)
          have H' := Aside0.mk H
          clear H
          go_wp2_with (first | (go_at_call 13; (with_reducible refine (tapearchivelaw28_small.calls k _ _ l0 true _ ?side1 ?side2 A7.out).mono ?_); (case side1 => repeat (first | exact (Kd.C_below HR0.out HB.out) | (with_reducible refine Kd.C_alloc ?_ _) | (with_reducible refine Kd.C_drewN ?_ _) | (with_reducible refine Kd.C_drew ?_))); (case side2 => exact HC0.out); rintro e w' ⟨rfl, ⟨nd, rfl⟩⟩; (try first | exact ⟨rfl, _, World.drewN_drewN _ _ _⟩ | exact ⟨rfl, _, Eq.trans (World.drewN_drewN _ _ _) (congrArg (World.drewN _) (Nat.add_assoc _ _ _))⟩)))
          repeat (go_quiet (first | (go_at_call 13; (with_reducible refine (tapearchivelaw28_small.calls k _ _ l0 true _ ?side1 ?side2 A7.out).mono ?_); (case side1 => repeat (first | exact (Kd.C_below HR0.out HB.out) | (with_reducible refine Kd.C_alloc ?_ _) | (with_reducible refine Kd.C_drewN ?_ _) | (with_reducible refine Kd.C_drew ?_))); (case side2 => exact HC0.out); rintro e w' ⟨rfl, ⟨nd, rfl⟩⟩; (try first | exact ⟨rfl, _, World.drewN_drewN _ _ _⟩ | exact ⟨rfl, _, Eq.trans (World.drewN_drewN _ _ _) (congrArg (World.drewN _) (Nat.add_assoc _ _ _))⟩))); try go_wp2_with (first | (go_at_call 13; (with_reducible refine (tapearchivelaw28_small.calls k _ _ l0 true _ ?side1 ?side2 A7.out).mono ?_); (case side1 => repeat (first | exact (Kd.C_below HR0.out HB.out) | (with_reducible refine Kd.C_alloc ?_ _) | (with_reducible refine Kd.C_drewN ?_ _) | (with_reducible refine Kd.C_drew ?_))); (case side2 => exact HC0.out); rintro e w' ⟨rfl, ⟨nd, rfl⟩⟩; (try first | exact ⟨rfl, _, World.drewN_drewN _ _ _⟩ | exact ⟨rfl, _, Eq.trans (World.drewN_drewN _ _ _) (congrArg (World.drewN _) (Nat.add_assoc _ _ _))⟩))))
          go_meet
          case rel => exact ⟨_, (true), (by first | rfl | (simp; done) | (simp [*]; done)), H', ⟨by first | omega | exact Nat.le_refl _⟩, ⟨by repeat (first | (with_reducible first | exact HB.out | apply below_alloc | apply pw_below_drewN | apply below_drew1) | exact HB.out)⟩⟩
        · rw [if_neg c9] at H
          have c9b0 : ((l1.length : Int) == 0) = false := beq_eq_false_iff_ne.mpr c9
          have c9b1 : ((l1.length : Int) != 0) = true := bne_iff_ne.mpr c9
          have c9b2 : ¬ (l1 = []) := fun h_ => c9 (by rw [h_]; rfl)
          (first | rw [c9b0] | (simp only [i64_w, i32_w]; rw [c9b0]) | rw [c9b2] | skip)
          by_cases c10 : (l1.length : Int) > 100
          · rw [if_pos c10] at H
            have c10b0 : decide (100 < (l1.length : Int)) = true := decide_eq_true c10
            have c10b1 : decide (100 < l1.length) = true := decide_eq_true (by omega)
            clear c10
            have H' := Aside0.mk H
            clear H
            go_wp2_with (first | (go_at_call 13; (with_reducible refine (tapearchivelaw28_small.calls k _ _ l0 true _ ?side1 ?side2 A7.out).mono ?_); (case side1 => repeat (first | exact (Kd.C_below HR0.out HB.out) | (with_reducible refine Kd.C_alloc ?_ _) | (with_reducible refine Kd.C_drewN ?_ _) | (with_reducible refine Kd.C_drew ?_))); (case side2 => exact HC0.out); rintro e w' ⟨rfl, ⟨nd, rfl⟩⟩; (try first | exact ⟨rfl, _, World.drewN_drewN _ _ _⟩ | exact ⟨rfl, _, Eq.trans (World.drewN_drewN _ _ _) (congrArg (World.drewN _) (Nat.add_assoc _ _ _))⟩)))
            repeat (go_quiet (first | (go_at_call 13; (with_reducible refine (tapearchivelaw28_small.calls k _ _ l0 true _ ?side1 ?side2 A7.out).mono ?_); (case side1 => repeat (first | exact (Kd.C_below HR0.out HB.out) | (with_reducible refine Kd.C_alloc ?_ _) | (with_reducible refine Kd.C_drewN ?_ _) | (with_reducible refine Kd.C_drew ?_))); (case side2 => exact HC0.out); rintro e w' ⟨rfl, ⟨nd, rfl⟩⟩; (try first | exact ⟨rfl, _, World.drewN_drewN _ _ _⟩ | exact ⟨rfl, _, Eq.trans (World.drewN_drewN _ _ _) (congrArg (World.drewN _) (Nat.add_assoc _ _ _))⟩))); try go_wp2_with (first | (go_at_call 13; (with_reducible refine (tapearchivelaw28_small.calls k _ _ l0 true _ ?side1 ?side2 A7.out).mono ?_); (case side1 => repeat (first | exact (Kd.C_below HR0.out HB.out) | (with_reducible refine Kd.C_alloc ?_ _) | (with_reducible refine Kd.C_drewN ?_ _) | (with_reducible refine Kd.C_drew ?_))); (case side2 => exact HC0.out); rintro e w' ⟨rfl, ⟨nd, rfl⟩⟩; (try first | exact ⟨rfl, _, World.drewN_drewN _ _ _⟩ | exact ⟨rfl, _, Eq.trans (World.drewN_drewN _ _ _) (congrArg (World.drewN _) (Nat.add_assoc _ _ _))⟩))))
            go_meet
            case rel => exact ⟨_, (true), (by first | rfl | (simp; done) | (simp [*]; done)), H', ⟨by first | omega | exact Nat.le_refl _⟩, ⟨by repeat (first | (with_reducible first | exact HB.out | apply below_alloc | apply pw_below_drewN | apply below_drew1) | exact HB.out)⟩⟩
          · rw [if_neg c10] at H
            have c10b0 : decide (100 < (l1.length : Int)) = false := decide_eq_false c10
            have c10b1 : decide (100 < l1.length) = false := decide_eq_false (by omega)
            clear c10
            have H' := Aside0.mk H
            clear H
            go_wp2_with (first | (go_at_call 13; (with_reducible refine (tapearchivelaw28_small.calls k _ _ l0 true _ ?side1 ?side2 A7.out).mono ?_); (case side1 => repeat (first | exact (Kd.C_below HR0.out HB.out) | (with_reducible refine Kd.C_alloc ?_ _) | (with_reducible refine Kd.C_drewN ?_ _) | (with_reducible refine Kd.C_drew ?_))); (case side2 => exact HC0.out); rintro e w' ⟨rfl, ⟨nd, rfl⟩⟩; (try first | exact ⟨rfl, _, World.drewN_drewN _ _ _⟩ | exact ⟨rfl, _, Eq.trans (World.drewN_drewN _ _ _) (congrArg (World.drewN _) (Nat.add_assoc _ _ _))⟩)))
            repeat (go_quiet (first | (go_at_call 13; (with_reducible refine (tapearchivelaw28_small.calls k _ _ l0 true _ ?side1 ?side2 A7.out).mono ?_); (case side1 => repeat (first | exact (Kd.C_below HR0.out HB.out) | (with_reducible refine Kd.C_alloc ?_ _) | (with_reducible refine Kd.C_drewN ?_ _) | (with_reducible refine Kd.C_drew ?_))); (case side2 => exact HC0.out); rintro e w' ⟨rfl, ⟨nd, rfl⟩⟩; (try first | exact ⟨rfl, _, World.drewN_drewN _ _ _⟩ | exact ⟨rfl, _, Eq.trans (World.drewN_drewN _ _ _) (congrArg (World.drewN _) (Nat.add_assoc _ _ _))⟩))); try go_wp2_with (first | (go_at_call 13; (with_reducible refine (tapearchivelaw28_small.calls k _ _ l0 true _ ?side1 ?side2 A7.out).mono ?_); (case side1 => repeat (first | exact (Kd.C_below HR0.out HB.out) | (with_reducible refine Kd.C_alloc ?_ _) | (with_reducible refine Kd.C_drewN ?_ _) | (with_reducible refine Kd.C_drew ?_))); (case side2 => exact HC0.out); rintro e w' ⟨rfl, ⟨nd, rfl⟩⟩; (try first | exact ⟨rfl, _, World.drewN_drewN _ _ _⟩ | exact ⟨rfl, _, Eq.trans (World.drewN_drewN _ _ _) (congrArg (World.drewN _) (Nat.add_assoc _ _ _))⟩))))
            go_meet
            case rel => exact ⟨_, (decide ((l0.length : Int) > 200)), (by first | rfl | (simp; done) | (simp [*]; done)), H', ⟨by first | omega | exact Nat.le_refl _⟩, ⟨by repeat (first | (with_reducible first | exact HB.out | apply below_alloc | apply pw_below_drewN | apply below_drew1) | exact HB.out)⟩⟩
      · replace c8 := Bool.eq_false_iff.mpr c8
        subst c8
        have H1 : (tapearchivelaw28_LexerSeparators.j0 k l0 l1 true) = some r := by rw [if_neg (show ¬ (false = true) by decide)] at H; exact H
        clear H
        have H := H1
        clear H1
        have H' := Aside0.mk H
        clear H
        go_wp2_with (first | (go_at_call 13; (with_reducible refine (tapearchivelaw28_small.calls k _ _ l0 false _ ?side1 ?side2 A7.out).mono ?_); (case side1 => repeat (first | exact (Kd.C_below HR0.out HB.out) | (with_reducible refine Kd.C_alloc ?_ _) | (with_reducible refine Kd.C_drewN ?_ _) | (with_reducible refine Kd.C_drew ?_))); (case side2 => exact HC0.out); rintro e w' ⟨rfl, ⟨nd, rfl⟩⟩; (try first | exact ⟨rfl, _, World.drewN_drewN _ _ _⟩ | exact ⟨rfl, _, Eq.trans (World.drewN_drewN _ _ _) (congrArg (World.drewN _) (Nat.add_assoc _ _ _))⟩)))
        repeat (go_quiet (first | (go_at_call 13; (with_reducible refine (tapearchivelaw28_small.calls k _ _ l0 false _ ?side1 ?side2 A7.out).mono ?_); (case side1 => repeat (first | exact (Kd.C_below HR0.out HB.out) | (with_reducible refine Kd.C_alloc ?_ _) | (with_reducible refine Kd.C_drewN ?_ _) | (with_reducible refine Kd.C_drew ?_))); (case side2 => exact HC0.out); rintro e w' ⟨rfl, ⟨nd, rfl⟩⟩; (try first | exact ⟨rfl, _, World.drewN_drewN _ _ _⟩ | exact ⟨rfl, _, Eq.trans (World.drewN_drewN _ _ _) (congrArg (World.drewN _) (Nat.add_assoc _ _ _))⟩))); try go_wp2_with (first | (go_at_call 13; (with_reducible refine (tapearchivelaw28_small.calls k _ _ l0 false _ ?side1 ?side2 A7.out).mono ?_); (case side1 => repeat (first | exact (Kd.C_below HR0.out HB.out) | (with_reducible refine Kd.C_alloc ?_ _) | (with_reducible refine Kd.C_drewN ?_ _) | (with_reducible refine Kd.C_drew ?_))); (case side2 => exact HC0.out); rintro e w' ⟨rfl, ⟨nd, rfl⟩⟩; (try first | exact ⟨rfl, _, World.drewN_drewN _ _ _⟩ | exact ⟨rfl, _, Eq.trans (World.drewN_drewN _ _ _) (congrArg (World.drewN _) (Nat.add_assoc _ _ _))⟩))))
        go_meet
        case rel => exact ⟨_, (true), (by first | rfl | (simp; done) | (simp [*]; done)), H', ⟨by first | omega | exact Nat.le_refl _⟩, ⟨by repeat (first | (with_reducible first | exact HB.out | apply below_alloc | apply pw_below_drewN | apply below_drew1) | exact HB.out)⟩⟩
    case rest =>
      clear HC5
      try clear c1
      try clear p2
      try clear c4
      try clear c6
      try clear c8
      try clear c9
      try clear c9b0
      try clear c9b1
      try clear c9b2
      try clear c10
      try clear c10b0
      try clear c10b1
      obtain ⟨kq, x32_4, rfl, HA, HJ4, HB⟩ := hcut
      cases kq with
      | zero => exact absurd HA.out (by simp [tapearchivelaw28_LexerSeparators.j0])
      | succ kj4 =>
        have H := HA.out
        clear HA
        simp only [tapearchivelaw28_LexerSeparators.j0] at H
        by_cases c11 : x32_4 = true
        · subst c11
          have H1 : (some true) = some r := by rw [if_pos rfl] at H; exact H
          clear H
          have H := H1
          clear H1
          obtain rfl := Option.some.inj H
          go_wp2
          repeat (go_quiet (fail); try go_wp2)
          go_ret
          exact ⟨by first | rfl | (simp [errW_none, errW_some] <;> rfl) | (simp [*, errW_none, errW_some] <;> rfl), by repeat (first | (with_reducible first | exact HB.out | apply below_alloc | apply pw_below_drewN | apply below_drew1) | exact HB.out)⟩
        · replace c11 := Bool.eq_false_iff.mpr c11
          subst c11
          have H1 : (if 0 < (l1.length : Int) then ((tapearchivelaw28_gap.f (rd l1 0)).bind fun t286 => (tapearchivelaw28_LexerSeparators.l0 kj4 l0 l1 t286 (([] : List Int)) 0)) else (none)) = some r := by rw [if_neg (show ¬ (false = true) by decide)] at H; exact H
          clear H
          have H := H1
          clear H1
          by_cases c12 : 0 < (l1.length : Int)
          · rw [if_pos c12] at H
            have c12b0 : decide (0 < (l1.length : Int)) = true := decide_eq_true c12
            have c12b1 : decide (0 < l1.length) = true := decide_eq_true (by omega)
            clear c12
            replace H := Option.bind_eq_some_iff.mp H
            obtain ⟨t286, A130, H⟩ := H
            replace H : (tapearchivelaw28_LexerSeparators.l0 kj4 l0 l1 t286 (([] : List Int)) 0) = some r := H
            have A13 := Aside0.mk A130
            clear A130
            obtain ⟨y287, hy287⟩ : ∃ y_ : List Int, y_ = (([] : List Int)) := ⟨_, rfl⟩
            replace H : (tapearchivelaw28_LexerSeparators.l0 kj4 l0 l1 t286 y287 0) = some r := by first | (rw [hy287]; with_reducible exact H) | (have H2_ := (Option.bind_some _ _).symm.trans H; rw [hy287]; with_reducible exact H2_) | (have H2_ := (Option.bind_some _ _).symm.trans H; with_reducible exact H2_) | with_reducible exact H | (rw [hy287]; exact H) | exact H
            have Ny287 := Aside0.mk hy287
            clear hy287
            have H' := Aside0.mk H
            clear H
            have p285 : 0 ≤ (0 : Int) := (by omega)
            have q285 : 0 < (l1.length : Int) := of_decide_eq_true (by first | (with_reducible assumption) | assumption)
            obtain ⟨ad285, e285, hx285_0⟩ := Kd.at_int HR1.out 0 p285 q285
            cases e285
            have qi285 : (0 < l1.length) = True := eq_true (by omega)
            (try rw [show ((0 : Int)).toNat = 0 from rfl] at hx285_0)
            (try rw [Addr.add_zero'] at hx285_0)
            replace hx285_0 := (HB.out.cell (World.block_lt_of_cell? w _ hx285_0)).trans hx285_0
            replace p285 := eq_true p285
            replace q285 := eq_true q285
            go_wp2_with (first | (go_at_call 20; (with_reducible refine (tapearchivelaw28_gap.calls (rd l1 0) t286 _ A13.out).mono ?_); rintro e w' ⟨rfl, ⟨nd, rfl⟩⟩; (try first | exact ⟨rfl, _, World.drewN_drewN _ _ _⟩ | exact ⟨rfl, _, Eq.trans (World.drewN_drewN _ _ _) (congrArg (World.drewN _) (Nat.add_assoc _ _ _))⟩)) | ((with_reducible refine gate_dst (N := 37) rfl ?_); (try (refine gate_guard (by rfl) ?_; dsimp only)); refine Kd.R_lit (Kd.int .i64) _ 3 ?hg (N := 37) ?hd (xs := ([] : List Int)) (inner := []) (ok := fun _ => True) (okp := fun _ => True) ?hr ?hp (fun _ hk => hk) trivial (Below.refl _ _) (Nat.le_refl _) (by simp) ?_; (case hd => rfl); (case hg => rfl); (case hr => first | (go_simp; done) | (go_simp; rfl)); (case hp => exact (Reps.none _ _)); intro v288 w14 ho15 hb hg_ hnew_; clear hg_ hnew_; (first | rw [← Ny287.out] at ho15 | (simp only [Int.reduceToNat] at ho15; rw [← Ny287.out] at ho15)); have n0_ := Aside0.mk (Kd.R_lower ho15 (below_size (by repeat (first | (with_reducible first | exact HB.out | apply below_alloc | apply pw_below_drewN | apply below_drew1) | exact HB.out)))); have n1_ := Aside0.mk (below_step (by repeat (first | (with_reducible first | exact HB.out | apply below_alloc | apply pw_below_drewN | apply below_drew1) | exact HB.out)) hb); clear HB; have HO289 := n0_; have HB := n1_; clear n0_ n1_; clear hb ho15))
            repeat (go_quiet (first | (go_at_call 20; (with_reducible refine (tapearchivelaw28_gap.calls (rd l1 0) t286 _ A13.out).mono ?_); rintro e w' ⟨rfl, ⟨nd, rfl⟩⟩; (try first | exact ⟨rfl, _, World.drewN_drewN _ _ _⟩ | exact ⟨rfl, _, Eq.trans (World.drewN_drewN _ _ _) (congrArg (World.drewN _) (Nat.add_assoc _ _ _))⟩)) | ((with_reducible refine gate_dst (N := 37) rfl ?_); (try (refine gate_guard (by rfl) ?_; dsimp only)); refine Kd.R_lit (Kd.int .i64) _ 3 ?hg (N := 37) ?hd (xs := ([] : List Int)) (inner := []) (ok := fun _ => True) (okp := fun _ => True) ?hr ?hp (fun _ hk => hk) trivial (Below.refl _ _) (Nat.le_refl _) (by simp) ?_; (case hd => rfl); (case hg => rfl); (case hr => first | (go_simp; done) | (go_simp; rfl)); (case hp => exact (Reps.none _ _)); intro v288 w14 ho15 hb hg_ hnew_; clear hg_ hnew_; (first | rw [← Ny287.out] at ho15 | (simp only [Int.reduceToNat] at ho15; rw [← Ny287.out] at ho15)); have n0_ := Aside0.mk (Kd.R_lower ho15 (below_size (by repeat (first | (with_reducible first | exact HB.out | apply below_alloc | apply pw_below_drewN | apply below_drew1) | exact HB.out)))); have n1_ := Aside0.mk (below_step (by repeat (first | (with_reducible first | exact HB.out | apply below_alloc | apply pw_below_drewN | apply below_drew1) | exact HB.out)) hb); clear HB; have HO289 := n0_; have HB := n1_; clear n0_ n1_; clear hb ho15)); try go_wp2_with (first | (go_at_call 20; (with_reducible refine (tapearchivelaw28_gap.calls (rd l1 0) t286 _ A13.out).mono ?_); rintro e w' ⟨rfl, ⟨nd, rfl⟩⟩; (try first | exact ⟨rfl, _, World.drewN_drewN _ _ _⟩ | exact ⟨rfl, _, Eq.trans (World.drewN_drewN _ _ _) (congrArg (World.drewN _) (Nat.add_assoc _ _ _))⟩)) | ((with_reducible refine gate_dst (N := 37) rfl ?_); (try (refine gate_guard (by rfl) ?_; dsimp only)); refine Kd.R_lit (Kd.int .i64) _ 3 ?hg (N := 37) ?hd (xs := ([] : List Int)) (inner := []) (ok := fun _ => True) (okp := fun _ => True) ?hr ?hp (fun _ hk => hk) trivial (Below.refl _ _) (Nat.le_refl _) (by simp) ?_; (case hd => rfl); (case hg => rfl); (case hr => first | (go_simp; done) | (go_simp; rfl)); (case hp => exact (Reps.none _ _)); intro v288 w14 ho15 hb hg_ hnew_; clear hg_ hnew_; (first | rw [← Ny287.out] at ho15 | (simp only [Int.reduceToNat] at ho15; rw [← Ny287.out] at ho15)); have n0_ := Aside0.mk (Kd.R_lower ho15 (below_size (by repeat (first | (with_reducible first | exact HB.out | apply below_alloc | apply pw_below_drewN | apply below_drew1) | exact HB.out)))); have n1_ := Aside0.mk (below_step (by repeat (first | (with_reducible first | exact HB.out | apply below_alloc | apply pw_below_drewN | apply below_drew1) | exact HB.out)) hb); clear HB; have HO289 := n0_; have HB := n1_; clear n0_ n1_; clear hb ho15)))
            go_loopg [5, 6, 7] kj4 (fun kq v5 v6 v7 w' => ∃ (x5_2 : ByteArray) (x6_2 : List Int) (x7_2 : Int), v5 = .string x5_2 ∧ v7 = .int .i64 x7_2 ∧ Aside0 (tapearchivelaw28_LexerSeparators.l0 kq l0 l1 x5_2 x6_2 x7_2 = some r) ∧ Aside0 (kq ≤ kj4) ∧ Aside0 (Kd.R (Kd.int .i64) 3 w' w.heap.size (fun _ => True) v6 x6_2) ∧ Aside0 (Below w.heap.size w w'))
            case atStart => exact ⟨(t286), (y287), (0), (by first | rfl | (simp; done) | (simp [*]; done)), (by first | rfl | (simp; done) | (simp [*]; done)), H', ⟨Nat.le_refl _⟩, ⟨by (with_reducible repeat (first | apply Kd.R_alloc | apply Kd.R_drewN | apply Kd.R_drew)); exact HO289.out⟩, ⟨by repeat (first | (with_reducible first | exact HB.out | apply below_alloc | apply pw_below_drewN | apply below_drew1) | exact HB.out)⟩⟩
            case round =>
              clear H'
              try clear c1
              try clear p2
              try clear q2
              try clear hx2
              try clear qi2
              try clear c4
              try clear c6
              try clear c8
              try clear c9
              try clear c9b0
              try clear c9b1
              try clear c9b2
              try clear c10
              try clear c10b0
              try clear c10b1
              try clear c11
              try clear c12
              try clear c12b0
              try clear c12b1
              try clear hx285_0
              try clear p2
              try clear p285
              try clear q285
              obtain ⟨x5_2, x6_2, x7_2, rfl, rfl, HA, HK2, HO_6, HB⟩ := hrel
              cases gk with
              | zero => exact absurd HA.out (by simp [tapearchivelaw28_LexerSeparators.l0])
              | succ k2 =>
                have H := HA.out
                clear HA
                simp only [tapearchivelaw28_LexerSeparators.l0] at H
                by_cases c16 : x7_2 < (l0.length : Int)
                · rw [if_pos c16] at H
                  have c16b0 : decide (x7_2 < (l0.length : Int)) = true := decide_eq_true c16
                  clear c16
                  by_cases c17 : (x5_2.size : Int) > 8192
                  · rw [if_pos c17] at H
                    have c17b0 : decide (8192 < (x5_2.size : Int)) = true := decide_eq_true c17
                    have c17b1 : decide (8192 < x5_2.size) = true := decide_eq_true (by omega)
                    clear c17
                    obtain rfl := Option.some.inj H
                    go_wp2
                    repeat (go_quiet (fail); try go_wp2)
                    go_ret
                    exact ⟨by first | rfl | (simp [errW_none, errW_some] <;> rfl) | (simp [*, errW_none, errW_some] <;> rfl), by repeat (first | (with_reducible first | exact HB.out | apply below_alloc | apply pw_below_drewN | apply below_drew1) | exact HB.out)⟩
                  · rw [if_neg c17] at H
                    have c17b0 : decide (8192 < (x5_2.size : Int)) = false := decide_eq_false c17
                    have c17b1 : decide (8192 < x5_2.size) = false := decide_eq_false (by omega)
                    clear c17
                    by_cases c18 : 0 ≤ x7_2
                    · rw [if_pos c18] at H
                      have c18b0 := eq_true c18
                      have c18b1 : decide (0 ≤ x7_2) = true := decide_eq_true c18
                      clear c18
                      by_cases c19 : x7_2 ≤ (wrap64 (x7_2 + 1))
                      · rw [if_pos c19] at H
                        have c19b0 := eq_true c19
                        have c19b1 : decide (x7_2 ≤ (wrap64 (x7_2 + 1))) = true := decide_eq_true c19
                        by_cases c20 : (wrap64 (x7_2 + 1)) ≤ (l0.length : Int)
                        · rw [if_pos c20] at H
                          have c20b0 := eq_true c20
                          have c20b1 : decide ((wrap64 (x7_2 + 1)) ≤ (l0.length : Int)) = true := decide_eq_true c20
                          obtain ⟨y290, hy290⟩ : ∃ y_ : List (S36), y_ = ((l0.take ((wrap64 (x7_2 + 1)) : Int).toNat).drop (x7_2 : Int).toNat) := ⟨_, rfl⟩
                          replace H : ((lexer_Text.f k2 y290).bind fun t294 => (if t294.toList = ([] : List UInt8) then (some true) else (if x6_2.length < 17592186044416 then (if x5_2.size + t294.size ≤ 9223372036854775807 then (if (l1.length : Int) = 0 then (none) else (if 0 ≤ (Int.tmod (wrap64 (x7_2 + 1)) (l1.length : Int)) then (if (Int.tmod (wrap64 (x7_2 + 1)) (l1.length : Int)) < (l1.length : Int) then ((tapearchivelaw28_gap.f (rd l1 (Int.tmod (wrap64 (x7_2 + 1)) (l1.length : Int)))).bind fun t299 => (if x5_2.size + t294.size + t299.size ≤ 9223372036854775807 then (tapearchivelaw28_LexerSeparators.l0 k2 l0 l1 ((x5_2 ++ t294) ++ t299) (x6_2 ++ [(x5_2.size : Int)]) (wrap64 (x7_2 + 1))) else (none))) else (none)) else (none))) else (none)) else (none)))) = some r := by first | (rw [hy290]; with_reducible exact H) | (have H2_ := (Option.bind_some _ _).symm.trans H; rw [hy290]; with_reducible exact H2_) | (have H2_ := (Option.bind_some _ _).symm.trans H; with_reducible exact H2_) | with_reducible exact H | (rw [hy290]; exact H) | exact H
                          have Ny290 := Aside0.mk hy290
                          clear hy290
                          replace H := Option.bind_eq_some_iff.mp H
                          obtain ⟨t294, A210, H⟩ := H
                          replace H : (if t294.toList = ([] : List UInt8) then (some true) else (if x6_2.length < 17592186044416 then (if x5_2.size + t294.size ≤ 9223372036854775807 then (if (l1.length : Int) = 0 then (none) else (if 0 ≤ (Int.tmod (wrap64 (x7_2 + 1)) (l1.length : Int)) then (if (Int.tmod (wrap64 (x7_2 + 1)) (l1.length : Int)) < (l1.length : Int) then ((tapearchivelaw28_gap.f (rd l1 (Int.tmod (wrap64 (x7_2 + 1)) (l1.length : Int)))).bind fun t299 => (if x5_2.size + t294.size + t299.size ≤ 9223372036854775807 then (tapearchivelaw28_LexerSeparators.l0 k2 l0 l1 ((x5_2 ++ t294) ++ t299) (x6_2 ++ [(x5_2.size : Int)]) (wrap64 (x7_2 + 1))) else (none))) else (none)) else (none))) else (none)) else (none))) = some r := H
                          have A21 := Aside0.mk A210
                          clear A210
                          by_cases c22 : t294.toList = ([] : List UInt8)
                          · rw [if_pos c22] at H
                            have c22b0 : (t294.toList == ([] : List UInt8)) = true := beq_iff_eq.mpr c22
                            have c22b1 : (t294.toList != ([] : List UInt8)) = false := bne_eq_false_iff_eq.mpr c22
                            have c22b2 : t294.toList.isEmpty = true := by rw [c22]; rfl
                            clear c22
                            obtain rfl := Option.some.inj H
                            have q23 : ((wrap64 (x7_2 + 1)) : Int) ≤ ((l0.length : Int) : Int) := of_decide_eq_true (by first | (with_reducible assumption) | assumption)
                            obtain ⟨i023, hi023, _, hsz23, _⟩ := info_parts info36
                            have hroom23 : l0.length ≤ c0 := HC0.out
                            have hC23 : Kd.C k36 _ A0 l0.length l0 := HR0.out
                            have ql23 : (x7_2 : Int) ≤ ((wrap64 (x7_2 + 1)) : Int) := of_decide_eq_true (by first | (with_reducible assumption) | assumption)
                            have q023 : (0 : Int) ≤ (x7_2 : Int) := of_decide_eq_true (by first | (with_reducible assumption) | assumption)
                            have hcut23 := cut_mid (P := Tryd.prog) 23 36 .i64 .i64 Tryd.underlying23 hi023 4 hsz23 A0 l0.length c0 x7_2 (wrap64 (x7_2 + 1)) q023 ql23 q23 hroom23
                            have hr23 := Kd.C_mid (lo := (x7_2 : Int).toNat) (hi := ((wrap64 (x7_2 + 1)) : Int).toNat) (c := c0) hC23 (by omega) (by omega) hroom23
                            obtain ⟨A23, hA23⟩ : ∃ A1, A1 = (if c0 = (x7_2 : Int).toNat then A0 else (A0 : Option Addr).map (·.add ((x7_2 : Int).toNat * 4))) := ⟨_, rfl⟩
                            obtain ⟨c23, hc23⟩ : ∃ c1, c1 = c0 - (x7_2 : Int).toNat := ⟨_, rfl⟩
                            have hy23 : y290.length = ((wrap64 (x7_2 + 1)) : Int).toNat - (x7_2 : Int).toNat := (by rw [Ny290.out, List.length_drop, List.length_take] <;> omega)
                            rw [show ((l0).take ((wrap64 (x7_2 + 1)) : Int).toNat).drop (x7_2 : Int).toNat = y290 from Ny290.out.symm] at hr23
                            replace hr23 : Kd.C k36 _ A23 y290.length y290 := (by rw [hA23]; exact hr23)
                            rw [← hy23, ← hA23, ← hc23] at hcut23
                            have HR293 := Aside0.mk hr23
                            have HC293 := Aside0.mk (show y290.length ≤ c23 from by rw [hy23, hc23]; exact Nat.sub_le_sub_right (Nat.le_trans (by omega) hroom23) _)
                            clear hr23 hC23 hroom23 hi023 hsz23 hc23
                            have KY23 := Aside0.mk hy23
                            have KA23 := Aside0.mk hA23
                            clear hy23 hA23
                            replace q23 := eq_true q23
                            go_wp2_with (first | (go_at_call 16; (with_reducible refine (lexer_Text.calls k2 _ _ y290 t294 _ ?side3 ?side1 ?side2 A21.out).mono ?_); (case side1 => repeat (first | exact (Kd.C_below HR293.out HB.out) | (with_reducible refine Kd.C_alloc ?_ _) | (with_reducible refine Kd.C_drewN ?_ _) | (with_reducible refine Kd.C_drew ?_))); (case side2 => exact HC293.out); (case side3 => exact Go.Proofs.YtifhmdlgjojodaaDoorX.Glob.below hG (by repeat (first | (with_reducible first | exact HB.out | apply below_alloc | apply pw_below_drewN | apply below_drew1) | exact HB.out))); rintro e w24 ⟨rfl, hb⟩; have n0_ := Aside0.mk (Kd.R_below (by (with_reducible repeat (first | apply Kd.R_alloc | apply Kd.R_drewN | apply Kd.R_drew)); exact HO_6.out) hb); have n1_ := Aside0.mk (below_step (by repeat (first | (with_reducible first | exact HB.out | apply below_alloc | apply pw_below_drewN | apply below_drew1) | exact HB.out)) hb); clear HO_6; clear HB; have HO_6 := n0_; have HB := n1_; clear n0_ n1_; (try clear hb); (try clear hb2); (try clear hk); (try clear hi)))
                            repeat (go_quiet (first | (go_at_call 16; (with_reducible refine (lexer_Text.calls k2 _ _ y290 t294 _ ?side3 ?side1 ?side2 A21.out).mono ?_); (case side1 => repeat (first | exact (Kd.C_below HR293.out HB.out) | (with_reducible refine Kd.C_alloc ?_ _) | (with_reducible refine Kd.C_drewN ?_ _) | (with_reducible refine Kd.C_drew ?_))); (case side2 => exact HC293.out); (case side3 => exact Go.Proofs.YtifhmdlgjojodaaDoorX.Glob.below hG (by repeat (first | (with_reducible first | exact HB.out | apply below_alloc | apply pw_below_drewN | apply below_drew1) | exact HB.out))); rintro e w24 ⟨rfl, hb⟩; have n0_ := Aside0.mk (Kd.R_below (by (with_reducible repeat (first | apply Kd.R_alloc | apply Kd.R_drewN | apply Kd.R_drew)); exact HO_6.out) hb); have n1_ := Aside0.mk (below_step (by repeat (first | (with_reducible first | exact HB.out | apply below_alloc | apply pw_below_drewN | apply below_drew1) | exact HB.out)) hb); clear HO_6; clear HB; have HO_6 := n0_; have HB := n1_; clear n0_ n1_; (try clear hb); (try clear hb2); (try clear hk); (try clear hi))); try go_wp2_with (first | (go_at_call 16; (with_reducible refine (lexer_Text.calls k2 _ _ y290 t294 _ ?side3 ?side1 ?side2 A21.out).mono ?_); (case side1 => repeat (first | exact (Kd.C_below HR293.out HB.out) | (with_reducible refine Kd.C_alloc ?_ _) | (with_reducible refine Kd.C_drewN ?_ _) | (with_reducible refine Kd.C_drew ?_))); (case side2 => exact HC293.out); (case side3 => exact Go.Proofs.YtifhmdlgjojodaaDoorX.Glob.below hG (by repeat (first | (with_reducible first | exact HB.out | apply below_alloc | apply pw_below_drewN | apply below_drew1) | exact HB.out))); rintro e w24 ⟨rfl, hb⟩; have n0_ := Aside0.mk (Kd.R_below (by (with_reducible repeat (first | apply Kd.R_alloc | apply Kd.R_drewN | apply Kd.R_drew)); exact HO_6.out) hb); have n1_ := Aside0.mk (below_step (by repeat (first | (with_reducible first | exact HB.out | apply below_alloc | apply pw_below_drewN | apply below_drew1) | exact HB.out)) hb); clear HO_6; clear HB; have HO_6 := n0_; have HB := n1_; clear n0_ n1_; (try clear hb); (try clear hb2); (try clear hk); (try clear hi))))
                            go_ret
                            exact ⟨by first | rfl | (simp [errW_none, errW_some] <;> rfl) | (simp [*, errW_none, errW_some] <;> rfl), by repeat (first | (with_reducible first | exact HB.out | apply below_alloc | apply pw_below_drewN | apply below_drew1) | exact HB.out)⟩
                          · rw [if_neg c22] at H
                            have c22b0 : (t294.toList == ([] : List UInt8)) = false := beq_eq_false_iff_ne.mpr c22
                            have c22b1 : (t294.toList != ([] : List UInt8)) = true := bne_iff_ne.mpr c22
                            have c22b2 : t294.toList.isEmpty = false := by simpa using c22
                            by_cases c25 : x6_2.length < 17592186044416
                            · rw [if_pos c25] at H
                              have LMc25 := Aside0.mk c25
                              clear c25
                              obtain ⟨y295, hy295⟩ : ∃ y_ : List Int, y_ = (x6_2 ++ [(x5_2.size : Int)]) := ⟨_, rfl⟩
                              replace H : (if x5_2.size + t294.size ≤ 9223372036854775807 then (if (l1.length : Int) = 0 then (none) else (if 0 ≤ (Int.tmod (wrap64 (x7_2 + 1)) (l1.length : Int)) then (if (Int.tmod (wrap64 (x7_2 + 1)) (l1.length : Int)) < (l1.length : Int) then ((tapearchivelaw28_gap.f (rd l1 (Int.tmod (wrap64 (x7_2 + 1)) (l1.length : Int)))).bind fun t299 => (if x5_2.size + t294.size + t299.size ≤ 9223372036854775807 then (tapearchivelaw28_LexerSeparators.l0 k2 l0 l1 ((x5_2 ++ t294) ++ t299) y295 (wrap64 (x7_2 + 1))) else (none))) else (none)) else (none))) else (none)) = some r := by first | (rw [hy295]; with_reducible exact H) | (have H2_ := (Option.bind_some _ _).symm.trans H; rw [hy295]; with_reducible exact H2_) | (have H2_ := (Option.bind_some _ _).symm.trans H; with_reducible exact H2_) | with_reducible exact H | (rw [hy295]; exact H) | exact H
                              have Ny295 := Aside0.mk hy295
                              clear hy295
                              by_cases c26 : x5_2.size + t294.size ≤ 9223372036854775807
                              · rw [if_pos c26] at H
                                have c26b0 := eq_true c26
                                have c26b1 : decide (x5_2.size + t294.size ≤ 9223372036854775807) = true := decide_eq_true c26
                                try have c26b2 : (9223372036854775807 < x5_2.size + t294.size) = False := eq_false (Nat.not_lt.2 c26)
                                by_cases c27 : (l1.length : Int) = 0
                                · rw [if_pos c27] at H
                                  exact absurd H (by simp)
                                · rw [if_neg c27] at H
                                  have c27b0 : ((l1.length : Int) == 0) = false := beq_eq_false_iff_ne.mpr c27
                                  have c27b1 : ((l1.length : Int) != 0) = true := bne_iff_ne.mpr c27
                                  have c27b2 : ¬ (l1 = []) := fun h_ => c27 (by rw [h_]; rfl)
                                  obtain ⟨ji28, hji28⟩ : ∃ j_ : Int, (Int.tmod (wrap64 (x7_2 + 1)) (l1.length : Int)) = j_ := ⟨_, rfl⟩
                                  replace H : (if 0 ≤ (ji28) then (if (ji28) < (l1.length : Int) then ((tapearchivelaw28_gap.f (rd l1 (ji28))).bind fun t299 => (if x5_2.size + t294.size + t299.size ≤ 9223372036854775807 then (tapearchivelaw28_LexerSeparators.l0 k2 l0 l1 ((x5_2 ++ t294) ++ t299) y295 (wrap64 (x7_2 + 1))) else (none))) else (none)) else (none)) = some r := by first | (rw [hji28] at H; exact H) | (simp only [hji28] at H ⊢; exact H)
                                  (try rw [hji28] at A21)
                                  by_cases c29 : 0 ≤ (ji28)
                                  · rw [if_pos c29] at H
                                    have c29b0 : decide (0 ≤ (ji28)) = true := decide_eq_true c29
                                    clear c29
                                    by_cases c30 : (ji28) < (l1.length : Int)
                                    · rw [if_pos c30] at H
                                      have c30b0 : decide ((ji28) < (l1.length : Int)) = true := decide_eq_true c30
                                      clear c30
                                      replace H := Option.bind_eq_some_iff.mp H
                                      obtain ⟨t299, A310, H⟩ := H
                                      replace H : (if x5_2.size + t294.size + t299.size ≤ 9223372036854775807 then (tapearchivelaw28_LexerSeparators.l0 k2 l0 l1 ((x5_2 ++ t294) ++ t299) y295 (wrap64 (x7_2 + 1))) else (none)) = some r := H
                                      have A31 := Aside0.mk A310
                                      clear A310
                                      by_cases c32 : x5_2.size + t294.size + t299.size ≤ 9223372036854775807
                                      · rw [if_pos c32] at H
                                        have c32b0 := eq_true c32
                                        have c32b1 : decide (x5_2.size + t294.size + t299.size ≤ 9223372036854775807) = true := decide_eq_true c32
                                        try have c32b2 : (9223372036854775807 < x5_2.size + t294.size + t299.size) = False := eq_false (Nat.not_lt.2 c32)
                                        have H' := Aside0.mk H
                                        clear H
                                        have q33 : ((wrap64 (x7_2 + 1)) : Int) ≤ ((l0.length : Int) : Int) := of_decide_eq_true (by first | (with_reducible assumption) | assumption)
                                        obtain ⟨i033, hi033, _, hsz33, _⟩ := info_parts info36
                                        have hroom33 : l0.length ≤ c0 := HC0.out
                                        have hC33 : Kd.C k36 _ A0 l0.length l0 := HR0.out
                                        have ql33 : (x7_2 : Int) ≤ ((wrap64 (x7_2 + 1)) : Int) := of_decide_eq_true (by first | (with_reducible assumption) | assumption)
                                        have q033 : (0 : Int) ≤ (x7_2 : Int) := of_decide_eq_true (by first | (with_reducible assumption) | assumption)
                                        have hcut33 := cut_mid (P := Tryd.prog) 23 36 .i64 .i64 Tryd.underlying23 hi033 4 hsz33 A0 l0.length c0 x7_2 (wrap64 (x7_2 + 1)) q033 ql33 q33 hroom33
                                        have hr33 := Kd.C_mid (lo := (x7_2 : Int).toNat) (hi := ((wrap64 (x7_2 + 1)) : Int).toNat) (c := c0) hC33 (by omega) (by omega) hroom33
                                        obtain ⟨A33, hA33⟩ : ∃ A1, A1 = (if c0 = (x7_2 : Int).toNat then A0 else (A0 : Option Addr).map (·.add ((x7_2 : Int).toNat * 4))) := ⟨_, rfl⟩
                                        obtain ⟨c33, hc33⟩ : ∃ c1, c1 = c0 - (x7_2 : Int).toNat := ⟨_, rfl⟩
                                        have hy33 : y290.length = ((wrap64 (x7_2 + 1)) : Int).toNat - (x7_2 : Int).toNat := (by rw [Ny290.out, List.length_drop, List.length_take] <;> omega)
                                        rw [show ((l0).take ((wrap64 (x7_2 + 1)) : Int).toNat).drop (x7_2 : Int).toNat = y290 from Ny290.out.symm] at hr33
                                        replace hr33 : Kd.C k36 _ A33 y290.length y290 := (by rw [hA33]; exact hr33)
                                        rw [← hy33, ← hA33, ← hc33] at hcut33
                                        have HR293 := Aside0.mk hr33
                                        have HC293 := Aside0.mk (show y290.length ≤ c33 from by rw [hy33, hc33]; exact Nat.sub_le_sub_right (Nat.le_trans (by omega) hroom33) _)
                                        clear hr33 hC33 hroom33 hi033 hsz33 hc33
                                        have KY33 := Aside0.mk hy33
                                        have KA33 := Aside0.mk hA33
                                        clear hy33 hA33
                                        replace q33 := eq_true q33
                                        go_wp2_with (first | (go_at_call 16; (with_reducible refine (lexer_Text.calls k2 _ _ y290 t294 _ ?side3 ?side1 ?side2 A21.out).mono ?_); (case side1 => repeat (first | exact (Kd.C_below HR293.out HB.out) | (with_reducible refine Kd.C_alloc ?_ _) | (with_reducible refine Kd.C_drewN ?_ _) | (with_reducible refine Kd.C_drew ?_))); (case side2 => exact HC293.out); (case side3 => exact Go.Proofs.YtifhmdlgjojodaaDoorX.Glob.below hG (by repeat (first | (with_reducible first | exact HB.out | apply below_alloc | apply pw_below_drewN | apply below_drew1) | exact HB.out))); rintro e w34 ⟨rfl, hb⟩; have n0_ := Aside0.mk (Kd.R_below (by (with_reducible repeat (first | apply Kd.R_alloc | apply Kd.R_drewN | apply Kd.R_drew)); exact HO_6.out) hb); have n1_ := Aside0.mk (below_step (by repeat (first | (with_reducible first | exact HB.out | apply below_alloc | apply pw_below_drewN | apply below_drew1) | exact HB.out)) hb); clear HO_6; clear HB; have HO_6 := n0_; have HB := n1_; clear n0_ n1_; (try clear hb); (try clear hb2); (try clear hk); (try clear hi)) | ((with_reducible refine gate_builtin (b := .append) (xs := #[.tmp 55, .tmp 58]) rfl ?_); (try (refine gate_guard (by rfl) ?_; dsimp only)); at_builtin; refine Kd.R_append (Kd.int .i64) (w0 := w) w.heap.size rfl (.tmp 55) (.tmp 58) 39 3 (.int .i64 0) 8 rfl Tryd.underlying39 info3 rfl (by decide) (by omega) u6 x6_2 (x5_2.size : Int) [.int .i64 (x5_2.size : Int)] (fun _ => True) (fun _ => False) rfl rfl ?aP (fun _ hk => hk.elim) ?aF ?aO ?aB ?aS ?aL ?_; (case aP => exact rfl); (case aB => exact (by repeat (first | (with_reducible first | exact HB.out | apply below_alloc | apply pw_below_drewN | apply below_drew1) | exact HB.out))); (case aF => exact (fun _ _ => trivial)); (case aO => exact (by (with_reducible repeat (first | apply Kd.R_alloc | apply Kd.R_drewN | apply Kd.R_drew)); exact HO_6.out)); (case aS => exact (below_size (by repeat (first | (with_reducible first | exact HB.out | apply below_alloc | apply pw_below_drewN | apply below_drew1) | exact HB.out)))); (case aL => have := LMc25.out; omega); intro v296 w35 ho hb hg hat; rw [← Ny295.out] at ho; have n0_ := Aside0.mk (hb); have n1_ := Aside0.mk (ho); clear HB; clear HO_6; have HB := n0_; have HO297 := n1_; clear n0_ n1_; clear ho hb hg hat; have p298 : 0 ≤ ((ji28) : Int) := of_decide_eq_true (by first | (with_reducible assumption) | assumption); have q298 : (ji28) < (l1.length : Int) := of_decide_eq_true (by first | (with_reducible assumption) | assumption); obtain ⟨ad298, e298, hx298_0⟩ := Kd.at_int HR1.out (ji28) p298 q298; obtain rfl : ad285 = ad298 := (by injection e298); replace hx298_0 := (HB.out.cell (World.block_lt_of_cell? w _ hx298_0)).trans hx298_0; replace p298 := eq_true p298; replace q298 := eq_true q298) | (go_at_call 20; (with_reducible refine (tapearchivelaw28_gap.calls (rd l1 (ji28)) t299 _ A31.out).mono ?_); rintro e w' ⟨rfl, ⟨nd, rfl⟩⟩; (try first | exact ⟨rfl, _, World.drewN_drewN _ _ _⟩ | exact ⟨rfl, _, Eq.trans (World.drewN_drewN _ _ _) (congrArg (World.drewN _) (Nat.add_assoc _ _ _))⟩)))
                                        repeat (go_quiet (first | (go_at_call 16; (with_reducible refine (lexer_Text.calls k2 _ _ y290 t294 _ ?side3 ?side1 ?side2 A21.out).mono ?_); (case side1 => repeat (first | exact (Kd.C_below HR293.out HB.out) | (with_reducible refine Kd.C_alloc ?_ _) | (with_reducible refine Kd.C_drewN ?_ _) | (with_reducible refine Kd.C_drew ?_))); (case side2 => exact HC293.out); (case side3 => exact Go.Proofs.YtifhmdlgjojodaaDoorX.Glob.below hG (by repeat (first | (with_reducible first | exact HB.out | apply below_alloc | apply pw_below_drewN | apply below_drew1) | exact HB.out))); rintro e w34 ⟨rfl, hb⟩; have n0_ := Aside0.mk (Kd.R_below (by (with_reducible repeat (first | apply Kd.R_alloc | apply Kd.R_drewN | apply Kd.R_drew)); exact HO_6.out) hb); have n1_ := Aside0.mk (below_step (by repeat (first | (with_reducible first | exact HB.out | apply below_alloc | apply pw_below_drewN | apply below_drew1) | exact HB.out)) hb); clear HO_6; clear HB; have HO_6 := n0_; have HB := n1_; clear n0_ n1_; (try clear hb); (try clear hb2); (try clear hk); (try clear hi)) | ((with_reducible refine gate_builtin (b := .append) (xs := #[.tmp 55, .tmp 58]) rfl ?_); (try (refine gate_guard (by rfl) ?_; dsimp only)); at_builtin; refine Kd.R_append (Kd.int .i64) (w0 := w) w.heap.size rfl (.tmp 55) (.tmp 58) 39 3 (.int .i64 0) 8 rfl Tryd.underlying39 info3 rfl (by decide) (by omega) u6 x6_2 (x5_2.size : Int) [.int .i64 (x5_2.size : Int)] (fun _ => True) (fun _ => False) rfl rfl ?aP (fun _ hk => hk.elim) ?aF ?aO ?aB ?aS ?aL ?_; (case aP => exact rfl); (case aB => exact (by repeat (first | (with_reducible first | exact HB.out | apply below_alloc | apply pw_below_drewN | apply below_drew1) | exact HB.out))); (case aF => exact (fun _ _ => trivial)); (case aO => exact (by (with_reducible repeat (first | apply Kd.R_alloc | apply Kd.R_drewN | apply Kd.R_drew)); exact HO_6.out)); (case aS => exact (below_size (by repeat (first | (with_reducible first | exact HB.out | apply below_alloc | apply pw_below_drewN | apply below_drew1) | exact HB.out)))); (case aL => have := LMc25.out; omega); intro v296 w35 ho hb hg hat; rw [← Ny295.out] at ho; have n0_ := Aside0.mk (hb); have n1_ := Aside0.mk (ho); clear HB; clear HO_6; have HB := n0_; have HO297 := n1_; clear n0_ n1_; clear ho hb hg hat; have p298 : 0 ≤ ((ji28) : Int) := of_decide_eq_true (by first | (with_reducible assumption) | assumption); have q298 : (ji28) < (l1.length : Int) := of_decide_eq_true (by first | (with_reducible assumption) | assumption); obtain ⟨ad298, e298, hx298_0⟩ := Kd.at_int HR1.out (ji28) p298 q298; obtain rfl : ad285 = ad298 := (by injection e298); replace hx298_0 := (HB.out.cell (World.block_lt_of_cell? w _ hx298_0)).trans hx298_0; replace p298 := eq_true p298; replace q298 := eq_true q298) | (go_at_call 20; (with_reducible refine (tapearchivelaw28_gap.calls (rd l1 (ji28)) t299 _ A31.out).mono ?_); rintro e w' ⟨rfl, ⟨nd, rfl⟩⟩; (try first | exact ⟨rfl, _, World.drewN_drewN _ _ _⟩ | exact ⟨rfl, _, Eq.trans (World.drewN_drewN _ _ _) (congrArg (World.drewN _) (Nat.add_assoc _ _ _))⟩))); try go_wp2_with (first | (go_at_call 16; (with_reducible refine (lexer_Text.calls k2 _ _ y290 t294 _ ?side3 ?side1 ?side2 A21.out).mono ?_); (case side1 => repeat (first | exact (Kd.C_below HR293.out HB.out) | (with_reducible refine Kd.C_alloc ?_ _) | (with_reducible refine Kd.C_drewN ?_ _) | (with_reducible refine Kd.C_drew ?_))); (case side2 => exact HC293.out); (case side3 => exact Go.Proofs.YtifhmdlgjojodaaDoorX.Glob.below hG (by repeat (first | (with_reducible first | exact HB.out | apply below_alloc | apply pw_below_drewN | apply below_drew1) | exact HB.out))); rintro e w34 ⟨rfl, hb⟩; have n0_ := Aside0.mk (Kd.R_below (by (with_reducible repeat (first | apply Kd.R_alloc | apply Kd.R_drewN | apply Kd.R_drew)); exact HO_6.out) hb); have n1_ := Aside0.mk (below_step (by repeat (first | (with_reducible first | exact HB.out | apply below_alloc | apply pw_below_drewN | apply below_drew1) | exact HB.out)) hb); clear HO_6; clear HB; have HO_6 := n0_; have HB := n1_; clear n0_ n1_; (try clear hb); (try clear hb2); (try clear hk); (try clear hi)) | ((with_reducible refine gate_builtin (b := .append) (xs := #[.tmp 55, .tmp 58]) rfl ?_); (try (refine gate_guard (by rfl) ?_; dsimp only)); at_builtin; refine Kd.R_append (Kd.int .i64) (w0 := w) w.heap.size rfl (.tmp 55) (.tmp 58) 39 3 (.int .i64 0) 8 rfl Tryd.underlying39 info3 rfl (by decide) (by omega) u6 x6_2 (x5_2.size : Int) [.int .i64 (x5_2.size : Int)] (fun _ => True) (fun _ => False) rfl rfl ?aP (fun _ hk => hk.elim) ?aF ?aO ?aB ?aS ?aL ?_; (case aP => exact rfl); (case aB => exact (by repeat (first | (with_reducible first | exact HB.out | apply below_alloc | apply pw_below_drewN | apply below_drew1) | exact HB.out))); (case aF => exact (fun _ _ => trivial)); (case aO => exact (by (with_reducible repeat (first | apply Kd.R_alloc | apply Kd.R_drewN | apply Kd.R_drew)); exact HO_6.out)); (case aS => exact (below_size (by repeat (first | (with_reducible first | exact HB.out | apply below_alloc | apply pw_below_drewN | apply below_drew1) | exact HB.out)))); (case aL => have := LMc25.out; omega); intro v296 w35 ho hb hg hat; rw [← Ny295.out] at ho; have n0_ := Aside0.mk (hb); have n1_ := Aside0.mk (ho); clear HB; clear HO_6; have HB := n0_; have HO297 := n1_; clear n0_ n1_; clear ho hb hg hat; have p298 : 0 ≤ ((ji28) : Int) := of_decide_eq_true (by first | (with_reducible assumption) | assumption); have q298 : (ji28) < (l1.length : Int) := of_decide_eq_true (by first | (with_reducible assumption) | assumption); obtain ⟨ad298, e298, hx298_0⟩ := Kd.at_int HR1.out (ji28) p298 q298; obtain rfl : ad285 = ad298 := (by injection e298); replace hx298_0 := (HB.out.cell (World.block_lt_of_cell? w _ hx298_0)).trans hx298_0; replace p298 := eq_true p298; replace q298 := eq_true q298) | (go_at_call 20; (with_reducible refine (tapearchivelaw28_gap.calls (rd l1 (ji28)) t299 _ A31.out).mono ?_); rintro e w' ⟨rfl, ⟨nd, rfl⟩⟩; (try first | exact ⟨rfl, _, World.drewN_drewN _ _ _⟩ | exact ⟨rfl, _, Eq.trans (World.drewN_drewN _ _ _) (congrArg (World.drewN _) (Nat.add_assoc _ _ _))⟩))))
                                        go_roundg k2
                                        case measure => have := HJ4.out; have := HK2.out; omega
                                        case rel => exact ⟨((x5_2 ++ t294) ++ t299), (y295), (wrap64 (x7_2 + 1)), (by first | rfl | (simp; done) | (simp [*]; done)), (by first | rfl | (simp; done) | (simp [*]; done)), H', ⟨by have := HJ4.out; have := HK2.out; omega⟩, ⟨by (with_reducible repeat (first | apply Kd.R_alloc | apply Kd.R_drewN | apply Kd.R_drew)); exact HO297.out⟩, ⟨by repeat (first | (with_reducible first | exact HB.out | apply below_alloc | apply pw_below_drewN | apply below_drew1) | exact HB.out)⟩⟩
                                      · rw [if_neg c32] at H
                                        exact absurd H (by simp)
                                    · rw [if_neg c30] at H
                                      exact absurd H (by simp)
                                  · rw [if_neg c29] at H
                                    exact absurd H (by simp)
                              · rw [if_neg c26] at H
                                exact absurd H (by simp)
                            · rw [if_neg c25] at H
                              exact absurd H (by simp)
                        · rw [if_neg c20] at H
                          exact absurd H (by simp)
                      · rw [if_neg c19] at H
                        exact absurd H (by simp)
                    · rw [if_neg c18] at H
                      exact absurd H (by simp)
                · rw [if_neg c16] at H
                  have c16b0 : decide (x7_2 < (l0.length : Int)) = false := decide_eq_false c16
                  clear c16
                  by_cases c36 : (x5_2.size : Int) > 16384
                  · rw [if_pos c36] at H
                    have c36b0 : decide (16384 < (x5_2.size : Int)) = true := decide_eq_true c36
                    have c36b1 : decide (16384 < x5_2.size) = true := decide_eq_true (by omega)
                    clear c36
                    obtain rfl := Option.some.inj H
                    go_wp2
                    repeat (go_quiet (fail); try go_wp2)
                    go_ret
                    exact ⟨by first | rfl | (simp [errW_none, errW_some] <;> rfl) | (simp [*, errW_none, errW_some] <;> rfl), by repeat (first | (with_reducible first | exact HB.out | apply below_alloc | apply pw_below_drewN | apply below_drew1) | exact HB.out)⟩
                  · rw [if_neg c36] at H
                    have c36b0 : decide (16384 < (x5_2.size : Int)) = false := decide_eq_false c36
                    have c36b1 : decide (16384 < x5_2.size) = false := decide_eq_false (by omega)
                    clear c36
                    replace H := Option.bind_eq_some_iff.mp H
                    obtain ⟨⟨t300, t301, t302⟩, A370, H⟩ := H
                    replace H : (if t302 = 0 then ((tapearchiveref28_Same.f k2 l0 t300 false).bind fun t305 => (tapearchivelaw28_LexerSeparators.j2 k2 x6_2 t300 (!t305))) else (tapearchivelaw28_LexerSeparators.j2 k2 x6_2 t300 true)) = some r := H
                    have A37 := Aside0.mk A370
                    clear A370
                    have HC38 := Aside0.mk H
                    clear H
                    go_upto_region 20 with (first | (go_at_call 10; (with_reducible refine (lexer_Tokens.calls k2 x5_2 t300 t301 t302 _ A37.out).mono ?_); rintro e w39 ⟨v303, rfl, ho0, hb⟩; have n0_ := Aside0.mk (Kd.R_below (by (with_reducible repeat (first | apply Kd.R_alloc | apply Kd.R_drewN | apply Kd.R_drew)); exact HO_6.out) hb); have n1_ := Aside0.mk (Kd.R_lower ho0 (below_size (by repeat (first | (with_reducible first | exact HB.out | apply below_alloc | apply pw_below_drewN | apply below_drew1) | exact HB.out)))); have n2_ := Aside0.mk (below_step (by repeat (first | (with_reducible first | exact HB.out | apply below_alloc | apply pw_below_drewN | apply below_drew1) | exact HB.out)) hb); clear HO_6; clear HB; have HO_6 := n0_; have HO304 := n1_; have HB := n2_; clear n0_ n1_ n2_; (try clear hb); (try clear hb2); (try clear hk); (try clear hi); (try clear ho0)))
                    repeat (go_quiet (first | (go_at_call 10; (with_reducible refine (lexer_Tokens.calls k2 x5_2 t300 t301 t302 _ A37.out).mono ?_); rintro e w39 ⟨v303, rfl, ho0, hb⟩; have n0_ := Aside0.mk (Kd.R_below (by (with_reducible repeat (first | apply Kd.R_alloc | apply Kd.R_drewN | apply Kd.R_drew)); exact HO_6.out) hb); have n1_ := Aside0.mk (Kd.R_lower ho0 (below_size (by repeat (first | (with_reducible first | exact HB.out | apply below_alloc | apply pw_below_drewN | apply below_drew1) | exact HB.out)))); have n2_ := Aside0.mk (below_step (by repeat (first | (with_reducible first | exact HB.out | apply below_alloc | apply pw_below_drewN | apply below_drew1) | exact HB.out)) hb); clear HO_6; clear HB; have HO_6 := n0_; have HO304 := n1_; have HB := n2_; clear n0_ n1_ n2_; (try clear hb); (try clear hb2); (try clear hk); (try clear hi); (try clear ho0))); go_upto_region 20 with (first | (go_at_call 10; (with_reducible refine (lexer_Tokens.calls k2 x5_2 t300 t301 t302 _ A37.out).mono ?_); rintro e w39 ⟨v303, rfl, ho0, hb⟩; have n0_ := Aside0.mk (Kd.R_below (by (with_reducible repeat (first | apply Kd.R_alloc | apply Kd.R_drewN | apply Kd.R_drew)); exact HO_6.out) hb); have n1_ := Aside0.mk (Kd.R_lower ho0 (below_size (by repeat (first | (with_reducible first | exact HB.out | apply below_alloc | apply pw_below_drewN | apply below_drew1) | exact HB.out)))); have n2_ := Aside0.mk (below_step (by repeat (first | (with_reducible first | exact HB.out | apply below_alloc | apply pw_below_drewN | apply below_drew1) | exact HB.out)) hb); clear HO_6; clear HB; have HO_6 := n0_; have HO304 := n1_; have HB := n2_; clear n0_ n1_ n2_; (try clear hb); (try clear hb2); (try clear hk); (try clear hi); (try clear ho0))))
                    (try simp only [Act.put, List.setIfInBounds_toArray, List.set_cons_zero, List.set_cons_succ])
                    go_cut [89] (fun v89 wc => ∃ (kq : Nat) (x89_37 : Bool), v89 = .bool x89_37 ∧ Aside0 (tapearchivelaw28_LexerSeparators.j2 kq x6_2 t300 x89_37 = some r) ∧ Aside0 (kq ≤ k2) ∧ Aside0 (Kd.R (Kd.int .i64) 3 wc w.heap.size (fun _ => True) u6 x6_2) ∧ Aside0 (Kd.R k36 36 wc w.heap.size (fun _ => True) v303 t300) ∧ Aside0 (Below w.heap.size w wc))
                    case first =>
                      have H := HC38.out
                      clear HC38
                      by_cases c40 : t302 = 0
                      · rw [if_pos c40] at H
                        have c40b0 : (t302 == 0) = true := beq_iff_eq.mpr c40
                        have c40b1 : (t302 != 0) = false := bne_eq_false_iff_eq.mpr c40
                        clear c40
                        (first | rw [c40b0] | (simp only [i64_w, i32_w]; rw [c40b0]) | rw [c40b2] | skip)
                        replace H := Option.bind_eq_some_iff.mp H
                        obtain ⟨t305, A410, H⟩ := H
                        replace H : (tapearchivelaw28_LexerSeparators.j2 k2 x6_2 t300 (!t305)) = some r := H
                        have A41 := Aside0.mk A410
                        clear A410
                        have H' := Aside0.mk H
                        clear H
                        obtain ⟨Ao42, co42, eo42⟩ := Kd.R_slice HO304.out
                        subst eo42
                        go_wp2_with (first | (go_at_call 12; (with_reducible refine (tapearchiveref28_Same.calls k2 _ _ l0 _ _ t300 false t305 _ ?side1 ?side2 ?side3 ?side4 A41.out).mono ?_); (case side1 => repeat (first | exact (Kd.C_below HR0.out HB.out) | (with_reducible refine Kd.C_alloc ?_ _) | (with_reducible refine Kd.C_drewN ?_ _) | (with_reducible refine Kd.C_drew ?_))); (case side2 => exact HC0.out); (case side3 => repeat (first | exact (Kd.R_reads' HO304.out).2.2 | (with_reducible refine Kd.C_alloc ?_ _) | (with_reducible refine Kd.C_drewN ?_ _) | (with_reducible refine Kd.C_drew ?_))); (case side4 => exact (Kd.R_reads' HO304.out).2.1); rintro e w43 ⟨rfl, hb⟩; have n0_ := Aside0.mk (Kd.R_below (by (with_reducible repeat (first | apply Kd.R_alloc | apply Kd.R_drewN | apply Kd.R_drew)); exact HO_6.out) hb); have n1_ := Aside0.mk (Kd.R_below (by (with_reducible repeat (first | apply Kd.R_alloc | apply Kd.R_drewN | apply Kd.R_drew)); exact HO304.out) hb); have n2_ := Aside0.mk (below_step (by repeat (first | (with_reducible first | exact HB.out | apply below_alloc | apply pw_below_drewN | apply below_drew1) | exact HB.out)) hb); clear HO_6; clear HO304; clear HB; have HO_6 := n0_; have HO304 := n1_; have HB := n2_; clear n0_ n1_ n2_; (try clear hb); (try clear hb2); (try clear hk); (try clear hi)))
                        repeat (go_quiet (first | (go_at_call 12; (with_reducible refine (tapearchiveref28_Same.calls k2 _ _ l0 _ _ t300 false t305 _ ?side1 ?side2 ?side3 ?side4 A41.out).mono ?_); (case side1 => repeat (first | exact (Kd.C_below HR0.out HB.out) | (with_reducible refine Kd.C_alloc ?_ _) | (with_reducible refine Kd.C_drewN ?_ _) | (with_reducible refine Kd.C_drew ?_))); (case side2 => exact HC0.out); (case side3 => repeat (first | exact (Kd.R_reads' HO304.out).2.2 | (with_reducible refine Kd.C_alloc ?_ _) | (with_reducible refine Kd.C_drewN ?_ _) | (with_reducible refine Kd.C_drew ?_))); (case side4 => exact (Kd.R_reads' HO304.out).2.1); rintro e w43 ⟨rfl, hb⟩; have n0_ := Aside0.mk (Kd.R_below (by (with_reducible repeat (first | apply Kd.R_alloc | apply Kd.R_drewN | apply Kd.R_drew)); exact HO_6.out) hb); have n1_ := Aside0.mk (Kd.R_below (by (with_reducible repeat (first | apply Kd.R_alloc | apply Kd.R_drewN | apply Kd.R_drew)); exact HO304.out) hb); have n2_ := Aside0.mk (below_step (by repeat (first | (with_reducible first | exact HB.out | apply below_alloc | apply pw_below_drewN | apply below_drew1) | exact HB.out)) hb); clear HO_6; clear HO304; clear HB; have HO_6 := n0_; have HO304 := n1_; have HB := n2_; clear n0_ n1_ n2_; (try clear hb); (try clear hb2); (try clear hk); (try clear hi))); try go_wp2_with (first | (go_at_call 12; (with_reducible refine (tapearchiveref28_Same.calls k2 _ _ l0 _ _ t300 false t305 _ ?side1 ?side2 ?side3 ?side4 A41.out).mono ?_); (case side1 => repeat (first | exact (Kd.C_below HR0.out HB.out) | (with_reducible refine Kd.C_alloc ?_ _) | (with_reducible refine Kd.C_drewN ?_ _) | (with_reducible refine Kd.C_drew ?_))); (case side2 => exact HC0.out); (case side3 => repeat (first | exact (Kd.R_reads' HO304.out).2.2 | (with_reducible refine Kd.C_alloc ?_ _) | (with_reducible refine Kd.C_drewN ?_ _) | (with_reducible refine Kd.C_drew ?_))); (case side4 => exact (Kd.R_reads' HO304.out).2.1); rintro e w43 ⟨rfl, hb⟩; have n0_ := Aside0.mk (Kd.R_below (by (with_reducible repeat (first | apply Kd.R_alloc | apply Kd.R_drewN | apply Kd.R_drew)); exact HO_6.out) hb); have n1_ := Aside0.mk (Kd.R_below (by (with_reducible repeat (first | apply Kd.R_alloc | apply Kd.R_drewN | apply Kd.R_drew)); exact HO304.out) hb); have n2_ := Aside0.mk (below_step (by repeat (first | (with_reducible first | exact HB.out | apply below_alloc | apply pw_below_drewN | apply below_drew1) | exact HB.out)) hb); clear HO_6; clear HO304; clear HB; have HO_6 := n0_; have HO304 := n1_; have HB := n2_; clear n0_ n1_ n2_; (try clear hb); (try clear hb2); (try clear hk); (try clear hi))))
                        go_meet
                        case rel => exact ⟨_, (!t305), (by first | rfl | (simp; done) | (simp [*]; done)), H', ⟨by have := HJ4.out; have := HK2.out; first | omega | exact Nat.le_refl _⟩, ⟨by (with_reducible repeat (first | apply Kd.R_alloc | apply Kd.R_drewN | apply Kd.R_drew)); exact HO_6.out⟩, ⟨by (with_reducible repeat (first | apply Kd.R_alloc | apply Kd.R_drewN | apply Kd.R_drew)); exact HO304.out⟩, ⟨by repeat (first | (with_reducible first | exact HB.out | apply below_alloc | apply pw_below_drewN | apply below_drew1) | exact HB.out)⟩⟩
                      · rw [if_neg c40] at H
                        have c40b0 : (t302 == 0) = false := beq_eq_false_iff_ne.mpr c40
                        have c40b1 : (t302 != 0) = true := bne_iff_ne.mpr c40
                        (first | rw [c40b0] | (simp only [i64_w, i32_w]; rw [c40b0]) | rw [c40b2] | skip)
                        have H' := Aside0.mk H
                        clear H
                        go_wp2
                        repeat (go_quiet (fail); try go_wp2)
                        go_meet
                        case rel => exact ⟨_, (true), (by first | rfl | (simp; done) | (simp [*]; done)), H', ⟨by have := HJ4.out; have := HK2.out; first | omega | exact Nat.le_refl _⟩, ⟨by (with_reducible repeat (first | apply Kd.R_alloc | apply Kd.R_drewN | apply Kd.R_drew)); exact HO_6.out⟩, ⟨by (with_reducible repeat (first | apply Kd.R_alloc | apply Kd.R_drewN | apply Kd.R_drew)); exact HO304.out⟩, ⟨by repeat (first | (with_reducible first | exact HB.out | apply below_alloc | apply pw_below_drewN | apply below_drew1) | exact HB.out)⟩⟩
                    case rest =>
                      clear HC38
                      try clear c1
                      try clear c2
                      try clear p2
                      try clear q2
                      try clear hx2
                      try clear qi2
                      try clear c3
                      try clear q3
                      try clear c4
                      try clear c6
                      try clear p6
                      try clear c8
                      try clear c9
                      try clear c9b0
                      try clear c9b1
                      try clear c9b2
                      try clear c10
                      try clear c10b0
                      try clear c10b1
                      try clear c11
                      try clear c12
                      try clear c12b0
                      try clear c12b1
                      try clear c16
                      try clear c16b0
                      try clear c17
                      try clear c17b0
                      try clear c17b1
                      try clear c18
                      try clear c18b0
                      try clear c18b1
                      try clear c19
                      try clear c19b0
                      try clear c19b1
                      try clear c20
                      try clear c20b0
                      try clear c20b1
                      try clear c22
                      try clear c22b0
                      try clear c22b1
                      try clear c22b2
                      try clear c23
                      try clear q23
                      try clear c25
                      try clear c26
                      try clear c26b0
                      try clear c26b1
                      try clear c26b2
                      try clear c27
                      try clear c27b0
                      try clear c27b1
                      try clear c27b2
                      try clear p28
                      try clear q28
                      try clear hx28
                      try clear qi28
                      try clear c29
                      try clear c29b0
                      try clear p29
                      try clear q29
                      try clear hx29
                      try clear c30
                      try clear c30b0
                      try clear c32
                      try clear c32b0
                      try clear c32b1
                      try clear c32b2
                      try clear c33
                      try clear q33
                      try clear c36
                      try clear c36b0
                      try clear c36b1
                      try clear c40
                      try clear c40b0
                      try clear c40b1
                      try clear c40b2
                      try clear hx285_0
                      try clear hx298_0
                      try clear p2
                      try clear p285
                      try clear p298
                      try clear q023
                      try clear q033
                      try clear q2
                      try clear q23
                      try clear q285
                      try clear q298
                      try clear q33
                      obtain ⟨kq, x89_37, rfl, HA, HJ37, HO_6, HO_9, HB⟩ := hcut
                      cases kq with
                      | zero => exact absurd HA.out (by simp [tapearchivelaw28_LexerSeparators.j2])
                      | succ kj37 =>
                        have H := HA.out
                        clear HA
                        simp only [tapearchivelaw28_LexerSeparators.j2] at H
                        by_cases c44 : x89_37 = true
                        · subst c44
                          have H1 : (some false) = some r := by rw [if_pos rfl] at H; exact H
                          clear H
                          have H := H1
                          clear H1
                          obtain rfl := Option.some.inj H
                          go_wp2
                          repeat (go_quiet (fail); try go_wp2)
                          go_ret
                          exact ⟨by first | rfl | (simp [errW_none, errW_some] <;> rfl) | (simp [*, errW_none, errW_some] <;> rfl), by repeat (first | (with_reducible first | exact HB.out | apply below_alloc | apply pw_below_drewN | apply below_drew1) | exact HB.out)⟩
                        · replace c44 := Bool.eq_false_iff.mpr c44
                          subst c44
                          have H1 : (tapearchivelaw28_LexerSeparators.l1 kj37 x6_2 t300 0) = some r := by rw [if_neg (show ¬ (false = true) by decide)] at H; exact H
                          clear H
                          have H := H1
                          clear H1
                          have H' := Aside0.mk H
                          clear H
                          go_wp2
                          repeat (go_quiet (fail); try go_wp2)
                          go_loopg [12] kj37 (fun kq v12 w' => ∃ (x12_4 : Int), v12 = .int .i64 x12_4 ∧ Aside0 (tapearchivelaw28_LexerSeparators.l1 kq x6_2 t300 x12_4 = some r) ∧ Aside0 (kq ≤ kj37) ∧ Aside0 (Kd.R (Kd.int .i64) 3 w' w.heap.size (fun _ => True) u6 x6_2) ∧ Aside0 (Kd.R k36 36 w' w.heap.size (fun _ => True) v303 t300) ∧ Aside0 (Below w.heap.size w w'))
                          case atStart => exact ⟨(0), (by first | rfl | (simp; done) | (simp [*]; done)), H', ⟨Nat.le_refl _⟩, ⟨by (with_reducible repeat (first | apply Kd.R_alloc | apply Kd.R_drewN | apply Kd.R_drew)); exact HO_6.out⟩, ⟨by (with_reducible repeat (first | apply Kd.R_alloc | apply Kd.R_drewN | apply Kd.R_drew)); exact HO_9.out⟩, ⟨by repeat (first | (with_reducible first | exact HB.out | apply below_alloc | apply pw_below_drewN | apply below_drew1) | exact HB.out)⟩⟩
                          case round =>
                            clear H'
                            try clear c1
                            try clear c2
                            try clear p2
                            try clear q2
                            try clear hx2
                            try clear qi2
                            try clear c3
                            try clear q3
                            try clear c4
                            try clear c6
                            try clear p6
                            try clear c8
                            try clear c9
                            try clear c9b0
                            try clear c9b1
                            try clear c9b2
                            try clear c10
                            try clear c10b0
                            try clear c10b1
                            try clear c11
                            try clear c12
                            try clear c12b0
                            try clear c12b1
                            try clear c16
                            try clear c16b0
                            try clear c17
                            try clear c17b0
                            try clear c17b1
                            try clear c18
                            try clear c18b0
                            try clear c18b1
                            try clear c19
                            try clear c19b0
                            try clear c19b1
                            try clear c20
                            try clear c20b0
                            try clear c20b1
                            try clear c22
                            try clear c22b0
                            try clear c22b1
                            try clear c22b2
                            try clear c23
                            try clear q23
                            try clear c25
                            try clear c26
                            try clear c26b0
                            try clear c26b1
                            try clear c26b2
                            try clear c27
                            try clear c27b0
                            try clear c27b1
                            try clear c27b2
                            try clear p28
                            try clear q28
                            try clear hx28
                            try clear qi28
                            try clear c29
                            try clear c29b0
                            try clear p29
                            try clear q29
                            try clear hx29
                            try clear c30
                            try clear c30b0
                            try clear c32
                            try clear c32b0
                            try clear c32b1
                            try clear c32b2
                            try clear c33
                            try clear q33
                            try clear c36
                            try clear c36b0
                            try clear c36b1
                            try clear c40
                            try clear c40b0
                            try clear c40b1
                            try clear c40b2
                            try clear c44
                            try clear hx285_0
                            try clear hx298_0
                            try clear p2
                            try clear p28
                            try clear p285
                            try clear p29
                            try clear p298
                            try clear p6
                            try clear q023
                            try clear q033
                            try clear q2
                            try clear q23
                            try clear q28
                            try clear q285
                            try clear q29
                            try clear q298
                            try clear q3
                            try clear q33
                            obtain ⟨x12_4, rfl, HA, HK4, HO_6, HO_9, HB⟩ := hrel
                            cases gk with
                            | zero => exact absurd HA.out (by simp [tapearchivelaw28_LexerSeparators.l1])
                            | succ k4 =>
                              have H := HA.out
                              clear HA
                              simp only [tapearchivelaw28_LexerSeparators.l1] at H
                              by_cases c45 : x12_4 < (t300.length : Int)
                              · rw [if_pos c45] at H
                                have c45b0 : decide (x12_4 < (t300.length : Int)) = true := decide_eq_true c45
                                clear c45
                                by_cases c46 : 0 ≤ x12_4
                                · rw [if_pos c46] at H
                                  have c46b0 : decide (0 ≤ x12_4) = true := decide_eq_true c46
                                  clear c46
                                  by_cases c47 : x12_4 < (x6_2.length : Int)
                                  · rw [if_pos c47] at H
                                    have c47b0 : decide (x12_4 < (x6_2.length : Int)) = true := decide_eq_true c47
                                    clear c47
                                    by_cases c48 : ((rd_T36 t300 x12_4).f3) = (rd x6_2 x12_4)
                                    · rw [if_pos c48] at H
                                      have c48b0 : (((rd_T36 t300 x12_4).f3) == (rd x6_2 x12_4)) = true := beq_iff_eq.mpr c48
                                      have c48b1 : (((rd_T36 t300 x12_4).f3) != (rd x6_2 x12_4)) = false := bne_eq_false_iff_eq.mpr c48
                                      clear c48
                                      have H' := Aside0.mk H
                                      clear H
                                      obtain ⟨Ao49, co49, eo49⟩ := Kd.R_slice HO_9.out
                                      subst eo49
                                      have p306 : 0 ≤ (x12_4 : Int) := of_decide_eq_true (by first | (with_reducible assumption) | assumption)
                                      have q306 : x12_4 < (t300.length : Int) := of_decide_eq_true (by first | (with_reducible assumption) | assumption)
                                      obtain ⟨ad306, e306, hx306_0, hx306_1, hx306_2, hx306_3⟩ := at_T36 (Kd.R_reads' HO_9.out).2.2 x12_4 p306 q306
                                      cases e306
                                      replace p306 := eq_true p306
                                      replace q306 := eq_true q306
                                      obtain ⟨Ao50, co50, eo50⟩ := Kd.R_slice HO_6.out
                                      subst eo50
                                      have p307 : 0 ≤ (x12_4 : Int) := of_decide_eq_true (by first | (with_reducible assumption) | assumption)
                                      have q307 : x12_4 < (x6_2.length : Int) := of_decide_eq_true (by first | (with_reducible assumption) | assumption)
                                      obtain ⟨ad307, e307, hx307_0⟩ := Kd.at_int (Kd.R_reads' HO_6.out).2.2 x12_4 p307 q307
                                      cases e307
                                      replace p307 := eq_true p307
                                      replace q307 := eq_true q307
                                      go_wp2
                                      repeat (go_quiet (fail); try go_wp2)
                                      go_roundg k4
                                      case measure => have := HJ4.out; have := HK2.out; have := HJ37.out; have := HK4.out; omega
                                      case rel => exact ⟨(wrap64 (x12_4 + 1)), (by first | rfl | (simp; done) | (simp [*]; done)), H', ⟨by have := HJ4.out; have := HK2.out; have := HJ37.out; have := HK4.out; omega⟩, ⟨by (with_reducible repeat (first | apply Kd.R_alloc | apply Kd.R_drewN | apply Kd.R_drew)); exact HO_6.out⟩, ⟨by (with_reducible repeat (first | apply Kd.R_alloc | apply Kd.R_drewN | apply Kd.R_drew)); exact HO_9.out⟩, ⟨by repeat (first | (with_reducible first | exact HB.out | apply below_alloc | apply pw_below_drewN | apply below_drew1) | exact HB.out)⟩⟩
                                    · rw [if_neg c48] at H
                                      have c48b0 : (((rd_T36 t300 x12_4).f3) == (rd x6_2 x12_4)) = false := beq_eq_false_iff_ne.mpr c48
                                      have c48b1 : (((rd_T36 t300 x12_4).f3) != (rd x6_2 x12_4)) = true := bne_iff_ne.mpr c48
                                      obtain rfl := Option.some.inj H
                                      obtain ⟨Ao51, co51, eo51⟩ := Kd.R_slice HO_9.out
                                      subst eo51
                                      have p306 : 0 ≤ (x12_4 : Int) := of_decide_eq_true (by first | (with_reducible assumption) | assumption)
                                      have q306 : x12_4 < (t300.length : Int) := of_decide_eq_true (by first | (with_reducible assumption) | assumption)
                                      obtain ⟨ad306, e306, hx306_0, hx306_1, hx306_2, hx306_3⟩ := at_T36 (Kd.R_reads' HO_9.out).2.2 x12_4 p306 q306
                                      cases e306
                                      replace p306 := eq_true p306
                                      replace q306 := eq_true q306
                                      obtain ⟨Ao52, co52, eo52⟩ := Kd.R_slice HO_6.out
                                      subst eo52
                                      have p307 : 0 ≤ (x12_4 : Int) := of_decide_eq_true (by first | (with_reducible assumption) | assumption)
                                      have q307 : x12_4 < (x6_2.length : Int) := of_decide_eq_true (by first | (with_reducible assumption) | assumption)
                                      obtain ⟨ad307, e307, hx307_0⟩ := Kd.at_int (Kd.R_reads' HO_6.out).2.2 x12_4 p307 q307
                                      cases e307
                                      replace p307 := eq_true p307
                                      replace q307 := eq_true q307
                                      go_wp2
                                      repeat (go_quiet (fail); try go_wp2)
                                      go_ret
                                      exact ⟨by first | rfl | (simp [errW_none, errW_some] <;> rfl) | (simp [*, errW_none, errW_some] <;> rfl), by repeat (first | (with_reducible first | exact HB.out | apply below_alloc | apply pw_below_drewN | apply below_drew1) | exact HB.out)⟩
                                  · rw [if_neg c47] at H
                                    exact absurd H (by simp)
                                · rw [if_neg c46] at H
                                  exact absurd H (by simp)
                              · rw [if_neg c45] at H
                                have c45b0 : decide (x12_4 < (t300.length : Int)) = false := decide_eq_false c45
                                clear c45
                                obtain rfl := Option.some.inj H
                                obtain ⟨Ao53, co53, eo53⟩ := Kd.R_slice HO_9.out
                                subst eo53
                                go_wp2
                                repeat (go_quiet (fail); try go_wp2)
                                go_ret
                                exact ⟨by first | rfl | (simp [errW_none, errW_some] <;> rfl) | (simp [*, errW_none, errW_some] <;> rfl), by repeat (first | (with_reducible first | exact HB.out | apply below_alloc | apply pw_below_drewN | apply below_drew1) | exact HB.out)⟩
          · rw [if_neg c12] at H
            exact absurd H (by simp)
  · replace c4 := Bool.eq_false_iff.mpr c4
    subst c4
    have H1 : (some false) = some r := by rw [if_neg (show ¬ (false = true) by decide)] at H; exact H
    clear H
    have H := H1
    clear H1
    obtain rfl := Option.some.inj H
    go_enter Tryd.func6, Tryd.ntmps6
    go_wp2_with (first | (go_at_call 9; (with_reducible refine (tapearchivelaw28_lives.calls k  false _ ?side1 A3.out).mono ?_); (case side1 => exact Go.Proofs.YtifhmdlgjojodaaDoorX.Glob.below hG (by repeat (first | (with_reducible first | exact HB.out | apply below_alloc | apply pw_below_drewN | apply below_drew1) | exact HB.out))); rintro e w54 ⟨rfl, hb⟩; have n0_ := Aside0.mk (below_step (by repeat (first | (with_reducible first | exact HB.out | apply below_alloc | apply pw_below_drewN | apply below_drew1) | exact HB.out)) hb); clear HB; have HB := n0_; clear n0_; (try clear hb); (try clear hb2); (try clear hk); (try clear hi)))
    repeat (go_quiet (first | (go_at_call 9; (with_reducible refine (tapearchivelaw28_lives.calls k  false _ ?side1 A3.out).mono ?_); (case side1 => exact Go.Proofs.YtifhmdlgjojodaaDoorX.Glob.below hG (by repeat (first | (with_reducible first | exact HB.out | apply below_alloc | apply pw_below_drewN | apply below_drew1) | exact HB.out))); rintro e w54 ⟨rfl, hb⟩; have n0_ := Aside0.mk (below_step (by repeat (first | (with_reducible first | exact HB.out | apply below_alloc | apply pw_below_drewN | apply below_drew1) | exact HB.out)) hb); clear HB; have HB := n0_; clear n0_; (try clear hb); (try clear hb2); (try clear hk); (try clear hi))); try go_wp2_with (first | (go_at_call 9; (with_reducible refine (tapearchivelaw28_lives.calls k  false _ ?side1 A3.out).mono ?_); (case side1 => exact Go.Proofs.YtifhmdlgjojodaaDoorX.Glob.below hG (by repeat (first | (with_reducible first | exact HB.out | apply below_alloc | apply pw_below_drewN | apply below_drew1) | exact HB.out))); rintro e w54 ⟨rfl, hb⟩; have n0_ := Aside0.mk (below_step (by repeat (first | (with_reducible first | exact HB.out | apply below_alloc | apply pw_below_drewN | apply below_drew1) | exact HB.out)) hb); clear HB; have HB := n0_; clear n0_; (try clear hb); (try clear hb2); (try clear hk); (try clear hi))))
    go_ret
    exact ⟨by first | rfl | (simp [errW_none, errW_some] <;> rfl) | (simp [*, errW_none, errW_some] <;> rfl), by repeat (first | (with_reducible first | exact HB.out | apply below_alloc | apply pw_below_drewN | apply below_drew1) | exact HB.out)⟩
end Go.Proofs.YtifhmdlgjojodaaDoor.Q
end
section
namespace Go.Proofs.YtifhmdlgjojodaaDoor.SLexerSeparators
open Go.RowKit Go.Proofs.YtifhmdlgjojodaaDoor.Q Go.Proofs.YtifhmdlgjojodaaDoorW.PrintWords Go.Proofs.YtifhmdlgjojodaaDoorW.PrintLast Go.Proofs.YtifhmdlgjojodaaDoorW.Opens Go.Proofs.YtifhmdlgjojodaaDoorW
set_option linter.unusedVariables false
def Wf_t35 (x : S36) : Prop := (Lit.int .i64 x.f0).wf = true ∧ x.f1.size ≤ 140737488351232 ∧ (Lit.int .i64 x.f2).wf = true ∧ (Lit.int .i64 x.f3).wf = true
theorem open_t36 (n : Nat) : OpensN Tryd.prog n 36 k36 Wf_t35 :=
  Opens.opens_le (Opens.opens_struct (n := n) Tryd.underlying36 (by kernel_rfl) (fun y => ⟨⟨y.1, y.2.1, y.2.2.1, y.2.2.2⟩, rfl⟩) (Opens.opensF_cons rfl (by kernel_rfl) (Opens.opens_int n Tryd.underlying3) (Opens.opensF_cons rfl (by kernel_rfl) (Opens.opens_string n Tryd.underlying9) (Opens.opensF_cons rfl (by kernel_rfl) (Opens.opens_int n Tryd.underlying3) (Opens.opensF_one rfl (by kernel_rfl) (Opens.opens_int n Tryd.underlying3)))))) (Nat.le_succ n)
def Pure : Prop := ∀ (x0 : List (S36)) (x1 : List Int), (x0.length ≤ maxLen ∧ x0.length * 40 ≤ 140737488351232 ∧ ∀ y ∈ x0, Wf_t35 y) → (x1.length ≤ maxLen ∧ x1.length * 1 ≤ 140737488351232 ∧ ∀ y ∈ x1, (Lit.int .u8 y).wf = true) → ∃ k, tapearchivelaw28_LexerSeparators.f k x0 x1 = some true
end Go.Proofs.YtifhmdlgjojodaaDoor.SLexerSeparators
end
section
namespace Go.Proofs.YtifhmdlgjojodaaDoor.Lex
open Go.RowKit Go.Proofs.YtifhmdlgjojodaaDoorW.PrintWords Go.Proofs.YtifhmdlgjojodaaDoorW.EvMore
def dig (c : UInt8) : Bool := decide (48 ≤ c.toNat) && decide (c.toNat ≤ 57)
def alp (c : UInt8) : Bool := (decide (97 ≤ c.toNat) && decide (c.toNat ≤ 122)) || (decide (65 ≤ c.toNat) && decide (c.toNat ≤ 90))
def nam (c : UInt8) : Bool := alp c || dig c || c == 95 || c == 45 || c == 46 || c == 47 || c == 42 || c == 63
def pln (c : UInt8) : Bool := decide (32 ≤ c.toNat) && decide (c.toNat ≤ 126) && c != 34
def sym (c : UInt8) : Bool := c == 40 || c == 41 || c == 123 || c == 125 || c == 60 || c == 61 || c == 33 || c == 59 || c == 44 || c == 58
def symT (l : List UInt8) : Bool := l == [62, 61] || (match l with | [c] => sym c | _ => false)
def unit (l : List UInt8) : Nat × Bool :=
  if l = [75] then (1024, true) else if l = [77] then (1048576, true) else if l = [115] then (1, true) else if l = [109] then (60, true) else if l = [104] then (3600, true) else if l = [100] then (86400, true) else (0, false)
def val (l : List UInt8) : Nat := l.foldl (fun n c => 10 * n + (c.toNat - 48)) 0
abbrev Tk := Int × List UInt8 × Int × Nat × Int
def bad (e : Int) : Tk := (0, [], 0, 0, e)
def numFin (ds rs : List UInt8) (f : Nat) : Tk :=
  if 1 < ds.length ∧ ds.head? = some 48 then bad 1
  else if 1125899906842624 / f < val ds then bad 7
  else (2, [], ((val ds * f : Nat) : Int), ds.length + rs.length, 0)
def numTk (l : List UInt8) : Tk :=
  let ds := l.takeWhile dig
  let rs := (l.drop ds.length).takeWhile nam
  if rs = [] then numFin ds rs 1
  else if (unit rs).2 = true then numFin ds rs (unit rs).1
  else bad 1
def txtTk (r : List UInt8) : Tk :=
  let t := r.takeWhile pln
  if r[t.length]? = some 34 then (3, t, 0, t.length + 2, 0) else bad 1
def tk : List UInt8 → Tk
  | [] => bad 1
  | c :: r =>
    if dig c = true then numTk (c :: r)
    else if c = 34 then txtTk r
    else if (nam c && c != 45) = true then (1, (c :: r).takeWhile nam, 0, ((c :: r).takeWhile nam).length, 0)
    else if c = 62 ∧ r.head? = some 61 then (4, [62, 61], 0, 2, 0)
    else if sym c = true then (4, [c], 0, 1, 0)
    else bad 1
def blank : List UInt8 → Bool → Nat
  | [], _ => 0
  | c :: r, false => if c = 32 ∨ c = 10 then 1 + blank r false else if c = 35 then 1 + blank r true else 0
  | c :: r, true => if c = 10 then 1 + blank r false else 1 + blank r true
structure Tok where
  kind : Int
  text : List UInt8
  int : Int
  at_ : Nat
def lexGo : Nat → Nat → List UInt8 → List Tok × Int × Int
  | 0, _, _ => ([], 0, 0)
  | f + 1, p, l =>
    if l = [] then ([], 0, 0)
    else
      let t := tk l
      if t.2.2.2.2 ≠ 0 then ([], p, t.2.2.2.2)
      else
        let l' := l.drop t.2.2.2.1
        let b := blank l' false
        let r := lexGo f (p + t.2.2.2.1 + b) (l'.drop b)
        if r.2.2 ≠ 0 then ([], r.2.1, r.2.2) else (⟨t.1, t.2.1, t.2.2.1, p⟩ :: r.1, 0, 0)
def lex (l : List UInt8) : List Tok × Int × Int :=
  if 16384 < l.length then ([], 0, 6) else lexGo (l.length + 1) (blank l false) (l.drop (blank l false))
theorem blank_le : ∀ (l : List UInt8) (c : Bool), blank l c ≤ l.length
  | [], c => by simp [blank]
  | x :: r, false => by
    have h1 := blank_le r false
    have h2 := blank_le r true
    simp only [blank, List.length_cons]
    split
    · omega
    · split <;> omega
  | x :: r, true => by
    have h1 := blank_le r false
    have h2 := blank_le r true
    simp only [blank, List.length_cons]
    split <;> omega
theorem unit_one {l : List UInt8} (h : (unit l).2 = true) : 1 ≤ (unit l).1 ∧ (unit l).1 ≤ 1048576 ∧ l.length = 1 := by
  unfold unit at h ⊢
  repeat' split
  all_goals simp_all
theorem tk_len (l : List UInt8) (h : (tk l).2.2.2.2 = 0) : 1 ≤ (tk l).2.2.2.1 ∧ (tk l).2.2.2.1 ≤ l.length := by
  cases l with
  | nil => simp [tk, bad] at h
  | cons c r =>
    simp only [tk] at h ⊢
    split
    · rename_i hd
      rw [if_pos hd] at h
      have hl : 1 ≤ ((c :: r).takeWhile dig).length := by simp [List.takeWhile_cons, hd]
      have h2 : ((c :: r).takeWhile dig).length ≤ (c :: r).length := (List.takeWhile_sublist _).length_le
      have h3 : (((c :: r).drop ((c :: r).takeWhile dig).length).takeWhile nam).length ≤ ((c :: r).drop ((c :: r).takeWhile dig).length).length := (List.takeWhile_sublist _).length_le
      rw [List.length_drop] at h3
      have fin : ∀ f, (numFin ((c :: r).takeWhile dig) (((c :: r).drop ((c :: r).takeWhile dig).length).takeWhile nam) f).2.2.2.2 = 0 →
          1 ≤ (numFin ((c :: r).takeWhile dig) (((c :: r).drop ((c :: r).takeWhile dig).length).takeWhile nam) f).2.2.2.1 ∧ (numFin ((c :: r).takeWhile dig) (((c :: r).drop ((c :: r).takeWhile dig).length).takeWhile nam) f).2.2.2.1 ≤ (c :: r).length := by
        intro f hf
        unfold numFin at hf ⊢
        split
        · rename_i h0; rw [if_pos h0] at hf; simp [bad] at hf
        · rename_i h0
          rw [if_neg h0] at hf
          split
          · rename_i h1; rw [if_pos h1] at hf; simp [bad] at hf
          · exact ⟨by show 1 ≤ _ + _; omega, by show _ + _ ≤ _; omega⟩
      unfold numTk at h ⊢
      simp only at h ⊢
      split
      · rename_i h0; rw [if_pos h0] at h; exact fin _ h
      · rename_i h0
        rw [if_neg h0] at h
        split
        · rename_i h1; rw [if_pos h1] at h; exact fin _ h
        · rename_i h1; rw [if_neg h1] at h; simp [bad] at h
    · rename_i hd
      rw [if_neg hd] at h
      split
      · rename_i hq
        rw [if_pos hq] at h
        unfold txtTk at h ⊢
        simp only at h ⊢
        split
        · rename_i h1
          obtain ⟨hlt, _⟩ := List.getElem?_eq_some_iff.1 h1
          exact ⟨by show 1 ≤ _ + 2; omega, by show _ + 2 ≤ _; simp only [List.length_cons]; omega⟩
        · rename_i h1; rw [if_neg h1] at h; simp [bad] at h
      · rename_i hq
        rw [if_neg hq] at h
        split
        · rename_i hn
          have hn' : nam c = true := by simp at hn; exact hn.1
          have h2 : ((c :: r).takeWhile nam).length ≤ (c :: r).length := (List.takeWhile_sublist _).length_le
          refine ⟨?_, h2⟩
          show 1 ≤ ((c :: r).takeWhile nam).length
          simp [List.takeWhile_cons, hn']
        · rename_i hn
          rw [if_neg hn] at h
          split
          · rename_i h1
            have : r ≠ [] := by rintro rfl; simp at h1
            have : 1 ≤ r.length := by cases r with | nil => exact absurd rfl this | cons _ _ => simp
            exact ⟨by show 1 ≤ 2; omega, by show 2 ≤ _; simp only [List.length_cons]; omega⟩
          · rename_i h1
            rw [if_neg h1] at h
            split
            · exact ⟨Nat.le_refl 1, by show 1 ≤ _; simp⟩
            · rename_i h2; rw [if_neg h2] at h; simp [bad] at h
end Go.Proofs.YtifhmdlgjojodaaDoor.Lex
end
