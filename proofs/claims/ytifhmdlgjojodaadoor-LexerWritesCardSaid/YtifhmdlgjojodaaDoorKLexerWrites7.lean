import Derived.Test.YtifhmdlgjojodaaDoorKLexerWrites6
set_option linter.unusedVariables false
set_option linter.unusedSimpArgs false
section
namespace Go.Proofs.YtifhmdlgjojodaaDoor.Q
open Go.RowKit Go.Proofs.YtifhmdlgjojodaaDoorW.PrintWords Go.Proofs.YtifhmdlgjojodaaDoorW.PrintLast Go.Proofs.YtifhmdlgjojodaaDoorW.PrintMore
attribute [local go_sem] max2_int min2_int max_two min_two max_three min_three max_four min_four
attribute [local go_sem ↓] isSome_setCell
set_option linter.unusedVariables false
set_option linter.unusedSimpArgs false
mutual
def tapearchiveref28_Text.l0 : Nat → List (S36) → ByteArray → Int → Option (ByteArray)
  | 0, _, _, _ => none
  | k + 1, x0, x3, x4 => if x4 < (x0.length : Int) then (if 0 ≤ x4 then ((tapearchiveref28_Valid.f k ((rd_T36 x0 x4).f0) ((rd_T36 x0 x4).f1) ((rd_T36 x0 x4).f2) ((rd_T36 x0 x4).f3)).bind fun t247 => (if t247 = true then (tapearchiveref28_Text.j1 k x0 x3 x4 (decide ((x3.size : Int) > 16384))) else (tapearchiveref28_Text.j1 k x0 x3 x4 true))) else (none)) else (if (x3.size : Int) > 16384 then (some (⟨#[]⟩ : ByteArray)) else (some x3))
def tapearchiveref28_Text.j1 : Nat → List (S36) → ByteArray → Int → Bool → Option (ByteArray)
  | 0, _, _, _, _ => none
  | k + 1, x0, x3, x4, x21 => if x21 = true then (some (⟨#[]⟩ : ByteArray)) else (if x4 > 0 then (if x3.size + 1 ≤ 9223372036854775807 then (tapearchiveref28_Text.j2 k x0 (x3 ++ (⟨#[32]⟩ : ByteArray)) x4) else (none)) else (tapearchiveref28_Text.j2 k x0 x3 x4))
def tapearchiveref28_Text.j2 : Nat → List (S36) → ByteArray → Int → Option (ByteArray)
  | 0, _, _, _ => none
  | k + 1, x0, x3, x4 => if 0 ≤ x4 then (if x4 < (x0.length : Int) then (if ((rd_T36 x0 x4).f0) = 2 then ((tapearchiveref28_Decimal.f k ((rd_T36 x0 x4).f2)).bind fun t250 => (if x3.size + t250.size ≤ 9223372036854775807 then (tapearchiveref28_Text.l0 k x0 (x3 ++ t250) (wrap64 (x4 + 1))) else (none))) else (if ((rd_T36 x0 x4).f0) = 3 then ((tapearchiveref28_Quote.f k ((rd_T36 x0 x4).f1)).bind fun t252 => (if x3.size + t252.size ≤ 9223372036854775807 then (tapearchiveref28_Text.l0 k x0 (x3 ++ t252) (wrap64 (x4 + 1))) else (none))) else (if x3.size + ((rd_T36 x0 x4).f1).size ≤ 9223372036854775807 then (tapearchiveref28_Text.l0 k x0 (x3 ++ ((rd_T36 x0 x4).f1)) (wrap64 (x4 + 1))) else (none)))) else (none)) else (none)
end
def tapearchiveref28_Text.f (k : Nat) (l0 : List (S36)) : Option (ByteArray) := tapearchiveref28_Text.l0 k l0 (⟨#[]⟩ : ByteArray) 0
set_option maxHeartbeats 8000000 in
set_option maxRecDepth 100000 in
theorem tapearchiveref28_Text.calls (k : Nat) (A0 : Option Addr) (c0 : Nat) (l0 : List (S36)) (r : ByteArray) (w : World) (hr0 : Kd.C k36 w A0 l0.length l0) (hc0 : l0.length ≤ c0) (h : tapearchiveref28_Text.f k l0 = some r) :
    Calls Tryd.prog 17 #[.slice A0 l0.length c0] w fun e w' => e = .returned (.string r) ∧ Below w.heap.size w w' := by
  have hu36 := Tryd.underlying36
  have HR0 := Aside0.mk hr0
  have HC0 := Aside0.mk hc0
  clear hr0 hc0
  have HB := Aside0.mk (Below.refl w.heap.size w)
  have H : (tapearchiveref28_Text.l0 k l0 (⟨#[]⟩ : ByteArray) 0) = some r := h
  clear h
  have H' := Aside0.mk H
  clear H
  go_enter Tryd.func17, Tryd.ntmps17
  go_wp2
  go_loopg [3, 4] k (fun kq v3 v4 w' => ∃ (x3_1 : ByteArray) (x4_1 : Int), v3 = .string x3_1 ∧ v4 = .int .i64 x4_1 ∧ Aside0 (tapearchiveref28_Text.l0 kq l0 x3_1 x4_1 = some r) ∧ Aside0 (kq ≤ k) ∧ Aside0 (Below w.heap.size w w'))
  case atStart => exact ⟨((⟨#[]⟩ : ByteArray)), (0), (by first | rfl | (simp; done) | (simp [*]; done)), (by first | rfl | (simp; done) | (simp [*]; done)), H', ⟨Nat.le_refl _⟩, ⟨by repeat (first | (with_reducible first | exact HB.out | apply below_alloc | apply pw_below_drewN | apply below_drew1) | exact HB.out)⟩⟩
  case round =>
    clear H'
    try clear c1
    obtain ⟨x3_1, x4_1, rfl, rfl, HA, HK1, HB⟩ := hrel
    cases gk with
    | zero => exact absurd HA.out (by simp [tapearchiveref28_Text.l0])
    | succ k1 =>
      have H := HA.out
      clear HA
      simp only [tapearchiveref28_Text.l0] at H
      by_cases c2 : x4_1 < (l0.length : Int)
      · rw [if_pos c2] at H
        have c2b0 : decide (x4_1 < (l0.length : Int)) = true := decide_eq_true c2
        clear c2
        have HC3 := Aside0.mk H
        clear H
        go_upto_region 5 with (fail)
        go_cut [21] (fun v21 wc => ∃ (kq : Nat) (x21_2 : Bool), v21 = .bool x21_2 ∧ Aside0 (tapearchiveref28_Text.j1 kq l0 x3_1 x4_1 x21_2 = some r) ∧ Aside0 (kq ≤ k1) ∧ Aside0 (Below w.heap.size w wc))
        case first =>
          have H := HC3.out
          clear HC3
          by_cases c4 : 0 ≤ x4_1
          · rw [if_pos c4] at H
            have c4b0 : decide (0 ≤ x4_1) = true := decide_eq_true c4
            clear c4
            (first | rw [c4b0] | (simp only [i64_w, i32_w]; rw [c4b0]) | rw [c4b2] | skip)
            replace H := Option.bind_eq_some_iff.mp H
            obtain ⟨t247, A50, H⟩ := H
            replace H : (if t247 = true then (tapearchiveref28_Text.j1 k1 l0 x3_1 x4_1 (decide ((x3_1.size : Int) > 16384))) else (tapearchiveref28_Text.j1 k1 l0 x3_1 x4_1 true)) = some r := H
            have A5 := Aside0.mk A50
            clear A50
            by_cases c6 : t247 = true
            · subst c6
              have H1 : (tapearchiveref28_Text.j1 k1 l0 x3_1 x4_1 (decide ((x3_1.size : Int) > 16384))) = some r := by rw [if_pos rfl] at H; exact H
              clear H
              have H := H1
              clear H1
              have H' := Aside0.mk H
              clear H
              have p246 : 0 ≤ (x4_1 : Int) := of_decide_eq_true (by first | (with_reducible assumption) | assumption)
              have q246 : x4_1 < (l0.length : Int) := of_decide_eq_true (by first | (with_reducible assumption) | assumption)
              obtain ⟨ad246, e246, hx246_0, hx246_1, hx246_2, hx246_3⟩ := at_T36 HR0.out x4_1 p246 q246
              cases e246
              replace hx246_0 := (HB.out.cell (World.block_lt_of_cell? w _ hx246_0)).trans hx246_0
              replace hx246_1 := (HB.out.cell (World.block_lt_of_cell? w _ hx246_1)).trans hx246_1
              replace hx246_2 := (HB.out.cell (World.block_lt_of_cell? w _ hx246_2)).trans hx246_2
              replace hx246_3 := (HB.out.cell (World.block_lt_of_cell? w _ hx246_3)).trans hx246_3
              replace p246 := eq_true p246
              replace q246 := eq_true q246
              go_wp2_with (first | ((with_reducible refine gate_callee (f := 28) rfl ?_); refine goesL_ (some 15) rfl rfl Tryd.func28 (by kernel_rfl) rfl #[.agg #[.int .i64 ((rd_T36 l0 x4_1).f0), .string ((rd_T36 l0 x4_1).f1), .int .i64 ((rd_T36 l0 x4_1).f2), .int .i64 ((rd_T36 l0 x4_1).f3)]] rfl (by (try simp only [List.map_toArray, List.map_cons, List.map_nil]); first | done | rfl | (simp only [List.length_drop, List.length_take]; rfl)) ?_; (with_reducible refine (tapearchiveref28_Valid.calls k1 ((rd_T36 l0 x4_1).f0) ((rd_T36 l0 x4_1).f1) ((rd_T36 l0 x4_1).f2) ((rd_T36 l0 x4_1).f3) true _ A5.out).mono ?_); rintro e w7 ⟨rfl, hb⟩; refine ⟨_, rfl, ?_⟩; have n0_ := Aside0.mk (below_step (by repeat (first | (with_reducible first | exact HB.out | apply below_alloc | apply pw_below_drewN | apply below_drew1) | exact HB.out)) hb); clear HB; have HB := n0_; clear n0_; (try clear hb); (try clear hb2); (try clear hk); (try clear hi)))
              go_meet
              case rel => exact ⟨_, (decide ((x3_1.size : Int) > 16384)), (by first | rfl | (simp; done) | (simp [*]; done)), H', ⟨by have := HK1.out; first | omega | exact Nat.le_refl _⟩, ⟨by repeat (first | (with_reducible first | exact HB.out | apply below_alloc | apply pw_below_drewN | apply below_drew1) | exact HB.out)⟩⟩
            · replace c6 := Bool.eq_false_iff.mpr c6
              subst c6
              have H1 : (tapearchiveref28_Text.j1 k1 l0 x3_1 x4_1 true) = some r := by rw [if_neg (show ¬ (false = true) by decide)] at H; exact H
              clear H
              have H := H1
              clear H1
              have H' := Aside0.mk H
              clear H
              have p246 : 0 ≤ (x4_1 : Int) := of_decide_eq_true (by first | (with_reducible assumption) | assumption)
              have q246 : x4_1 < (l0.length : Int) := of_decide_eq_true (by first | (with_reducible assumption) | assumption)
              obtain ⟨ad246, e246, hx246_0, hx246_1, hx246_2, hx246_3⟩ := at_T36 HR0.out x4_1 p246 q246
              cases e246
              replace hx246_0 := (HB.out.cell (World.block_lt_of_cell? w _ hx246_0)).trans hx246_0
              replace hx246_1 := (HB.out.cell (World.block_lt_of_cell? w _ hx246_1)).trans hx246_1
              replace hx246_2 := (HB.out.cell (World.block_lt_of_cell? w _ hx246_2)).trans hx246_2
              replace hx246_3 := (HB.out.cell (World.block_lt_of_cell? w _ hx246_3)).trans hx246_3
              replace p246 := eq_true p246
              replace q246 := eq_true q246
              go_wp2_with (first | ((with_reducible refine gate_callee (f := 28) rfl ?_); refine goesL_ (some 15) rfl rfl Tryd.func28 (by kernel_rfl) rfl #[.agg #[.int .i64 ((rd_T36 l0 x4_1).f0), .string ((rd_T36 l0 x4_1).f1), .int .i64 ((rd_T36 l0 x4_1).f2), .int .i64 ((rd_T36 l0 x4_1).f3)]] rfl (by (try simp only [List.map_toArray, List.map_cons, List.map_nil]); first | done | rfl | (simp only [List.length_drop, List.length_take]; rfl)) ?_; (with_reducible refine (tapearchiveref28_Valid.calls k1 ((rd_T36 l0 x4_1).f0) ((rd_T36 l0 x4_1).f1) ((rd_T36 l0 x4_1).f2) ((rd_T36 l0 x4_1).f3) false _ A5.out).mono ?_); rintro e w8 ⟨rfl, hb⟩; refine ⟨_, rfl, ?_⟩; have n0_ := Aside0.mk (below_step (by repeat (first | (with_reducible first | exact HB.out | apply below_alloc | apply pw_below_drewN | apply below_drew1) | exact HB.out)) hb); clear HB; have HB := n0_; clear n0_; (try clear hb); (try clear hb2); (try clear hk); (try clear hi)))
              go_meet
              case rel => exact ⟨_, (true), (by first | rfl | (simp; done) | (simp [*]; done)), H', ⟨by have := HK1.out; first | omega | exact Nat.le_refl _⟩, ⟨by repeat (first | (with_reducible first | exact HB.out | apply below_alloc | apply pw_below_drewN | apply below_drew1) | exact HB.out)⟩⟩
          · rw [if_neg c4] at H
            exact absurd H (by simp)
        case rest =>
          clear HC3
          try clear c1
          try clear c2
          try clear c2b0
          try clear p2
          try clear q2
          try clear hx2
          try clear c4
          try clear c4b0
          try clear c4b2
          try clear c6
          try clear hx246_0
          try clear hx246_1
          try clear hx246_2
          try clear hx246_3
          try clear p246
          try clear q246
          obtain ⟨kq, x21_2, rfl, HA, HJ2, HB⟩ := hcut
          cases kq with
          | zero => exact absurd HA.out (by simp [tapearchiveref28_Text.j1])
          | succ kj2 =>
            have H := HA.out
            clear HA
            simp only [tapearchiveref28_Text.j1] at H
            by_cases c9 : x21_2 = true
            · subst c9
              have H1 : (some (⟨#[]⟩ : ByteArray)) = some r := by rw [if_pos rfl] at H; exact H
              clear H
              have H := H1
              clear H1
              obtain rfl := Option.some.inj H
              go_wp2
              go_ret
              exact ⟨by first | rfl | (simp [errW_none, errW_some] <;> rfl) | (simp [*, errW_none, errW_some] <;> rfl), by repeat (first | (with_reducible first | exact HB.out | apply below_alloc | apply pw_below_drewN | apply below_drew1) | exact HB.out)⟩
            · replace c9 := Bool.eq_false_iff.mpr c9
              subst c9
              have H1 : (if x4_1 > 0 then (if x3_1.size + 1 ≤ 9223372036854775807 then (tapearchiveref28_Text.j2 kj2 l0 (x3_1 ++ (⟨#[32]⟩ : ByteArray)) x4_1) else (none)) else (tapearchiveref28_Text.j2 kj2 l0 x3_1 x4_1)) = some r := by rw [if_neg (show ¬ (false = true) by decide)] at H; exact H
              clear H
              have H := H1
              clear H1
              have HC10 := Aside0.mk H
              clear H
              go_upto_if 23 with (fail)
              go_cut [3] (fun v3 wc => ∃ (kq : Nat) (x3_9 : ByteArray), v3 = .string x3_9 ∧ Aside0 (tapearchiveref28_Text.j2 kq l0 x3_9 x4_1 = some r) ∧ Aside0 (kq ≤ kj2) ∧ Aside0 (Below w.heap.size w wc))
              case first =>
                have H := HC10.out
                clear HC10
                by_cases c11 : x4_1 > 0
                · rw [if_pos c11] at H
                  have c11b0 : decide (0 < x4_1) = true := decide_eq_true c11
                  clear c11
                  (first | rw [c11b0] | (simp only [i64_w, i32_w]; rw [c11b0]) | rw [c11b2] | skip)
                  by_cases c12 : x3_1.size + 1 ≤ 9223372036854775807
                  · rw [if_pos c12] at H
                    have c12b0 := eq_true c12
                    have c12b1 : decide (x3_1.size + 1 ≤ 9223372036854775807) = true := decide_eq_true c12
                    try have c12b2 : (9223372036854775807 < x3_1.size + 1) = False := eq_false (Nat.not_lt.2 c12)
                    have H' := Aside0.mk H
                    clear H
                    go_wp2
                    go_meet
                    case rel => exact ⟨_, (x3_1 ++ (⟨#[32]⟩ : ByteArray)), (by first | rfl | (simp; done) | (simp [*]; done)), H', ⟨by have := HK1.out; have := HJ2.out; first | omega | exact Nat.le_refl _⟩, ⟨by repeat (first | (with_reducible first | exact HB.out | apply below_alloc | apply pw_below_drewN | apply below_drew1) | exact HB.out)⟩⟩
                  · rw [if_neg c12] at H
                    exact absurd H (by simp)
                · rw [if_neg c11] at H
                  have c11b0 : decide (0 < x4_1) = false := decide_eq_false c11
                  clear c11
                  (first | rw [c11b0] | (simp only [i64_w, i32_w]; rw [c11b0]) | rw [c11b2] | skip)
                  have H' := Aside0.mk H
                  clear H
                  go_wp2
                  go_meet
                  case rel => exact ⟨_, (x3_1), (by first | rfl | (simp; done) | (simp [*]; done)), H', ⟨by have := HK1.out; have := HJ2.out; first | omega | exact Nat.le_refl _⟩, ⟨by repeat (first | (with_reducible first | exact HB.out | apply below_alloc | apply pw_below_drewN | apply below_drew1) | exact HB.out)⟩⟩
              case rest =>
                clear HC10
                try clear c1
                try clear c2
                try clear c2b0
                try clear p2
                try clear q2
                try clear hx2
                try clear c4
                try clear c4b0
                try clear c4b2
                try clear c6
                try clear c9
                try clear c11
                try clear c11b0
                try clear c11b2
                try clear c12
                try clear c12b0
                try clear c12b1
                try clear c12b2
                try clear hx246_0
                try clear hx246_1
                try clear hx246_2
                try clear hx246_3
                try clear p2
                try clear p246
                try clear q2
                try clear q246
                obtain ⟨kq, x3_9, rfl, HA, HJ9, HB⟩ := hcut
                cases kq with
                | zero => exact absurd HA.out (by simp [tapearchiveref28_Text.j2])
                | succ kj9 =>
                  have H := HA.out
                  clear HA
                  simp only [tapearchiveref28_Text.j2] at H
                  by_cases c13 : 0 ≤ x4_1
                  · rw [if_pos c13] at H
                    have c13b0 : decide (0 ≤ x4_1) = true := decide_eq_true c13
                    clear c13
                    by_cases c14 : x4_1 < (l0.length : Int)
                    · rw [if_pos c14] at H
                      have c14b0 : decide (x4_1 < (l0.length : Int)) = true := decide_eq_true c14
                      clear c14
                      by_cases c15 : ((rd_T36 l0 x4_1).f0) = 2
                      · rw [if_pos c15] at H
                        have c15b0 : (((rd_T36 l0 x4_1).f0) == 2) = true := beq_iff_eq.mpr c15
                        have c15b1 : (((rd_T36 l0 x4_1).f0) != 2) = false := bne_eq_false_iff_eq.mpr c15
                        clear c15
                        replace H := Option.bind_eq_some_iff.mp H
                        obtain ⟨t250, A160, H⟩ := H
                        replace H : (if x3_9.size + t250.size ≤ 9223372036854775807 then (tapearchiveref28_Text.l0 kj9 l0 (x3_9 ++ t250) (wrap64 (x4_1 + 1))) else (none)) = some r := H
                        have A16 := Aside0.mk A160
                        clear A160
                        by_cases c17 : x3_9.size + t250.size ≤ 9223372036854775807
                        · rw [if_pos c17] at H
                          have c17b0 := eq_true c17
                          have c17b1 : decide (x3_9.size + t250.size ≤ 9223372036854775807) = true := decide_eq_true c17
                          try have c17b2 : (9223372036854775807 < x3_9.size + t250.size) = False := eq_false (Nat.not_lt.2 c17)
                          have H' := Aside0.mk H
                          clear H
                          have p248 : 0 ≤ (x4_1 : Int) := of_decide_eq_true (by first | (with_reducible assumption) | assumption)
                          have q248 : x4_1 < (l0.length : Int) := of_decide_eq_true (by first | (with_reducible assumption) | assumption)
                          obtain ⟨ad248, e248, hx248_0, hx248_1, hx248_2, hx248_3⟩ := at_T36 HR0.out x4_1 p248 q248
                          cases e248
                          replace hx248_0 := (HB.out.cell (World.block_lt_of_cell? w _ hx248_0)).trans hx248_0
                          replace hx248_1 := (HB.out.cell (World.block_lt_of_cell? w _ hx248_1)).trans hx248_1
                          replace hx248_2 := (HB.out.cell (World.block_lt_of_cell? w _ hx248_2)).trans hx248_2
                          replace hx248_3 := (HB.out.cell (World.block_lt_of_cell? w _ hx248_3)).trans hx248_3
                          replace p248 := eq_true p248
                          replace q248 := eq_true q248
                          have p249 : 0 ≤ (x4_1 : Int) := of_decide_eq_true (by first | (with_reducible assumption) | assumption)
                          have q249 : x4_1 < (l0.length : Int) := of_decide_eq_true (by first | (with_reducible assumption) | assumption)
                          obtain ⟨ad249, e249, hx249_0, hx249_1, hx249_2, hx249_3⟩ := at_T36 HR0.out x4_1 p249 q249
                          obtain rfl : ad248 = ad249 := (by injection e249)
                          replace hx249_0 := (HB.out.cell (World.block_lt_of_cell? w _ hx249_0)).trans hx249_0
                          replace hx249_1 := (HB.out.cell (World.block_lt_of_cell? w _ hx249_1)).trans hx249_1
                          replace hx249_2 := (HB.out.cell (World.block_lt_of_cell? w _ hx249_2)).trans hx249_2
                          replace hx249_3 := (HB.out.cell (World.block_lt_of_cell? w _ hx249_3)).trans hx249_3
                          replace p249 := eq_true p249
                          replace q249 := eq_true q249
                          go_wp2_with (first | ((with_reducible refine gate_callee (f := 21) rfl ?_); refine goesL_ (some 46) rfl rfl Tryd.func21 (by kernel_rfl) rfl #[.int .i64 ((rd_T36 l0 x4_1).f2)] rfl (by (try simp only [List.map_toArray, List.map_cons, List.map_nil]); first | done | rfl | (simp only [List.length_drop, List.length_take]; rfl)) ?_; (with_reducible refine (tapearchiveref28_Decimal.calls kj9 ((rd_T36 l0 x4_1).f2) t250 _ A16.out).mono ?_); rintro e w18 ⟨rfl, hb⟩; refine ⟨_, rfl, ?_⟩; have n0_ := Aside0.mk (below_step (by repeat (first | (with_reducible first | exact HB.out | apply below_alloc | apply pw_below_drewN | apply below_drew1) | exact HB.out)) hb); clear HB; have HB := n0_; clear n0_; (try clear hb); (try clear hb2); (try clear hk); (try clear hi)))
                          go_roundg kj9
                          case measure => have := HK1.out; have := HJ2.out; have := HJ9.out; omega
                          case rel => exact ⟨(x3_9 ++ t250), (wrap64 (x4_1 + 1)), (by first | rfl | (simp; done) | (simp [*]; done)), (by first | rfl | (simp; done) | (simp [*]; done)), H', ⟨by have := HK1.out; have := HJ2.out; have := HJ9.out; omega⟩, ⟨by repeat (first | (with_reducible first | exact HB.out | apply below_alloc | apply pw_below_drewN | apply below_drew1) | exact HB.out)⟩⟩
                        · rw [if_neg c17] at H
                          exact absurd H (by simp)
                      · rw [if_neg c15] at H
                        have c15b0 : (((rd_T36 l0 x4_1).f0) == 2) = false := beq_eq_false_iff_ne.mpr c15
                        have c15b1 : (((rd_T36 l0 x4_1).f0) != 2) = true := bne_iff_ne.mpr c15
                        by_cases c19 : ((rd_T36 l0 x4_1).f0) = 3
                        · rw [if_pos c19] at H
                          have c19b0 : (((rd_T36 l0 x4_1).f0) == 3) = true := beq_iff_eq.mpr c19
                          have c19b1 : (((rd_T36 l0 x4_1).f0) != 3) = false := bne_eq_false_iff_eq.mpr c19
                          clear c19
                          replace H := Option.bind_eq_some_iff.mp H
                          obtain ⟨t252, A200, H⟩ := H
                          replace H : (if x3_9.size + t252.size ≤ 9223372036854775807 then (tapearchiveref28_Text.l0 kj9 l0 (x3_9 ++ t252) (wrap64 (x4_1 + 1))) else (none)) = some r := H
                          have A20 := Aside0.mk A200
                          clear A200
                          by_cases c21 : x3_9.size + t252.size ≤ 9223372036854775807
                          · rw [if_pos c21] at H
                            have c21b0 := eq_true c21
                            have c21b1 : decide (x3_9.size + t252.size ≤ 9223372036854775807) = true := decide_eq_true c21
                            try have c21b2 : (9223372036854775807 < x3_9.size + t252.size) = False := eq_false (Nat.not_lt.2 c21)
                            have H' := Aside0.mk H
                            clear H
                            have p248 : 0 ≤ (x4_1 : Int) := of_decide_eq_true (by first | (with_reducible assumption) | assumption)
                            have q248 : x4_1 < (l0.length : Int) := of_decide_eq_true (by first | (with_reducible assumption) | assumption)
                            obtain ⟨ad248, e248, hx248_0, hx248_1, hx248_2, hx248_3⟩ := at_T36 HR0.out x4_1 p248 q248
                            cases e248
                            replace hx248_0 := (HB.out.cell (World.block_lt_of_cell? w _ hx248_0)).trans hx248_0
                            replace hx248_1 := (HB.out.cell (World.block_lt_of_cell? w _ hx248_1)).trans hx248_1
                            replace hx248_2 := (HB.out.cell (World.block_lt_of_cell? w _ hx248_2)).trans hx248_2
                            replace hx248_3 := (HB.out.cell (World.block_lt_of_cell? w _ hx248_3)).trans hx248_3
                            replace p248 := eq_true p248
                            replace q248 := eq_true q248
                            have p251 : 0 ≤ (x4_1 : Int) := of_decide_eq_true (by first | (with_reducible assumption) | assumption)
                            have q251 : x4_1 < (l0.length : Int) := of_decide_eq_true (by first | (with_reducible assumption) | assumption)
                            obtain ⟨ad251, e251, hx251_0, hx251_1, hx251_2, hx251_3⟩ := at_T36 HR0.out x4_1 p251 q251
                            obtain rfl : ad248 = ad251 := (by injection e251)
                            replace hx251_0 := (HB.out.cell (World.block_lt_of_cell? w _ hx251_0)).trans hx251_0
                            replace hx251_1 := (HB.out.cell (World.block_lt_of_cell? w _ hx251_1)).trans hx251_1
                            replace hx251_2 := (HB.out.cell (World.block_lt_of_cell? w _ hx251_2)).trans hx251_2
                            replace hx251_3 := (HB.out.cell (World.block_lt_of_cell? w _ hx251_3)).trans hx251_3
                            replace p251 := eq_true p251
                            replace q251 := eq_true q251
                            go_wp2_with (first | ((with_reducible refine gate_callee (f := 19) rfl ?_); refine goesL_ (some 56) rfl rfl Tryd.func19 (by kernel_rfl) rfl #[.string ((rd_T36 l0 x4_1).f1)] rfl (by (try simp only [List.map_toArray, List.map_cons, List.map_nil]); first | done | rfl | (simp only [List.length_drop, List.length_take]; rfl)) ?_; (with_reducible refine (tapearchiveref28_Quote.calls kj9 ((rd_T36 l0 x4_1).f1) t252 _ A20.out).mono ?_); rintro e w' ⟨rfl, ⟨nd, rfl⟩⟩; refine ⟨_, rfl, ?_⟩))
                            go_roundg kj9
                            case measure => have := HK1.out; have := HJ2.out; have := HJ9.out; omega
                            case rel => exact ⟨(x3_9 ++ t252), (wrap64 (x4_1 + 1)), (by first | rfl | (simp; done) | (simp [*]; done)), (by first | rfl | (simp; done) | (simp [*]; done)), H', ⟨by have := HK1.out; have := HJ2.out; have := HJ9.out; omega⟩, ⟨by repeat (first | (with_reducible first | exact HB.out | apply below_alloc | apply pw_below_drewN | apply below_drew1) | exact HB.out)⟩⟩
                          · rw [if_neg c21] at H
                            exact absurd H (by simp)
                        · rw [if_neg c19] at H
                          have c19b0 : (((rd_T36 l0 x4_1).f0) == 3) = false := beq_eq_false_iff_ne.mpr c19
                          have c19b1 : (((rd_T36 l0 x4_1).f0) != 3) = true := bne_iff_ne.mpr c19
                          by_cases c22 : x3_9.size + ((rd_T36 l0 x4_1).f1).size ≤ 9223372036854775807
                          · rw [if_pos c22] at H
                            have c22b0 := eq_true c22
                            have c22b1 : decide (x3_9.size + ((rd_T36 l0 x4_1).f1).size ≤ 9223372036854775807) = true := decide_eq_true c22
                            try have c22b2 : (9223372036854775807 < x3_9.size + ((rd_T36 l0 x4_1).f1).size) = False := eq_false (Nat.not_lt.2 c22)
                            have H' := Aside0.mk H
                            clear H
                            have p248 : 0 ≤ (x4_1 : Int) := of_decide_eq_true (by first | (with_reducible assumption) | assumption)
                            have q248 : x4_1 < (l0.length : Int) := of_decide_eq_true (by first | (with_reducible assumption) | assumption)
                            obtain ⟨ad248, e248, hx248_0, hx248_1, hx248_2, hx248_3⟩ := at_T36 HR0.out x4_1 p248 q248
                            cases e248
                            replace hx248_0 := (HB.out.cell (World.block_lt_of_cell? w _ hx248_0)).trans hx248_0
                            replace hx248_1 := (HB.out.cell (World.block_lt_of_cell? w _ hx248_1)).trans hx248_1
                            replace hx248_2 := (HB.out.cell (World.block_lt_of_cell? w _ hx248_2)).trans hx248_2
                            replace hx248_3 := (HB.out.cell (World.block_lt_of_cell? w _ hx248_3)).trans hx248_3
                            replace p248 := eq_true p248
                            replace q248 := eq_true q248
                            have p253 : 0 ≤ (x4_1 : Int) := of_decide_eq_true (by first | (with_reducible assumption) | assumption)
                            have q253 : x4_1 < (l0.length : Int) := of_decide_eq_true (by first | (with_reducible assumption) | assumption)
                            obtain ⟨ad253, e253, hx253_0, hx253_1, hx253_2, hx253_3⟩ := at_T36 HR0.out x4_1 p253 q253
                            obtain rfl : ad248 = ad253 := (by injection e253)
                            replace hx253_0 := (HB.out.cell (World.block_lt_of_cell? w _ hx253_0)).trans hx253_0
                            replace hx253_1 := (HB.out.cell (World.block_lt_of_cell? w _ hx253_1)).trans hx253_1
                            replace hx253_2 := (HB.out.cell (World.block_lt_of_cell? w _ hx253_2)).trans hx253_2
                            replace hx253_3 := (HB.out.cell (World.block_lt_of_cell? w _ hx253_3)).trans hx253_3
                            replace p253 := eq_true p253
                            replace q253 := eq_true q253
                            go_wp2
                            go_roundg kj9
                            case measure => have := HK1.out; have := HJ2.out; have := HJ9.out; omega
                            case rel => exact ⟨(x3_9 ++ ((rd_T36 l0 x4_1).f1)), (wrap64 (x4_1 + 1)), (by first | rfl | (simp; done) | (simp [*]; done)), (by first | rfl | (simp; done) | (simp [*]; done)), H', ⟨by have := HK1.out; have := HJ2.out; have := HJ9.out; omega⟩, ⟨by repeat (first | (with_reducible first | exact HB.out | apply below_alloc | apply pw_below_drewN | apply below_drew1) | exact HB.out)⟩⟩
                          · rw [if_neg c22] at H
                            exact absurd H (by simp)
                    · rw [if_neg c14] at H
                      exact absurd H (by simp)
                  · rw [if_neg c13] at H
                    exact absurd H (by simp)
      · rw [if_neg c2] at H
        have c2b0 : decide (x4_1 < (l0.length : Int)) = false := decide_eq_false c2
        clear c2
        by_cases c23 : (x3_1.size : Int) > 16384
        · rw [if_pos c23] at H
          have c23b0 : decide (16384 < (x3_1.size : Int)) = true := decide_eq_true c23
          have c23b1 : decide (16384 < x3_1.size) = true := decide_eq_true (by omega)
          clear c23
          obtain rfl := Option.some.inj H
          go_wp2
          go_ret
          exact ⟨by first | rfl | (simp [errW_none, errW_some] <;> rfl) | (simp [*, errW_none, errW_some] <;> rfl), by repeat (first | (with_reducible first | exact HB.out | apply below_alloc | apply pw_below_drewN | apply below_drew1) | exact HB.out)⟩
        · rw [if_neg c23] at H
          have c23b0 : decide (16384 < (x3_1.size : Int)) = false := decide_eq_false c23
          have c23b1 : decide (16384 < x3_1.size) = false := decide_eq_false (by omega)
          clear c23
          obtain rfl := Option.some.inj H
          go_wp2
          go_ret
          exact ⟨by first | rfl | (simp [errW_none, errW_some] <;> rfl) | (simp [*, errW_none, errW_some] <;> rfl), by repeat (first | (with_reducible first | exact HB.out | apply below_alloc | apply pw_below_drewN | apply below_drew1) | exact HB.out)⟩
def tapearchivelaw28_LexerWrites.j0 : Nat → List (S36) → ByteArray → Bool → Option (Bool)
  | 0, _, _, _ => none
  | k + 1, x0, x1, x18 => if x18 = true then (some true) else ((lexer_Unit.f x1).bind fun bt256 => ((tapearchiveref28_Unit.f x1).bind fun bt258 => ((lexer_Text.f k x0).bind fun t260 => ((tapearchiveref28_Text.f k x0).bind fun t261 => (if t260.toList = t261.toList then ((lexer_Quote.f k x1).bind fun t262 => ((tapearchiveref28_Quote.f k x1).bind fun t263 => (if t262.toList = t263.toList then (if bt256.1 = bt258.1 then (some (bt256.2 == bt258.2)) else (some false)) else (some false)))) else (some false))))))
def tapearchivelaw28_LexerWrites.f (k : Nat) (l0 : List (S36)) (a1 : ByteArray) : Option (Bool) := (tapearchivelaw28_lives.f k).bind fun t254 => (if t254 = true then ((tapearchivelaw28_small.f k l0).bind fun t255 => (if t255 = true then (tapearchivelaw28_LexerWrites.j0 k l0 a1 (decide ((a1.size : Int) > 4096))) else (tapearchivelaw28_LexerWrites.j0 k l0 a1 true))) else (some false))
set_option maxHeartbeats 8000000 in
set_option maxRecDepth 100000 in
theorem tapearchivelaw28_LexerWrites.calls (k : Nat) (A0 : Option Addr) (c0 : Nat) (l0 : List (S36)) (a1 : ByteArray) (r : Bool) (w : World) (hG : Go.Proofs.YtifhmdlgjojodaaDoorX.Glob w) (hr0 : Kd.C k36 w A0 l0.length l0) (hc0 : l0.length ≤ c0) (h : tapearchivelaw28_LexerWrites.f k l0 a1 = some r) :
    Calls Tryd.prog 4 #[.slice A0 l0.length c0, .string a1] w fun e w' => e = .returned (.bool r) ∧ Below w.heap.size w w' := by
  have HR0 := Aside0.mk hr0
  have HC0 := Aside0.mk hc0
  clear hr0 hc0
  have HB := Aside0.mk (Below.refl w.heap.size w)
  have H : ((tapearchivelaw28_lives.f k).bind fun t254 => (if t254 = true then ((tapearchivelaw28_small.f k l0).bind fun t255 => (if t255 = true then (tapearchivelaw28_LexerWrites.j0 k l0 a1 (decide ((a1.size : Int) > 4096))) else (tapearchivelaw28_LexerWrites.j0 k l0 a1 true))) else (some false))) = some r := h
  clear h
  replace H := Option.bind_eq_some_iff.mp H
  obtain ⟨t254, A30, H⟩ := H
  replace H : (if t254 = true then ((tapearchivelaw28_small.f k l0).bind fun t255 => (if t255 = true then (tapearchivelaw28_LexerWrites.j0 k l0 a1 (decide ((a1.size : Int) > 4096))) else (tapearchivelaw28_LexerWrites.j0 k l0 a1 true))) else (some false)) = some r := H
  have A3 := Aside0.mk A30
  clear A30
  by_cases c4 : t254 = true
  · subst c4
    have H1 : ((tapearchivelaw28_small.f k l0).bind fun t255 => (if t255 = true then (tapearchivelaw28_LexerWrites.j0 k l0 a1 (decide ((a1.size : Int) > 4096))) else (tapearchivelaw28_LexerWrites.j0 k l0 a1 true))) = some r := by rw [if_pos rfl] at H; exact H
    clear H
    have H := H1
    clear H1
    have HC5 := Aside0.mk H
    clear H
    go_enter Tryd.func4, Tryd.ntmps4
    go_upto_region 3 with (first | ((with_reducible refine gate_callee (f := 9) rfl ?_); refine goesL_ (some 9) rfl rfl Tryd.func9 (by kernel_rfl) rfl #[] rfl (by (try simp only [List.map_toArray, List.map_cons, List.map_nil]); first | done | rfl | (simp only [List.length_drop, List.length_take]; rfl)) ?_; (with_reducible refine (tapearchivelaw28_lives.calls k  true _ ?side1 A3.out).mono ?_); (case side1 => exact Go.Proofs.YtifhmdlgjojodaaDoorX.Glob.below hG (by repeat (first | (with_reducible first | exact HB.out | apply below_alloc | apply pw_below_drewN | apply below_drew1) | exact HB.out))); rintro e w6 ⟨rfl, hb⟩; refine ⟨_, rfl, ?_⟩; have n0_ := Aside0.mk (below_step (by repeat (first | (with_reducible first | exact HB.out | apply below_alloc | apply pw_below_drewN | apply below_drew1) | exact HB.out)) hb); clear HB; have HB := n0_; clear n0_; (try clear hb); (try clear hb2); (try clear hk); (try clear hi)))
    (try simp only [Act.put, List.setIfInBounds_toArray, List.set_cons_zero, List.set_cons_succ])
    go_cut [18] (fun v18 wc => ∃ (kq : Nat) (x18_4 : Bool), v18 = .bool x18_4 ∧ Aside0 (tapearchivelaw28_LexerWrites.j0 kq l0 a1 x18_4 = some r) ∧ Aside0 (kq ≤ k) ∧ Aside0 (Below w.heap.size w wc))
    case first =>
      have H := HC5.out
      clear HC5
      replace H := Option.bind_eq_some_iff.mp H
      obtain ⟨t255, A70, H⟩ := H
      replace H : (if t255 = true then (tapearchivelaw28_LexerWrites.j0 k l0 a1 (decide ((a1.size : Int) > 4096))) else (tapearchivelaw28_LexerWrites.j0 k l0 a1 true)) = some r := H
      have A7 := Aside0.mk A70
      clear A70
      by_cases c8 : t255 = true
      · subst c8
        have H1 : (tapearchivelaw28_LexerWrites.j0 k l0 a1 (decide ((a1.size : Int) > 4096))) = some r := by rw [if_pos rfl] at H; exact H
        clear H
        have H := H1
        clear H1
        have H' := Aside0.mk H
        clear H
        go_wp2_with (first | ((with_reducible refine gate_callee (f := 13) rfl ?_); refine goesL_ (some 12) rfl rfl Tryd.func13 (by kernel_rfl) rfl #[.slice A0 l0.length c0] rfl (by (try simp only [List.map_toArray, List.map_cons, List.map_nil]); first | done | rfl | (simp only [List.length_drop, List.length_take]; rfl)) ?_; (with_reducible refine (tapearchivelaw28_small.calls k _ _ l0 true _ ?side1 ?side2 A7.out).mono ?_); (case side1 => repeat (first | exact (Kd.C_below HR0.out HB.out) | (with_reducible refine Kd.C_alloc ?_ _) | (with_reducible refine Kd.C_drewN ?_ _) | (with_reducible refine Kd.C_drew ?_))); (case side2 => exact HC0.out); rintro e w' ⟨rfl, ⟨nd, rfl⟩⟩; refine ⟨_, rfl, ?_⟩))
        go_meet
        case rel => exact ⟨_, (decide ((a1.size : Int) > 4096)), (by first | rfl | (simp; done) | (simp [*]; done)), H', ⟨by first | omega | exact Nat.le_refl _⟩, ⟨by repeat (first | (with_reducible first | exact HB.out | apply below_alloc | apply pw_below_drewN | apply below_drew1) | exact HB.out)⟩⟩
      · replace c8 := Bool.eq_false_iff.mpr c8
        subst c8
        have H1 : (tapearchivelaw28_LexerWrites.j0 k l0 a1 true) = some r := by rw [if_neg (show ¬ (false = true) by decide)] at H; exact H
        clear H
        have H := H1
        clear H1
        have H' := Aside0.mk H
        clear H
        go_wp2_with (first | ((with_reducible refine gate_callee (f := 13) rfl ?_); refine goesL_ (some 12) rfl rfl Tryd.func13 (by kernel_rfl) rfl #[.slice A0 l0.length c0] rfl (by (try simp only [List.map_toArray, List.map_cons, List.map_nil]); first | done | rfl | (simp only [List.length_drop, List.length_take]; rfl)) ?_; (with_reducible refine (tapearchivelaw28_small.calls k _ _ l0 false _ ?side1 ?side2 A7.out).mono ?_); (case side1 => repeat (first | exact (Kd.C_below HR0.out HB.out) | (with_reducible refine Kd.C_alloc ?_ _) | (with_reducible refine Kd.C_drewN ?_ _) | (with_reducible refine Kd.C_drew ?_))); (case side2 => exact HC0.out); rintro e w' ⟨rfl, ⟨nd, rfl⟩⟩; refine ⟨_, rfl, ?_⟩))
        go_meet
        case rel => exact ⟨_, (true), (by first | rfl | (simp; done) | (simp [*]; done)), H', ⟨by first | omega | exact Nat.le_refl _⟩, ⟨by repeat (first | (with_reducible first | exact HB.out | apply below_alloc | apply pw_below_drewN | apply below_drew1) | exact HB.out)⟩⟩
    case rest =>
      clear HC5
      try clear c1
      try clear p2
      try clear c4
      try clear c8
      obtain ⟨kq, x18_4, rfl, HA, HJ4, HB⟩ := hcut
      cases kq with
      | zero => exact absurd HA.out (by simp [tapearchivelaw28_LexerWrites.j0])
      | succ kj4 =>
        have H := HA.out
        clear HA
        simp only [tapearchivelaw28_LexerWrites.j0] at H
        by_cases c9 : x18_4 = true
        · subst c9
          have H1 : (some true) = some r := by rw [if_pos rfl] at H; exact H
          clear H
          have H := H1
          clear H1
          obtain rfl := Option.some.inj H
          go_wp2
          go_ret
          exact ⟨by first | rfl | (simp [errW_none, errW_some] <;> rfl) | (simp [*, errW_none, errW_some] <;> rfl), by repeat (first | (with_reducible first | exact HB.out | apply below_alloc | apply pw_below_drewN | apply below_drew1) | exact HB.out)⟩
        · replace c9 := Bool.eq_false_iff.mpr c9
          subst c9
          have H1 : ((lexer_Unit.f a1).bind fun bt256 => ((tapearchiveref28_Unit.f a1).bind fun bt258 => ((lexer_Text.f kj4 l0).bind fun t260 => ((tapearchiveref28_Text.f kj4 l0).bind fun t261 => (if t260.toList = t261.toList then ((lexer_Quote.f kj4 a1).bind fun t262 => ((tapearchiveref28_Quote.f kj4 a1).bind fun t263 => (if t262.toList = t263.toList then (if bt256.1 = bt258.1 then (some (bt256.2 == bt258.2)) else (some false)) else (some false)))) else (some false)))))) = some r := by rw [if_neg (show ¬ (false = true) by decide)] at H; exact H
          clear H
          have H := H1
          clear H1
          replace H := Option.bind_eq_some_iff.mp H
          obtain ⟨⟨t256, t257⟩, A100, H⟩ := H
          replace H : ((tapearchiveref28_Unit.f a1).bind fun bt258 => ((lexer_Text.f kj4 l0).bind fun t260 => ((tapearchiveref28_Text.f kj4 l0).bind fun t261 => (if t260.toList = t261.toList then ((lexer_Quote.f kj4 a1).bind fun t262 => ((tapearchiveref28_Quote.f kj4 a1).bind fun t263 => (if t262.toList = t263.toList then (if t256 = bt258.1 then (some (t257 == bt258.2)) else (some false)) else (some false)))) else (some false))))) = some r := H
          have A10 := Aside0.mk A100
          clear A100
          replace H := Option.bind_eq_some_iff.mp H
          obtain ⟨⟨t258, t259⟩, A110, H⟩ := H
          replace H : ((lexer_Text.f kj4 l0).bind fun t260 => ((tapearchiveref28_Text.f kj4 l0).bind fun t261 => (if t260.toList = t261.toList then ((lexer_Quote.f kj4 a1).bind fun t262 => ((tapearchiveref28_Quote.f kj4 a1).bind fun t263 => (if t262.toList = t263.toList then (if t256 = t258 then (some (t257 == t259)) else (some false)) else (some false)))) else (some false)))) = some r := H
          have A11 := Aside0.mk A110
          clear A110
          replace H := Option.bind_eq_some_iff.mp H
          obtain ⟨t260, A120, H⟩ := H
          replace H : ((tapearchiveref28_Text.f kj4 l0).bind fun t261 => (if t260.toList = t261.toList then ((lexer_Quote.f kj4 a1).bind fun t262 => ((tapearchiveref28_Quote.f kj4 a1).bind fun t263 => (if t262.toList = t263.toList then (if t256 = t258 then (some (t257 == t259)) else (some false)) else (some false)))) else (some false))) = some r := H
          have A12 := Aside0.mk A120
          clear A120
          replace H := Option.bind_eq_some_iff.mp H
          obtain ⟨t261, A130, H⟩ := H
          replace H : (if t260.toList = t261.toList then ((lexer_Quote.f kj4 a1).bind fun t262 => ((tapearchiveref28_Quote.f kj4 a1).bind fun t263 => (if t262.toList = t263.toList then (if t256 = t258 then (some (t257 == t259)) else (some false)) else (some false)))) else (some false)) = some r := H
          have A13 := Aside0.mk A130
          clear A130
          by_cases c14 : t260.toList = t261.toList
          · rw [if_pos c14] at H
            have c14b0 : (t260.toList == t261.toList) = true := beq_iff_eq.mpr c14
            have c14b1 : (t260.toList != t261.toList) = false := bne_eq_false_iff_eq.mpr c14
            clear c14
            replace H := Option.bind_eq_some_iff.mp H
            obtain ⟨t262, A150, H⟩ := H
            replace H : ((tapearchiveref28_Quote.f kj4 a1).bind fun t263 => (if t262.toList = t263.toList then (if t256 = t258 then (some (t257 == t259)) else (some false)) else (some false))) = some r := H
            have A15 := Aside0.mk A150
            clear A150
            replace H := Option.bind_eq_some_iff.mp H
            obtain ⟨t263, A160, H⟩ := H
            replace H : (if t262.toList = t263.toList then (if t256 = t258 then (some (t257 == t259)) else (some false)) else (some false)) = some r := H
            have A16 := Aside0.mk A160
            clear A160
            by_cases c17 : t262.toList = t263.toList
            · rw [if_pos c17] at H
              have c17b0 : (t262.toList == t263.toList) = true := beq_iff_eq.mpr c17
              have c17b1 : (t262.toList != t263.toList) = false := bne_eq_false_iff_eq.mpr c17
              clear c17
              by_cases c18 : t256 = t258
              · rw [if_pos c18] at H
                have c18b0 : (t256 == t258) = true := beq_iff_eq.mpr c18
                have c18b1 : (t256 != t258) = false := bne_eq_false_iff_eq.mpr c18
                clear c18
                obtain rfl := Option.some.inj H
                go_wp2_with (first | ((with_reducible refine gate_callee (f := 14) rfl ?_); refine goesL_ (some 21) rfl rfl Tryd.func14 (by kernel_rfl) rfl #[.string a1] rfl (by (try simp only [List.map_toArray, List.map_cons, List.map_nil]); first | done | rfl | (simp only [List.length_drop, List.length_take]; rfl)) ?_; (with_reducible refine (lexer_Unit.calls a1 t256 t257 _ A10.out).mono ?_); rintro e w' ⟨rfl, ⟨nd, rfl⟩⟩; refine ⟨_, rfl, ?_⟩) | ((with_reducible refine gate_callee (f := 15) rfl ?_); refine goesL_ (some 26) rfl rfl Tryd.func15 (by kernel_rfl) rfl #[.string a1] rfl (by (try simp only [List.map_toArray, List.map_cons, List.map_nil]); first | done | rfl | (simp only [List.length_drop, List.length_take]; rfl)) ?_; (with_reducible refine (tapearchiveref28_Unit.calls a1 t258 t259 _ A11.out).mono ?_); rintro e w' ⟨rfl, ⟨nd, rfl⟩⟩; refine ⟨_, rfl, ?_⟩) | ((with_reducible refine gate_callee (f := 16) rfl ?_); refine goesL_ (some 30) rfl rfl Tryd.func16 (by kernel_rfl) rfl #[.slice A0 l0.length c0] rfl (by (try simp only [List.map_toArray, List.map_cons, List.map_nil]); first | done | rfl | (simp only [List.length_drop, List.length_take]; rfl)) ?_; (with_reducible refine (lexer_Text.calls kj4 _ _ l0 t260 _ ?side3 ?side1 ?side2 A12.out).mono ?_); (case side1 => repeat (first | exact (Kd.C_below HR0.out (by repeat (first | (with_reducible first | exact HB.out | apply below_alloc | apply pw_below_drewN | apply below_drew1) | exact HB.out))) | (with_reducible refine Kd.C_alloc ?_ _) | (with_reducible refine Kd.C_drewN ?_ _) | (with_reducible refine Kd.C_drew ?_))); (case side2 => exact HC0.out); (case side3 => exact Go.Proofs.YtifhmdlgjojodaaDoorX.Glob.below hG (by repeat (first | (with_reducible first | exact HB.out | apply below_alloc | apply pw_below_drewN | apply below_drew1) | exact HB.out))); rintro e w19 ⟨rfl, hb⟩; refine ⟨_, rfl, ?_⟩; have n0_ := Aside0.mk (below_step (by repeat (first | (with_reducible first | exact HB.out | apply below_alloc | apply pw_below_drewN | apply below_drew1) | exact HB.out)) hb); clear HB; have HB := n0_; clear n0_; (try clear hb); (try clear hb2); (try clear hk); (try clear hi)) | ((with_reducible refine gate_callee (f := 17) rfl ?_); refine goesL_ (some 32) rfl rfl Tryd.func17 (by kernel_rfl) rfl #[.slice A0 l0.length c0] rfl (by (try simp only [List.map_toArray, List.map_cons, List.map_nil]); first | done | rfl | (simp only [List.length_drop, List.length_take]; rfl)) ?_; (with_reducible refine (tapearchiveref28_Text.calls kj4 _ _ l0 t261 _ ?side1 ?side2 A13.out).mono ?_); (case side1 => repeat (first | exact (Kd.C_below HR0.out HB.out) | (with_reducible refine Kd.C_alloc ?_ _) | (with_reducible refine Kd.C_drewN ?_ _) | (with_reducible refine Kd.C_drew ?_))); (case side2 => exact HC0.out); rintro e w20 ⟨rfl, hb⟩; refine ⟨_, rfl, ?_⟩; have n0_ := Aside0.mk (below_step (by repeat (first | (with_reducible first | exact HB.out | apply below_alloc | apply pw_below_drewN | apply below_drew1) | exact HB.out)) hb); clear HB; have HB := n0_; clear n0_; (try clear hb); (try clear hb2); (try clear hk); (try clear hi)) | (go_at_call 18; (with_reducible refine (lexer_Quote.calls kj4 a1 t262 _ A15.out).mono ?_); rintro e w' ⟨rfl, ⟨nd, rfl⟩⟩) | (go_at_call 19; (with_reducible refine (tapearchiveref28_Quote.calls kj4 a1 t263 _ A16.out).mono ?_); rintro e w' ⟨rfl, ⟨nd, rfl⟩⟩))
                go_ret
                exact ⟨by first | rfl | (simp [errW_none, errW_some] <;> rfl) | (simp [*, errW_none, errW_some] <;> rfl), by repeat (first | (with_reducible first | exact HB.out | apply below_alloc | apply pw_below_drewN | apply below_drew1) | exact HB.out)⟩
              · rw [if_neg c18] at H
                have c18b0 : (t256 == t258) = false := beq_eq_false_iff_ne.mpr c18
                have c18b1 : (t256 != t258) = true := bne_iff_ne.mpr c18
                obtain rfl := Option.some.inj H
                go_wp2_with (first | ((with_reducible refine gate_callee (f := 14) rfl ?_); refine goesL_ (some 21) rfl rfl Tryd.func14 (by kernel_rfl) rfl #[.string a1] rfl (by (try simp only [List.map_toArray, List.map_cons, List.map_nil]); first | done | rfl | (simp only [List.length_drop, List.length_take]; rfl)) ?_; (with_reducible refine (lexer_Unit.calls a1 t256 t257 _ A10.out).mono ?_); rintro e w' ⟨rfl, ⟨nd, rfl⟩⟩; refine ⟨_, rfl, ?_⟩) | ((with_reducible refine gate_callee (f := 15) rfl ?_); refine goesL_ (some 26) rfl rfl Tryd.func15 (by kernel_rfl) rfl #[.string a1] rfl (by (try simp only [List.map_toArray, List.map_cons, List.map_nil]); first | done | rfl | (simp only [List.length_drop, List.length_take]; rfl)) ?_; (with_reducible refine (tapearchiveref28_Unit.calls a1 t258 t259 _ A11.out).mono ?_); rintro e w' ⟨rfl, ⟨nd, rfl⟩⟩; refine ⟨_, rfl, ?_⟩) | ((with_reducible refine gate_callee (f := 16) rfl ?_); refine goesL_ (some 30) rfl rfl Tryd.func16 (by kernel_rfl) rfl #[.slice A0 l0.length c0] rfl (by (try simp only [List.map_toArray, List.map_cons, List.map_nil]); first | done | rfl | (simp only [List.length_drop, List.length_take]; rfl)) ?_; (with_reducible refine (lexer_Text.calls kj4 _ _ l0 t260 _ ?side3 ?side1 ?side2 A12.out).mono ?_); (case side1 => repeat (first | exact (Kd.C_below HR0.out (by repeat (first | (with_reducible first | exact HB.out | apply below_alloc | apply pw_below_drewN | apply below_drew1) | exact HB.out))) | (with_reducible refine Kd.C_alloc ?_ _) | (with_reducible refine Kd.C_drewN ?_ _) | (with_reducible refine Kd.C_drew ?_))); (case side2 => exact HC0.out); (case side3 => exact Go.Proofs.YtifhmdlgjojodaaDoorX.Glob.below hG (by repeat (first | (with_reducible first | exact HB.out | apply below_alloc | apply pw_below_drewN | apply below_drew1) | exact HB.out))); rintro e w21 ⟨rfl, hb⟩; refine ⟨_, rfl, ?_⟩; have n0_ := Aside0.mk (below_step (by repeat (first | (with_reducible first | exact HB.out | apply below_alloc | apply pw_below_drewN | apply below_drew1) | exact HB.out)) hb); clear HB; have HB := n0_; clear n0_; (try clear hb); (try clear hb2); (try clear hk); (try clear hi)) | ((with_reducible refine gate_callee (f := 17) rfl ?_); refine goesL_ (some 32) rfl rfl Tryd.func17 (by kernel_rfl) rfl #[.slice A0 l0.length c0] rfl (by (try simp only [List.map_toArray, List.map_cons, List.map_nil]); first | done | rfl | (simp only [List.length_drop, List.length_take]; rfl)) ?_; (with_reducible refine (tapearchiveref28_Text.calls kj4 _ _ l0 t261 _ ?side1 ?side2 A13.out).mono ?_); (case side1 => repeat (first | exact (Kd.C_below HR0.out HB.out) | (with_reducible refine Kd.C_alloc ?_ _) | (with_reducible refine Kd.C_drewN ?_ _) | (with_reducible refine Kd.C_drew ?_))); (case side2 => exact HC0.out); rintro e w22 ⟨rfl, hb⟩; refine ⟨_, rfl, ?_⟩; have n0_ := Aside0.mk (below_step (by repeat (first | (with_reducible first | exact HB.out | apply below_alloc | apply pw_below_drewN | apply below_drew1) | exact HB.out)) hb); clear HB; have HB := n0_; clear n0_; (try clear hb); (try clear hb2); (try clear hk); (try clear hi)) | (go_at_call 18; (with_reducible refine (lexer_Quote.calls kj4 a1 t262 _ A15.out).mono ?_); rintro e w' ⟨rfl, ⟨nd, rfl⟩⟩) | (go_at_call 19; (with_reducible refine (tapearchiveref28_Quote.calls kj4 a1 t263 _ A16.out).mono ?_); rintro e w' ⟨rfl, ⟨nd, rfl⟩⟩))
                go_ret
                exact ⟨by first | rfl | (simp [errW_none, errW_some] <;> rfl) | (simp [*, errW_none, errW_some] <;> rfl), by repeat (first | (with_reducible first | exact HB.out | apply below_alloc | apply pw_below_drewN | apply below_drew1) | exact HB.out)⟩
            · rw [if_neg c17] at H
              have c17b0 : (t262.toList == t263.toList) = false := beq_eq_false_iff_ne.mpr c17
              have c17b1 : (t262.toList != t263.toList) = true := bne_iff_ne.mpr c17
              obtain rfl := Option.some.inj H
              go_wp2_with (first | ((with_reducible refine gate_callee (f := 14) rfl ?_); refine goesL_ (some 21) rfl rfl Tryd.func14 (by kernel_rfl) rfl #[.string a1] rfl (by (try simp only [List.map_toArray, List.map_cons, List.map_nil]); first | done | rfl | (simp only [List.length_drop, List.length_take]; rfl)) ?_; (with_reducible refine (lexer_Unit.calls a1 t256 t257 _ A10.out).mono ?_); rintro e w' ⟨rfl, ⟨nd, rfl⟩⟩; refine ⟨_, rfl, ?_⟩) | ((with_reducible refine gate_callee (f := 15) rfl ?_); refine goesL_ (some 26) rfl rfl Tryd.func15 (by kernel_rfl) rfl #[.string a1] rfl (by (try simp only [List.map_toArray, List.map_cons, List.map_nil]); first | done | rfl | (simp only [List.length_drop, List.length_take]; rfl)) ?_; (with_reducible refine (tapearchiveref28_Unit.calls a1 t258 t259 _ A11.out).mono ?_); rintro e w' ⟨rfl, ⟨nd, rfl⟩⟩; refine ⟨_, rfl, ?_⟩) | ((with_reducible refine gate_callee (f := 16) rfl ?_); refine goesL_ (some 30) rfl rfl Tryd.func16 (by kernel_rfl) rfl #[.slice A0 l0.length c0] rfl (by (try simp only [List.map_toArray, List.map_cons, List.map_nil]); first | done | rfl | (simp only [List.length_drop, List.length_take]; rfl)) ?_; (with_reducible refine (lexer_Text.calls kj4 _ _ l0 t260 _ ?side3 ?side1 ?side2 A12.out).mono ?_); (case side1 => repeat (first | exact (Kd.C_below HR0.out (by repeat (first | (with_reducible first | exact HB.out | apply below_alloc | apply pw_below_drewN | apply below_drew1) | exact HB.out))) | (with_reducible refine Kd.C_alloc ?_ _) | (with_reducible refine Kd.C_drewN ?_ _) | (with_reducible refine Kd.C_drew ?_))); (case side2 => exact HC0.out); (case side3 => exact Go.Proofs.YtifhmdlgjojodaaDoorX.Glob.below hG (by repeat (first | (with_reducible first | exact HB.out | apply below_alloc | apply pw_below_drewN | apply below_drew1) | exact HB.out))); rintro e w23 ⟨rfl, hb⟩; refine ⟨_, rfl, ?_⟩; have n0_ := Aside0.mk (below_step (by repeat (first | (with_reducible first | exact HB.out | apply below_alloc | apply pw_below_drewN | apply below_drew1) | exact HB.out)) hb); clear HB; have HB := n0_; clear n0_; (try clear hb); (try clear hb2); (try clear hk); (try clear hi)) | ((with_reducible refine gate_callee (f := 17) rfl ?_); refine goesL_ (some 32) rfl rfl Tryd.func17 (by kernel_rfl) rfl #[.slice A0 l0.length c0] rfl (by (try simp only [List.map_toArray, List.map_cons, List.map_nil]); first | done | rfl | (simp only [List.length_drop, List.length_take]; rfl)) ?_; (with_reducible refine (tapearchiveref28_Text.calls kj4 _ _ l0 t261 _ ?side1 ?side2 A13.out).mono ?_); (case side1 => repeat (first | exact (Kd.C_below HR0.out HB.out) | (with_reducible refine Kd.C_alloc ?_ _) | (with_reducible refine Kd.C_drewN ?_ _) | (with_reducible refine Kd.C_drew ?_))); (case side2 => exact HC0.out); rintro e w24 ⟨rfl, hb⟩; refine ⟨_, rfl, ?_⟩; have n0_ := Aside0.mk (below_step (by repeat (first | (with_reducible first | exact HB.out | apply below_alloc | apply pw_below_drewN | apply below_drew1) | exact HB.out)) hb); clear HB; have HB := n0_; clear n0_; (try clear hb); (try clear hb2); (try clear hk); (try clear hi)) | (go_at_call 18; (with_reducible refine (lexer_Quote.calls kj4 a1 t262 _ A15.out).mono ?_); rintro e w' ⟨rfl, ⟨nd, rfl⟩⟩) | (go_at_call 19; (with_reducible refine (tapearchiveref28_Quote.calls kj4 a1 t263 _ A16.out).mono ?_); rintro e w' ⟨rfl, ⟨nd, rfl⟩⟩))
              go_ret
              exact ⟨by first | rfl | (simp [errW_none, errW_some] <;> rfl) | (simp [*, errW_none, errW_some] <;> rfl), by repeat (first | (with_reducible first | exact HB.out | apply below_alloc | apply pw_below_drewN | apply below_drew1) | exact HB.out)⟩
          · rw [if_neg c14] at H
            have c14b0 : (t260.toList == t261.toList) = false := beq_eq_false_iff_ne.mpr c14
            have c14b1 : (t260.toList != t261.toList) = true := bne_iff_ne.mpr c14
            obtain rfl := Option.some.inj H
            go_wp2_with (first | ((with_reducible refine gate_callee (f := 14) rfl ?_); refine goesL_ (some 21) rfl rfl Tryd.func14 (by kernel_rfl) rfl #[.string a1] rfl (by (try simp only [List.map_toArray, List.map_cons, List.map_nil]); first | done | rfl | (simp only [List.length_drop, List.length_take]; rfl)) ?_; (with_reducible refine (lexer_Unit.calls a1 t256 t257 _ A10.out).mono ?_); rintro e w' ⟨rfl, ⟨nd, rfl⟩⟩; refine ⟨_, rfl, ?_⟩) | ((with_reducible refine gate_callee (f := 15) rfl ?_); refine goesL_ (some 26) rfl rfl Tryd.func15 (by kernel_rfl) rfl #[.string a1] rfl (by (try simp only [List.map_toArray, List.map_cons, List.map_nil]); first | done | rfl | (simp only [List.length_drop, List.length_take]; rfl)) ?_; (with_reducible refine (tapearchiveref28_Unit.calls a1 t258 t259 _ A11.out).mono ?_); rintro e w' ⟨rfl, ⟨nd, rfl⟩⟩; refine ⟨_, rfl, ?_⟩) | ((with_reducible refine gate_callee (f := 16) rfl ?_); refine goesL_ (some 30) rfl rfl Tryd.func16 (by kernel_rfl) rfl #[.slice A0 l0.length c0] rfl (by (try simp only [List.map_toArray, List.map_cons, List.map_nil]); first | done | rfl | (simp only [List.length_drop, List.length_take]; rfl)) ?_; (with_reducible refine (lexer_Text.calls kj4 _ _ l0 t260 _ ?side3 ?side1 ?side2 A12.out).mono ?_); (case side1 => repeat (first | exact (Kd.C_below HR0.out (by repeat (first | (with_reducible first | exact HB.out | apply below_alloc | apply pw_below_drewN | apply below_drew1) | exact HB.out))) | (with_reducible refine Kd.C_alloc ?_ _) | (with_reducible refine Kd.C_drewN ?_ _) | (with_reducible refine Kd.C_drew ?_))); (case side2 => exact HC0.out); (case side3 => exact Go.Proofs.YtifhmdlgjojodaaDoorX.Glob.below hG (by repeat (first | (with_reducible first | exact HB.out | apply below_alloc | apply pw_below_drewN | apply below_drew1) | exact HB.out))); rintro e w25 ⟨rfl, hb⟩; refine ⟨_, rfl, ?_⟩; have n0_ := Aside0.mk (below_step (by repeat (first | (with_reducible first | exact HB.out | apply below_alloc | apply pw_below_drewN | apply below_drew1) | exact HB.out)) hb); clear HB; have HB := n0_; clear n0_; (try clear hb); (try clear hb2); (try clear hk); (try clear hi)) | ((with_reducible refine gate_callee (f := 17) rfl ?_); refine goesL_ (some 32) rfl rfl Tryd.func17 (by kernel_rfl) rfl #[.slice A0 l0.length c0] rfl (by (try simp only [List.map_toArray, List.map_cons, List.map_nil]); first | done | rfl | (simp only [List.length_drop, List.length_take]; rfl)) ?_; (with_reducible refine (tapearchiveref28_Text.calls kj4 _ _ l0 t261 _ ?side1 ?side2 A13.out).mono ?_); (case side1 => repeat (first | exact (Kd.C_below HR0.out HB.out) | (with_reducible refine Kd.C_alloc ?_ _) | (with_reducible refine Kd.C_drewN ?_ _) | (with_reducible refine Kd.C_drew ?_))); (case side2 => exact HC0.out); rintro e w26 ⟨rfl, hb⟩; refine ⟨_, rfl, ?_⟩; have n0_ := Aside0.mk (below_step (by repeat (first | (with_reducible first | exact HB.out | apply below_alloc | apply pw_below_drewN | apply below_drew1) | exact HB.out)) hb); clear HB; have HB := n0_; clear n0_; (try clear hb); (try clear hb2); (try clear hk); (try clear hi)))
            go_ret
            exact ⟨by first | rfl | (simp [errW_none, errW_some] <;> rfl) | (simp [*, errW_none, errW_some] <;> rfl), by repeat (first | (with_reducible first | exact HB.out | apply below_alloc | apply pw_below_drewN | apply below_drew1) | exact HB.out)⟩
  · replace c4 := Bool.eq_false_iff.mpr c4
    subst c4
    have H1 : (some false) = some r := by rw [if_neg (show ¬ (false = true) by decide)] at H; exact H
    clear H
    have H := H1
    clear H1
    obtain rfl := Option.some.inj H
    go_enter Tryd.func4, Tryd.ntmps4
    go_wp2_with (first | ((with_reducible refine gate_callee (f := 9) rfl ?_); refine goesL_ (some 9) rfl rfl Tryd.func9 (by kernel_rfl) rfl #[] rfl (by (try simp only [List.map_toArray, List.map_cons, List.map_nil]); first | done | rfl | (simp only [List.length_drop, List.length_take]; rfl)) ?_; (with_reducible refine (tapearchivelaw28_lives.calls k  false _ ?side1 A3.out).mono ?_); (case side1 => exact Go.Proofs.YtifhmdlgjojodaaDoorX.Glob.below hG (by repeat (first | (with_reducible first | exact HB.out | apply below_alloc | apply pw_below_drewN | apply below_drew1) | exact HB.out))); rintro e w27 ⟨rfl, hb⟩; refine ⟨_, rfl, ?_⟩; have n0_ := Aside0.mk (below_step (by repeat (first | (with_reducible first | exact HB.out | apply below_alloc | apply pw_below_drewN | apply below_drew1) | exact HB.out)) hb); clear HB; have HB := n0_; clear n0_; (try clear hb); (try clear hb2); (try clear hk); (try clear hi)))
    go_ret
    exact ⟨by first | rfl | (simp [errW_none, errW_some] <;> rfl) | (simp [*, errW_none, errW_some] <;> rfl), by repeat (first | (with_reducible first | exact HB.out | apply below_alloc | apply pw_below_drewN | apply below_drew1) | exact HB.out)⟩
end Go.Proofs.YtifhmdlgjojodaaDoor.Q
end
section
namespace Go.Proofs.YtifhmdlgjojodaaDoor.SLexerWrites
open Go.RowKit Go.Proofs.YtifhmdlgjojodaaDoor.Q Go.Proofs.YtifhmdlgjojodaaDoorW.PrintWords Go.Proofs.YtifhmdlgjojodaaDoorW.PrintLast Go.Proofs.YtifhmdlgjojodaaDoorW.Opens Go.Proofs.YtifhmdlgjojodaaDoorW
set_option linter.unusedVariables false
def Wf_t35 (x : S36) : Prop := (Lit.int .i64 x.f0).wf = true ∧ x.f1.size ≤ 140737488351232 ∧ (Lit.int .i64 x.f2).wf = true ∧ (Lit.int .i64 x.f3).wf = true
theorem open_t36 (n : Nat) : OpensN Tryd.prog n 36 k36 Wf_t35 :=
  Opens.opens_le (Opens.opens_struct (n := n) Tryd.underlying36 (by kernel_rfl) (fun y => ⟨⟨y.1, y.2.1, y.2.2.1, y.2.2.2⟩, rfl⟩) (Opens.opensF_cons rfl (by kernel_rfl) (Opens.opens_int n Tryd.underlying3) (Opens.opensF_cons rfl (by kernel_rfl) (Opens.opens_string n Tryd.underlying9) (Opens.opensF_cons rfl (by kernel_rfl) (Opens.opens_int n Tryd.underlying3) (Opens.opensF_one rfl (by kernel_rfl) (Opens.opens_int n Tryd.underlying3)))))) (Nat.le_succ n)
def Pure : Prop := ∀ (x0 : List (S36)) (x1 : ByteArray), (x0.length ≤ maxLen ∧ x0.length * 40 ≤ 140737488351232 ∧ ∀ y ∈ x0, Wf_t35 y) → x1.size ≤ 140737488351232 → ∃ k, tapearchivelaw28_LexerWrites.f k x0 x1 = some true
end Go.Proofs.YtifhmdlgjojodaaDoor.SLexerWrites
end
section
namespace Go.Proofs.YtifhmdlgjojodaaDoor.Lex
open Go.RowKit Go.Proofs.YtifhmdlgjojodaaDoorW.PrintWords Go.Proofs.YtifhmdlgjojodaaDoorW.EvMore
def dig (c : UInt8) : Bool := decide (48 ≤ c.toNat) && decide (c.toNat ≤ 57)
def alp (c : UInt8) : Bool := (decide (97 ≤ c.toNat) && decide (c.toNat ≤ 122)) || (decide (65 ≤ c.toNat) && decide (c.toNat ≤ 90))
def nam (c : UInt8) : Bool := alp c || dig c || c == 95 || c == 45 || c == 46 || c == 47 || c == 42 || c == 63
def pln (c : UInt8) : Bool := decide (32 ≤ c.toNat) && decide (c.toNat ≤ 126) && c != 34
def sym (c : UInt8) : Bool := c == 40 || c == 41 || c == 123 || c == 125 || c == 60 || c == 61 || c == 33 || c == 59 || c == 44 || c == 58
def symT (l : List UInt8) : Bool := l == [62, 61] || (match l with | [c] => sym c | _ => false)
def unit (l : List UInt8) : Nat × Bool :=
  if l = [75] then (1024, true) else if l = [77] then (1048576, true) else if l = [115] then (1, true) else if l = [109] then (60, true) else if l = [104] then (3600, true) else if l = [100] then (86400, true) else (0, false)
def val (l : List UInt8) : Nat := l.foldl (fun n c => 10 * n + (c.toNat - 48)) 0
structure Tok where
  kind : Int
  text : List UInt8
  int : Int
  at_ : Nat
end Go.Proofs.YtifhmdlgjojodaaDoor.Lex
end
section
namespace Go.Proofs.YtifhmdlgjojodaaDoor.Lex
open Go.RowKit Go.Proofs.YtifhmdlgjojodaaDoor.Q Go.Proofs.YtifhmdlgjojodaaDoorW.PrintWords Go.Proofs.YtifhmdlgjojodaaDoorW.PrintMore Go.Proofs.YtifhmdlgjojodaaDoorW.EvMore
theorem dig_f (c : UInt8) : lexer_digit.f (c.toNat : Int) = some (dig c) := by
  unfold lexer_digit.f dig
  by_cases h : 48 ≤ c.toNat
  · rw [if_pos (by omega)]
    simp only [h, decide_true, Bool.true_and, Option.some.injEq, decide_eq_decide]
    omega
  · rw [if_neg (by omega)]
    simp [h]
theorem alp_f (c : UInt8) : lexer_letter.f (c.toNat : Int) = some (alp c) := by
  unfold lexer_letter.f alp
  by_cases h : 97 ≤ c.toNat
  · rw [if_pos (by omega)]
    by_cases h2 : c.toNat ≤ 122
    · rw [if_pos (by omega)]; simp [h, h2]
    · rw [if_neg (by omega), if_pos (by omega)]
      have : ¬ c.toNat ≤ 90 := by omega
      simp [h2, this]
      omega
  · rw [if_neg (by omega)]
    by_cases h2 : 65 ≤ c.toNat
    · rw [if_pos (by omega)]
      simp only [h, h2, decide_true, decide_false, Bool.false_and, Bool.true_and, Bool.false_or, Option.some.injEq, decide_eq_decide]
      omega
    · rw [if_neg (by omega)]
      simp [h, h2]
theorem plain_f (c : UInt8) : lexer_plain.f (c.toNat : Int) = some (pln c) := by
  unfold lexer_plain.f pln
  have e34 : (((c.toNat : Int) != 34) : Bool) = (c != 34) := by
    rw [Bool.eq_iff_iff]
    simp only [bne_iff_ne, ne_eq]
    constructor
    · intro h e; subst e; exact h rfl
    · intro h e; apply h; apply UInt8.toNat_inj.1; have : c.toNat = 34 := by omega
      rw [this]; rfl
  by_cases h : 32 ≤ c.toNat
  · rw [if_pos (by omega)]
    by_cases h2 : c.toNat ≤ 126
    · rw [if_pos (by omega), e34]; simp [h, h2]
    · rw [if_neg (by omega)]; simp [h2]
  · rw [if_neg (by omega)]
    simp [h]
theorem idx_has (c : UInt8) : ∀ l : List UInt8, decide (Lib.indexByte l c ≥ 0) = l.contains c
  | [] => by simp [Lib.indexByte]
  | b :: l => by
    have ih := idx_has c l
    have hg := Lib.indexByte_ge l c
    rw [Lib.indexByte, List.contains_cons]
    by_cases e : b = c
    · subst e; simp
    · rw [if_neg (by simpa using e)]
      have e2 : (c == b) = false := by simpa using fun h => e h.symm
      rw [e2, Bool.false_or, ← ih]
      by_cases h1 : Lib.indexByte l c = -1
      · simp [h1]
      · rw [if_neg (by simpa using h1)]
        simp only [decide_eq_decide]
        omega
theorem byte_back (c : UInt8) : (c.toNat : Int).toNat.toUInt8 = c := by simp
theorem name_f (c : UInt8) : lexer_nameByte.f (c.toNat : Int) = some (nam c) := by
  unfold lexer_nameByte.f nam
  rw [alp_f, Option.bind_some]
  cases ha : alp c with
  | true => simp
  | false =>
    rw [if_neg (by simp), dig_f, Option.bind_some]
    cases hd : dig c with
    | true => simp
    | false =>
      rw [if_neg (by simp)]
      unfold strings_IndexByte.f
      rw [Option.bind_some, byte_back, idx_has]
      simp [Bool.or_assoc, Bool.beq_eq_decide_eq]
theorem run_gen (g : Nat → ByteArray → Int → Int → Option ByteArray) (pf : Int → Option Bool) (p : UInt8 → Bool) (hp : ∀ c : UInt8, pf (c.toNat : Int) = some (p c))
    (hg : ∀ k x n i, g (k + 1) x n i = if i < n then (if 0 ≤ i then (if i < (x.size : Int) then ((pf (bt x i)).bind fun t => (if t = true then (g k x n (wrap64 (i + 1))) else (if i ≤ (x.size : Int) then (some (x.extract 0 (i : Int).toNat)) else (none)))) else (none)) else (none)) else (some x))
    (s : ByteArray) (hs : s.size ≤ 4611686018427387904) (d : Nat) : ∀ (i : Nat), i ≤ s.size → s.size - i = d → ((bs s).take i).all p = true →
    Ev (fun k => g k s s.size i) (s.extract 0 ((bs s).takeWhile p).length) := by
  have hw : ∀ i, i ≤ s.size → ((bs s).take i).all p = true → ((bs s).takeWhile p).length = i + (((bs s).drop i).takeWhile p).length := by
    intro i hi ha
    conv => lhs; rw [← List.take_append_drop i (bs s)]
    rw [List.takeWhile_append_of_pos (fun a h => List.all_eq_true.1 ha a h), List.length_append, List.length_take, bs_length]
    omega
  induction d with
  | zero =>
    intro i hi hd ha
    have h1 := hw i hi ha
    rw [List.drop_of_length_le (by rw [bs_length]; omega)] at h1
    have e : ((bs s).takeWhile p).length = s.size := by simp at h1; omega
    refine Ev.next (fun k => hg k s _ _) ?_
    refine Ev.neg (by omega) (Ev.done fun _ => ?_)
    rw [e]
    congr 1
    apply bs_inj
    rw [bs_extract]
    simp [← bs_length]
  | succ d ih =>
    intro i hi hd ha
    have hlt : i < s.size := by omega
    have hltL : i < (bs s).length := hlt
    have h1 := hw i hi ha
    have hc : (bs s)[i]? = some ((bs s)[i]'hltL) := List.getElem?_eq_getElem hltL
    refine Ev.next (fun k => hg k s _ _) ?_
    refine Ev.pos (by omega) (Ev.pos (by omega) (Ev.pos (by omega) ?_))
    rw [bt_get s i _ hc]
    refine Ev.bindS (hp _) ?_
    cases hv : p ((bs s)[i]'hltL) with
    | true =>
      refine Ev.pos rfl ?_
      have e : wrap64 ((i : Int) + 1) = ((i + 1 : Nat) : Int) := by rw [wrap_in (by omega) (by omega)]; rfl
      rw [e]
      refine ih (i + 1) (by omega) (by omega) ?_
      rw [List.take_succ_eq_append_getElem hltL, List.all_append, ha]
      simp [hv]
    | false =>
      refine Ev.neg (by simp) (Ev.pos (by omega) (Ev.done fun _ => ?_))
      have h2 : ((bs s).drop i).takeWhile p = [] := by
        rw [List.drop_eq_getElem_cons hltL, List.takeWhile_cons, hv]
        rfl
      rw [h2] at h1
      rw [h1]
      simp
theorem run_name (s : ByteArray) (hs : s.size ≤ 4611686018427387904) : Ev (fun k => lexer_run_lexer_nameByte.f k s) (s.extract 0 ((bs s).takeWhile nam).length) :=
  Ev.same (run_gen lexer_run_lexer_nameByte.l0 lexer_nameByte.f nam name_f (fun k x n i => by rw [lexer_run_lexer_nameByte.l0]) s hs _ 0 (Nat.zero_le _) rfl (by simp)) (fun k => rfl)
theorem run_plain (s : ByteArray) (hs : s.size ≤ 4611686018427387904) : Ev (fun k => lexer_run_lexer_plain.f k s) (s.extract 0 ((bs s).takeWhile pln).length) :=
  Ev.same (run_gen lexer_run_lexer_plain.l0 lexer_plain.f pln plain_f (fun k x n i => by rw [lexer_run_lexer_plain.l0]) s hs _ 0 (Nat.zero_le _) rfl (by simp)) (fun k => rfl)
theorem take_takeWhile (p : UInt8 → Bool) (l : List UInt8) : l.take (l.takeWhile p).length = l.takeWhile p := by
  induction l with
  | nil => rfl
  | cons c r ih =>
    rw [List.takeWhile_cons]
    cases p c with
    | true => simp [ih]
    | false => rfl
theorem bs_run (s : ByteArray) (p : UInt8 → Bool) : bs (s.extract 0 ((bs s).takeWhile p).length) = (bs s).takeWhile p := by
  rw [bs_extract, List.drop_zero, Nat.sub_zero, take_takeWhile]
theorem bs_eq_iff (s : ByteArray) (l : List UInt8) : s.toList = l ↔ bs s = l := by rw [toList_bs]
theorem unit_f (s : ByteArray) : lexer_Unit.f s = some (((unit (bs s)).1 : Int), (unit (bs s)).2) := by
  unfold lexer_Unit.f unit
  simp only [bs_eq_iff]
  repeat' split
  all_goals rfl
end Go.Proofs.YtifhmdlgjojodaaDoor.Lex
end
section
namespace Go.Proofs.YtifhmdlgjojodaaDoor.Lex
open Go.RowKit Go.Proofs.YtifhmdlgjojodaaDoor.Q Go.Proofs.YtifhmdlgjojodaaDoorW.PrintWords Go.Proofs.YtifhmdlgjojodaaDoorW.PrintMore Go.Proofs.YtifhmdlgjojodaaDoorW.EvMore
theorem takeWhile_all (p : UInt8 → Bool) (l : List UInt8) : (l.takeWhile p).all p = true := by
  induction l with
  | nil => rfl
  | cons c r ih =>
    rw [List.takeWhile_cons]
    cases h : p c with
    | true => simp [h]
    | false => rfl
end Go.Proofs.YtifhmdlgjojodaaDoor.Lex
end
section
namespace Go.Proofs.YtifhmdlgjojodaaDoor.Lex
open Go.RowKit Go.Proofs.YtifhmdlgjojodaaDoor.Q Go.Proofs.YtifhmdlgjojodaaDoorW.PrintWords Go.Proofs.YtifhmdlgjojodaaDoorW.PrintMore Go.Proofs.YtifhmdlgjojodaaDoorW.EvMore
theorem u8_eq {c d : UInt8} (h : (c.toNat : Int) = (d.toNat : Int)) : c = d := UInt8.toNat_inj.1 (by omega)
def symb : List UInt8 → List UInt8
  | [] => []
  | c :: r => if c = 62 ∧ r.head? = some 61 then [62, 61] else if sym c = true then [c] else []
theorem sym_has (c : UInt8) : decide (Lib.indexByte [40, 41, 123, 125, 60, 61, 33, 59, 44, 58] c ≥ 0) = sym c := by
  rw [idx_has]
  simp [sym, Bool.or_assoc, Bool.beq_eq_decide_eq]
theorem symbol_f (s : ByteArray) : ∃ t, lexer_symbol.f s = some t ∧ bs t = symb (bs s) := by
  unfold lexer_symbol.f strings_HasPrefix.f stringslite_HasPrefix.f
  have e2 : ((⟨#[62, 61]⟩ : ByteArray).size : Int) = 2 := rfl
  have hx : (s.extract 0 ((2 : Int)).toNat).toList = (bs s).take 2 := by rw [toList_bs, bs_extract]; rfl
  have hp : ∃ b, ((if (s.size : Int) ≥ ((⟨#[62, 61]⟩ : ByteArray).size : Int) then (if 0 ≤ ((⟨#[62, 61]⟩ : ByteArray).size : Int) then (if ((⟨#[62, 61]⟩ : ByteArray).size : Int) ≤ (s.size : Int) then (some ((s.extract 0 (((⟨#[62, 61]⟩ : ByteArray).size : Int) : Int).toNat).toList == (⟨#[62, 61]⟩ : ByteArray).toList)) else (none)) else (none)) else (some false)) : Option Bool) = some b ∧ (b = true ↔ (bs s).take 2 = [62, 61]) := by
    rw [e2, hx]
    by_cases h : (s.size : Int) ≥ 2
    · rw [if_pos h, if_pos (by omega), if_pos h]
      refine ⟨_, rfl, ?_⟩
      rw [beq_iff_eq, toList_bs]
      rfl
    · rw [if_neg h]
      refine ⟨_, rfl, ?_⟩
      simp only [Bool.false_eq_true, false_iff]
      intro e
      have := congrArg List.length e
      simp [bs_length] at this
      omega
  obtain ⟨b, hb, hbi⟩ := hp
  rw [hb]
  simp only [Option.bind_some]
  cases b with
  | true =>
    rw [if_pos rfl]
    refine ⟨_, rfl, ?_⟩
    have := hbi.1 rfl
    cases h : bs s with
    | nil => rw [h] at this; cases this
    | cons c r =>
      rw [h] at this
      cases r with
      | nil => simp at this
      | cons d r =>
        simp at this
        rw [symb, if_pos (by simp [this])]
        rfl
  | false =>
    rw [if_neg (by simp)]
    cases h : bs s with
    | nil =>
      rw [if_pos ((bs_eq_iff _ _).2 h)]
      exact ⟨_, rfl, rfl⟩
    | cons c r =>
      have hn : ¬ (c = 62 ∧ r.head? = some 61) := by
        rintro ⟨rfl, hr⟩
        cases r with
        | nil => simp at hr
        | cons d r => simp at hr; subst hr; exact absurd (hbi.2 (by rw [h]; rfl)) (by simp)
      have hsz : s.size = r.length + 1 := by rw [← bs_length, h]; rfl
      have hg := bt_get s 0 c (by rw [h]; rfl)
      rw [show ((0 : Nat) : Int) = 0 from rfl] at hg
      rw [if_neg (fun e => by rw [bs_eq_iff, h] at e; cases e), if_pos (by omega), hg]
      unfold strings_IndexByte.f
      rw [Option.bind_some, byte_back]
      rw [symb, if_neg hn]
      have hs := sym_has c
      cases hv : sym c with
      | true =>
        rw [hv] at hs
        rw [if_pos (of_decide_eq_true hs), if_pos (by omega), if_pos (by omega), if_pos rfl]
        refine ⟨_, rfl, ?_⟩
        rw [bs_extract, h]
        rfl
      | false =>
        rw [hv] at hs
        rw [if_neg (of_decide_eq_false hs), if_neg (by simp)]
        exact ⟨_, rfl, rfl⟩
end Go.Proofs.YtifhmdlgjojodaaDoor.Lex
end
section
namespace Go.Proofs.YtifhmdlgjojodaaDoor.Lex
open Go.RowKit Go.Proofs.YtifhmdlgjojodaaDoor.Q Go.Proofs.YtifhmdlgjojodaaDoorW.PrintWords Go.Proofs.YtifhmdlgjojodaaDoorW.PrintMore Go.Proofs.YtifhmdlgjojodaaDoorW.EvMore
def Rel (a : S36) (t : Tok) : Prop := a.f0 = t.kind ∧ bs a.f1 = t.text ∧ a.f2 = t.int ∧ a.f3 = (t.at_ : Int)
inductive Rels : List S36 → List Tok → Prop where
  | nil : Rels [] []
  | cons {a t xs ts} : Rel a t → Rels xs ts → Rels (a :: xs) (t :: ts)
theorem Rels.append {xs ys ts us} (h : Rels xs ts) (k : Rels ys us) : Rels (xs ++ ys) (ts ++ us) := by
  induction h with
  | nil => exact k
  | cons h1 _ ih => exact .cons h1 ih
theorem Rels.length {xs ts} (h : Rels xs ts) : xs.length = ts.length := by
  induction h with
  | nil => rfl
  | cons _ _ ih => simp [ih]
end Go.Proofs.YtifhmdlgjojodaaDoor.Lex
end
section
namespace Go.Proofs.YtifhmdlgjojodaaDoor.Lex
open Go.RowKit Go.Proofs.YtifhmdlgjojodaaDoor.Q Go.Proofs.YtifhmdlgjojodaaDoorW.PrintWords Go.Proofs.YtifhmdlgjojodaaDoorW.PrintMore Go.Proofs.YtifhmdlgjojodaaDoorW.EvMore
theorem rdig_f (c : UInt8) : tapearchiveref28_digit.f (c.toNat : Int) = some (dig c) := dig_f c
theorem ralp_f (c : UInt8) : tapearchiveref28_letter.f (c.toNat : Int) = some (alp c) := alp_f c
theorem rpln_f (c : UInt8) : tapearchiveref28_content.f (c.toNat : Int) = some (pln c) := plain_f c
theorem u8_lit {c d : UInt8} : ((c.toNat : Int) = (d.toNat : Int)) ↔ c = d := ⟨u8_eq, fun h => by rw [h]⟩
theorem rnam_f (c : UInt8) : tapearchiveref28_named.f (c.toNat : Int) = some (nam c) := by
  unfold tapearchiveref28_named.f nam
  rw [ralp_f, Option.bind_some]
  have k : ∀ d : UInt8, ((c.toNat : Int) = (d.toNat : Int)) = (c = d) := fun d => propext u8_lit
  have k95 := k 95; have k45 := k 45; have k46 := k 46; have k47 := k 47; have k42 := k 42
  have k63 : ((c.toNat : Int) == 63) = (c == 63) := by
    rw [Bool.eq_iff_iff, beq_iff_eq, beq_iff_eq]
    exact u8_lit (d := 63)
  cases ha : alp c with
  | true => simp
  | false =>
    rw [if_neg (by simp), rdig_f, Option.bind_some]
    cases hd : dig c with
    | true => simp
    | false =>
      rw [if_neg (by simp)]
      simp only [show ((c.toNat : Int) = 95) = (c = 95) from k95, show ((c.toNat : Int) = 45) = (c = 45) from k45, show ((c.toNat : Int) = 46) = (c = 46) from k46, show ((c.toNat : Int) = 47) = (c = 47) from k47, show ((c.toNat : Int) = 42) = (c = 42) from k42, k63]
      repeat' split
      all_goals simp_all
theorem runit_f (s : ByteArray) : tapearchiveref28_Unit.f s = some (((unit (bs s)).1 : Int), (unit (bs s)).2) := unit_f s
theorem drop_cons {s : ByteArray} {p : Nat} (h : p < s.size) : ∃ c, (bs s).drop p = c :: (bs s).drop (p + 1) ∧ bt s (p : Int) = (c.toNat : Int) := by
  have hl : p < (bs s).length := h
  exact ⟨(bs s)[p]'hl, List.drop_eq_getElem_cons hl, bt_get s p _ (List.getElem?_eq_getElem hl)⟩
theorem wrap_succ {s : ByteArray} {p : Nat} (hs : s.size ≤ 4611686018427387904) (h : p < s.size) : wrap64 ((p : Int) + 1) = ((p + 1 : Nat) : Int) := by rw [wrap_in (by omega) (by omega)]; omega
end Go.Proofs.YtifhmdlgjojodaaDoor.Lex
end
section
namespace Go.Proofs.YtifhmdlgjojodaaDoor.Lex
open Go.RowKit Go.Proofs.YtifhmdlgjojodaaDoor.Q Go.Proofs.YtifhmdlgjojodaaDoorW.PrintWords Go.Proofs.YtifhmdlgjojodaaDoorW.PrintMore Go.Proofs.YtifhmdlgjojodaaDoorW.EvMore
theorem rsymbol_f (s : ByteArray) : tapearchiveref28_Symbol.f s = some (symT (bs s)) := by
  unfold tapearchiveref28_Symbol.f
  simp only [bs_eq_iff]
  have key : ∀ l : List UInt8, (if l = [40] then some true else if l = [41] then some true else if l = [123] then some true else if l = [125] then some true else if l = [60] then some true else if l = [62, 61] then some true else if l = [61] then some true else if l = [33] then some true else if l = [59] then some true else if l = [44] then some true else if l = [58] then some true else some false) = some (symT l) := by
    intro l
    match l with
    | [] => simp [symT]
    | [c] =>
      simp only [List.cons.injEq, and_true, reduceCtorEq, and_false, if_false]
      unfold symT sym
      by_cases h1 : c = 40
      · simp [h1]
      rw [if_neg h1]
      by_cases h2 : c = 41
      · simp [h2]
      rw [if_neg h2]
      by_cases h3 : c = 123
      · simp [h3]
      rw [if_neg h3]
      by_cases h4 : c = 125
      · simp [h4]
      rw [if_neg h4]
      by_cases h5 : c = 60
      · simp [h5]
      rw [if_neg h5]
      by_cases h6 : c = 61
      · simp [h6]
      rw [if_neg h6]
      by_cases h7 : c = 33
      · simp [h7]
      rw [if_neg h7]
      by_cases h8 : c = 59
      · simp [h8]
      rw [if_neg h8]
      by_cases h9 : c = 44
      · simp [h9]
      rw [if_neg h9]
      by_cases h10 : c = 58
      · simp [h10]
      rw [if_neg h10]
      simp [h1, h2, h3, h4, h5, h6, h7, h8, h9, h10]
    | [c, d] =>
      by_cases h : c = 62 ∧ d = 61
      · simp [h, symT]
      · have e : ([c, d] == ([62, 61] : List UInt8)) = false := by simpa using h
        simp [h, symT]
        intro a b; exact h ⟨a, b⟩
    | c :: d :: e :: r => simp [symT]
  exact key _
end Go.Proofs.YtifhmdlgjojodaaDoor.Lex
end
section
namespace Go.Proofs.YtifhmdlgjojodaaDoor.Lex
open Go.RowKit Go.Proofs.YtifhmdlgjojodaaDoor.Q Go.Proofs.YtifhmdlgjojodaaDoorW.PrintWords
set_option maxRecDepth 100000 in
theorem lives_f : tapearchivelaw28_lives.f 40 = some true := by kernel_rfl
end Go.Proofs.YtifhmdlgjojodaaDoor.Lex
end
section
namespace Go.Proofs.YtifhmdlgjojodaaDoor.Lex
open Go.RowKit Go.Proofs.YtifhmdlgjojodaaDoor.Q Go.Proofs.YtifhmdlgjojodaaDoorW.PrintWords Go.Proofs.YtifhmdlgjojodaaDoorW.PrintMore Go.Proofs.YtifhmdlgjojodaaDoorW.EvMore
theorem lives_ev : Ev (fun k => tapearchivelaw28_lives.f k) true := by
  refine ⟨40, fun k hk => ?_⟩
  induction k with
  | zero => omega
  | succ k ih =>
    by_cases h : 40 ≤ k
    · exact tapearchivelaw28_lives.mono k _ (ih h)
    · have : k + 1 = 40 := by omega
      rw [this]
      exact lives_f
theorem Rels.get {xs ts} (h : Rels xs ts) : ∀ i, i < xs.length → ∃ t, ts[i]? = some t ∧ Rel (xs.getD i z36) t := by
  induction h with
  | nil => intro i hi; simp at hi
  | @cons a t xs ts h1 _ ih =>
    intro i hi
    cases i with
    | zero => exact ⟨t, rfl, h1⟩
    | succ i =>
      obtain ⟨u, hu, hr⟩ := ih i (by simpa using hi)
      exact ⟨u, by simpa using hu, by simpa using hr⟩
end Go.Proofs.YtifhmdlgjojodaaDoor.Lex
end
section
namespace Go.Proofs.YtifhmdlgjojodaaDoor.Lex
open Go.RowKit Go.Proofs.YtifhmdlgjojodaaDoor.Q Go.Proofs.YtifhmdlgjojodaaDoorW.PrintWords Go.Proofs.YtifhmdlgjojodaaDoorW.PrintMore Go.Proofs.YtifhmdlgjojodaaDoorW.EvMore
def isName : List UInt8 → Bool
  | [] => false
  | c :: r => !dig c && c != 45 && (c :: r).all nam
def quo (t : List UInt8) : List UInt8 := if t.all pln = true then 34 :: t ++ [34] else []
def wd (k : Int) (t : List UInt8) (n : Int) : List UInt8 :=
  if k = 2 then (if t = [] ∧ 0 ≤ n ∧ n ≤ 1125899906842624 then Lib.decDigits n.toNat else [])
  else if k = 3 then (if n = 0 then quo t else [])
  else if k = 1 then (if n = 0 ∧ isName t = true then t else [])
  else if k = 4 then (if n = 0 ∧ symT t = true then t else [])
  else []
def tot (ws : List (List UInt8)) : Nat := (ws.map fun w => w.length + 1).sum
def txt (ws : List (List UInt8)) : List UInt8 := if ([] : List UInt8) ∈ ws ∨ 16385 < tot ws then [] else Lib.join ws [32]
theorem takeWhile_iff (p : UInt8 → Bool) (l : List UInt8) : l.takeWhile p = l ↔ l.all p = true := by
  constructor
  · intro h; rw [← h]; exact takeWhile_all p l
  · intro h
    have := List.takeWhile_append_of_pos (p := p) (l₁ := l) (l₂ := []) (fun a ha => List.all_eq_true.1 h a ha)
    simpa using this
theorem bs_size {s : ByteArray} {l : List UInt8} (h : bs s = l) : s.size = l.length := by rw [← bs_length, h]
theorem quote_ev (s : ByteArray) (hs : s.size ≤ 4611686018427387904) : Ev (fun k => lexer_Quote.f k s) ⟨(quo (bs s)).toArray⟩ := by
  unfold lexer_Quote.f quo
  refine Ev.both (run_plain s hs) ?_
  have hr := bs_run s pln
  have hi := takeWhile_iff pln (bs s)
  by_cases h : (bs s).all pln = true
  · rw [if_pos h]
    refine Ev.pos (by rw [toList_bs, toList_bs, hr, hi.2 h]) (Ev.pos (by omega) (Ev.pos (by omega) (Ev.done fun _ => ?_)))
    congr 1
  · rw [if_neg h]
    exact Ev.neg (by rw [toList_bs, toList_bs, hr, hi]; exact h) (Ev.done fun _ => rfl)
theorem symT_symb (l : List UInt8) (h : l ≠ []) : symb l = l ↔ symT l = true := by
  match l with
  | [] => exact absurd rfl h
  | [c] =>
    have e : ¬ (c = 62 ∧ ([] : List UInt8).head? = some 61) := by simp
    simp only [symb]
    rw [if_neg e]
    by_cases hs : sym c = true
    · simp [hs, symT]
    · simp [hs, symT]
  | [c, d] =>
    simp only [symb]
    by_cases hc : c = 62 ∧ d = 61
    · simp [hc, symT]
    · have e : ¬ (c = 62 ∧ [d].head? = some 61) := by simpa using hc
      rw [if_neg e]
      by_cases hs : sym c = true
      · simp [hs, symT]
        intro a b; exact hc ⟨a, b⟩
      · simp [hs, symT]
        intro a b; exact hc ⟨a, b⟩
  | c :: d :: f :: r =>
    simp only [symb]
    split
    · simp [symT]
    · split <;> simp [symT]
theorem word_ev (a0 : Int) (a1 : ByteArray) (a2 a3 : Int) (hs : a1.size ≤ 4611686018427387904) : Ev (fun k => lexer_word.f k a0 a1 a2 a3) ⟨(wd a0 (bs a1) a2).toArray⟩ := by
  have no : wd a0 (bs a1) a2 = [] → (⟨(wd a0 (bs a1) a2).toArray⟩ : ByteArray) = ⟨#[]⟩ := fun h => by rw [h]
  have yes : wd a0 (bs a1) a2 = bs a1 → (⟨(wd a0 (bs a1) a2).toArray⟩ : ByteArray) = a1 := fun h => by rw [h]; exact bs_inj rfl
  unfold lexer_word.f
  by_cases h2 : a0 = 2
  · have hw : wd a0 (bs a1) a2 = if bs a1 = [] ∧ 0 ≤ a2 ∧ a2 ≤ 1125899906842624 then Lib.decDigits a2.toNat else [] := if_pos h2
    refine Ev.pos h2 ?_
    by_cases ht : bs a1 = []
    · refine Ev.pos (by rw [toList_bs]; exact ht) ?_
      by_cases h0 : a2 ≥ 0
      · refine Ev.pos h0 ?_
        by_cases hm : a2 ≤ 1125899906842624
        · have hw2 := hw.trans (if_pos ⟨ht, h0, hm⟩)
          rw [hw2]
          refine Ev.pos hm (Ev.bindS (a := ⟨(Lib.itoa a2).toArray⟩) ?_ (Ev.done fun _ => ?_))
          · unfold strconv_Itoa.f; exact if_pos ⟨by omega, by omega⟩
          · unfold Lib.itoa; rw [if_neg (by omega)]
        · rw [no (hw.trans (if_neg fun h => hm h.2.2))]
          exact Ev.neg hm (Ev.done fun _ => rfl)
      · rw [no (hw.trans (if_neg fun h => h0 h.2.1))]
        exact Ev.neg h0 (Ev.done fun _ => rfl)
    · rw [no (hw.trans (if_neg fun h => ht h.1))]
      exact Ev.neg (by rw [toList_bs]; exact ht) (Ev.done fun _ => rfl)
  · refine Ev.neg h2 ?_
    by_cases h3 : a0 = 3
    · have hw : wd a0 (bs a1) a2 = if a2 = 0 then quo (bs a1) else [] := (if_neg h2).trans (if_pos h3)
      refine Ev.pos h3 ?_
      by_cases h0 : a2 = 0
      · rw [hw.trans (if_pos h0)]
        exact Ev.pos h0 (Ev.both (quote_ev a1 hs) (Ev.done fun _ => rfl))
      · rw [no (hw.trans (if_neg h0))]
        exact Ev.neg h0 (Ev.done fun _ => rfl)
    · refine Ev.neg h3 ?_
      by_cases h1 : a0 = 1
      · have hw : wd a0 (bs a1) a2 = if a2 = 0 ∧ isName (bs a1) = true then bs a1 else [] := (if_neg h2).trans ((if_neg h3).trans (if_pos h1))
        refine Ev.pos h1 ?_
        by_cases h0 : a2 = 0
        · refine Ev.pos h0 ?_
          by_cases hb0 : bs a1 = []
          · rw [no (hw.trans (if_neg (by rintro ⟨_, h⟩; rw [hb0] at h; simp [isName] at h)))]
            exact Ev.pos (by rw [toList_bs]; exact hb0) (Ev.done fun _ => rfl)
          · obtain ⟨c, r, hb⟩ := List.exists_cons_of_ne_nil hb0
            refine Ev.neg (by rw [toList_bs]; exact hb0) (Ev.both (run_name a1 hs) ?_)
            have hr := bs_run a1 nam
            have hi := takeWhile_iff nam (bs a1)
            by_cases ha : (bs a1).all nam = true
            · refine Ev.pos (by rw [toList_bs, toList_bs, hr, hi.2 ha]) (Ev.pos (by have := bs_size hb; simp at this; omega) ?_)
              rw [show bt a1 0 = (c.toNat : Int) from bt_get a1 0 c (by rw [hb]; rfl)]
              refine Ev.bindS (dig_f c) ?_
              rw [hb] at ha
              by_cases hd : dig c = true
              · rw [no (hw.trans (if_neg (by rintro ⟨_, h⟩; rw [hb] at h; simp [isName, hd] at h)))]
                exact Ev.pos hd (Ev.done fun _ => rfl)
              · refine Ev.neg hd ?_
                by_cases h45 : c = 45
                · rw [no (hw.trans (if_neg (by rintro ⟨_, h⟩; rw [hb] at h; simp [isName, h45] at h)))]
                  exact Ev.pos (by rw [h45]; rfl) (Ev.done fun _ => rfl)
                · rw [yes (hw.trans (if_pos ⟨h0, by rw [hb]; simp only [isName]; rw [ha]; simp [hd, h45]⟩))]
                  exact Ev.neg (fun e => h45 (u8_eq e)) (Ev.done fun _ => rfl)
            · rw [no (hw.trans (if_neg (by rintro ⟨_, h⟩; rw [hb] at h ha; simp only [isName, Bool.and_eq_true] at h; exact ha h.2)))]
              exact Ev.neg (by rw [toList_bs, toList_bs, hr, hi]; exact ha) (Ev.done fun _ => rfl)
        · rw [no (hw.trans (if_neg fun h => h0 h.1))]
          exact Ev.neg h0 (Ev.done fun _ => rfl)
      · refine Ev.neg h1 ?_
        by_cases h4 : a0 = 4
        · have hw : wd a0 (bs a1) a2 = if a2 = 0 ∧ symT (bs a1) = true then bs a1 else [] := (if_neg h2).trans ((if_neg h3).trans ((if_neg h1).trans (if_pos h4)))
          refine Ev.pos h4 ?_
          by_cases h0 : a2 = 0
          · refine Ev.pos h0 ?_
            by_cases hn : bs a1 = []
            · rw [no (hw.trans (if_neg (by rintro ⟨_, h⟩; rw [hn] at h; simp [symT] at h)))]
              exact Ev.pos (by rw [toList_bs]; exact hn) (Ev.done fun _ => rfl)
            · refine Ev.neg (by rw [toList_bs]; exact hn) ?_
              obtain ⟨t, ht, hbt⟩ := symbol_f a1
              refine Ev.bindS ht ?_
              have hi := symT_symb (bs a1) hn
              by_cases hy : symT (bs a1) = true
              · rw [yes (hw.trans (if_pos ⟨h0, hy⟩))]
                exact Ev.pos (by rw [toList_bs, toList_bs, hbt, hi.2 hy]) (Ev.done fun _ => rfl)
              · rw [no (hw.trans (if_neg fun h => hy h.2))]
                exact Ev.neg (by rw [toList_bs, toList_bs, hbt, hi]; exact hy) (Ev.done fun _ => rfl)
          · rw [no (hw.trans (if_neg fun h => h0 h.1))]
            exact Ev.neg h0 (Ev.done fun _ => rfl)
        · rw [no ((if_neg h2).trans ((if_neg h3).trans ((if_neg h1).trans (if_neg h4))))]
          exact Ev.neg h4 (Ev.done fun _ => rfl)
def wds (l : List S36) : List (List UInt8) := l.map fun x => wd x.f0 (bs x.f1) x.f2
theorem tot_append (a b : List (List UInt8)) : tot (a ++ b) = tot a + tot b := by simp [tot]
theorem tot_take_le (ws : List (List UInt8)) (i : Nat) : tot (ws.take i) ≤ tot ws := by
  conv => rhs; rw [← List.take_append_drop i ws, tot_append]
  omega
theorem tot_one (w : List UInt8) : tot [w] = w.length + 1 := by simp [tot]
theorem join_tot : ∀ ws : List (List UInt8), ws ≠ [] → (Lib.join ws [32]).length + 1 = tot ws
  | [], h => absurd rfl h
  | x :: r, _ => by
    rw [Lib.join_length]
    have : ∀ r : List (List UInt8), tot r = r.length + Lib.lens r := by
      intro r
      induction r with
      | nil => rfl
      | cons a r ih =>
        have h1 : tot (a :: r) = a.length + 1 + tot r := by simp [tot]
        have h2 : Lib.lens (a :: r) = a.length + Lib.lens r := by simp [Lib.lens]
        rw [h1, h2, ih]
        simp only [List.length_cons]
        omega
    rw [this]
    simp only [List.length_cons, List.length_nil]
    omega
theorem join_le (ws : List (List UInt8)) : (Lib.join ws [32]).length ≤ tot ws := by
  by_cases h : ws = []
  · rw [h]; simp [Lib.join, tot]
  · have := join_tot ws h; omega
theorem tot_ge (ws : List (List UInt8)) : ws.length ≤ tot ws := by
  induction ws with
  | nil => simp
  | cons a r ih =>
    have h1 : tot (a :: r) = a.length + 1 + tot r := by simp [tot]
    rw [h1]; simp only [List.length_cons]; omega
theorem text_loop (l : List S36) (hl : l.length ≤ 4611686018427387904) (hsz : ∀ x ∈ l, x.f1.size ≤ 4611686018427387904) (hws : ∀ w ∈ wds l, w.length ≤ 4611686018427387904) (d : Nat) : ∀ (i : Nat) (acc : List ByteArray), i ≤ l.length → l.length - i = d → acc.map (·.data.toList) = (wds l).take i → ([] : List UInt8) ∉ (wds l).take i → tot ((wds l).take i) ≤ 16385 →
    Ev (fun k => lexer_Text.l0 k acc (tot ((wds l).take i) : Int) l (l.length : Int) i) ⟨(txt (wds l)).toArray⟩ := by
  have hlw : (wds l).length = l.length := by simp [wds]
  induction d with
  | zero =>
    intro i acc h1 h2 h3 h4 h5
    have q1 : ¬ (i : Int) < (l.length : Int) := by omega
    have hfull : (wds l).take i = wds l := List.take_of_length_le (by omega)
    rw [hfull] at h3 h4 h5 ⊢
    refine Ev.next (fun k => by rw [lexer_Text.l0]) ?_
    have hj := join_le (wds l)
    have hg := tot_ge (wds l)
    have hal : acc.length = l.length := by rw [← hlw, ← h3, List.length_map]
    refine Ev.neg q1 (Ev.bindS (a := ⟨(Lib.join (wds l) [32]).toArray⟩) ?_ (Ev.done fun _ => ?_))
    · unfold strings_Join.f
      rw [h3]
      exact if_pos ⟨by omega, Nat.le_trans hj (by omega)⟩
    · unfold txt
      rw [if_neg (by rintro (h | h); exact h4 h; omega)]
  | succ d ih =>
    intro i acc h1 h2 h3 h4 h5
    have hlt : i < l.length := by omega
    have q1 : (i : Int) < (l.length : Int) := by omega
    have q2 : 0 ≤ (i : Int) := by omega
    have hget : l[i]? = some (l[i]'hlt) := List.getElem?_eq_getElem hlt
    have hrd : rd_T36 l (i : Int) = l[i]'hlt := by unfold rd_T36; rw [Int.toNat_natCast, List.getD_eq_getElem?_getD, hget]; rfl
    have hwi : (wds l)[i]? = some (wd (l[i]'hlt).f0 (bs (l[i]'hlt).f1) (l[i]'hlt).f2) := by
      unfold wds
      rw [List.getElem?_map, hget]
      rfl
    have hmem : l[i]'hlt ∈ l := List.getElem_mem hlt
    have hwe := word_ev (l[i]'hlt).f0 (l[i]'hlt).f1 (l[i]'hlt).f2 (l[i]'hlt).f3 (hsz _ hmem)
    have hwl := hws (wd (l[i]'hlt).f0 (bs (l[i]'hlt).f1) (l[i]'hlt).f2) (List.mem_of_getElem? hwi)
    generalize wd (l[i]'hlt).f0 (bs (l[i]'hlt).f1) (l[i]'hlt).f2 = w at hwi hwe hwl
    have hlt2 : i < (wds l).length := by omega
    have hts : (wds l).take (i + 1) = (wds l).take i ++ [w] := by
      rw [List.take_succ_eq_append_getElem hlt2]
      rw [List.getElem?_eq_getElem hlt2] at hwi
      rw [Option.some.inj hwi]
    have htt : tot ((wds l).take (i + 1)) = tot ((wds l).take i) + (w.length + 1) := by rw [hts, tot_append, tot_one]
    have hle := tot_take_le (wds l) (i + 1)
    have hge := tot_ge ((wds l).take i)
    rw [List.length_take] at hge
    have hal : acc.length = i := by
      have := congrArg List.length h3
      rw [List.length_map, List.length_take] at this
      omega
    have ihn := ih (i + 1) (acc ++ [⟨w.toArray⟩]) (by omega) (by omega) (by rw [List.map_append, h3, hts]; rfl)
    generalize tot ((wds l).take (i + 1)) = T' at htt hle ihn
    generalize tot ((wds l).take i) = T at h5 htt hge ⊢
    have e0 : wrap64 (((⟨w.toArray⟩ : ByteArray).size : Int) + 1) = ((w.length + 1 : Nat) : Int) := by
      rw [show (⟨w.toArray⟩ : ByteArray).size = w.length from rfl, wrap_in (by omega) (by omega)]; omega
    have e1 : wrap64 ((T : Int) + ((w.length + 1 : Nat) : Int)) = (T' : Int) := by
      clear e0
      rw [wrap_in (by omega) (by omega)]; omega
    have e2 : wrap64 ((i : Int) + 1) = ((i + 1 : Nat) : Int) := by
      clear e0 e1
      rw [wrap_in (by omega) (by omega)]; omega
    refine Ev.next (fun k => by rw [lexer_Text.l0]) ?_
    rw [hrd]
    refine Ev.pos q1 (Ev.pos q2 (Ev.pos q1 (Ev.both hwe ?_)))
    rw [e0, e1, e2]
    clear e0 e1 e2
    by_cases hwn : w = []
    · have : txt (wds l) = [] := by unfold txt; rw [if_pos (.inl (by rw [← hwn]; exact List.mem_of_getElem? hwi))]
      rw [this]
      exact Ev.pos (by rw [toList_bs]; exact hwn) (Ev.done fun _ => rfl)
    · refine Ev.neg (by rw [toList_bs]; exact hwn) ?_
      by_cases hbig : 16385 < T'
      · have : txt (wds l) = [] := by unfold txt; rw [if_pos (.inr (by omega))]
        rw [this]
        exact Ev.pos (by omega) (Ev.done fun _ => rfl)
      · refine Ev.neg (by omega) (Ev.pos (by omega) (ihn ?_ (by omega)))
        rw [hts]
        intro hm
        rcases List.mem_append.1 hm with hm | hm
        · exact h4 hm
        · exact hwn (List.mem_singleton.1 hm).symm
theorem dec_len : ∀ (d u : Nat), 1 ≤ d → u < 10 ^ d → (Lib.decDigits u).length ≤ d
  | 0, u, h, _ => by omega
  | d + 1, u, _, h => by
    rw [Lib.decDigits]
    split
    · simp
    · rename_i hu
      have h1 : u / 10 < 10 ^ d := by rw [Nat.pow_succ] at h; omega
      have hd : 1 ≤ d := by
        cases d with
        | zero => simp at h1; omega
        | succ d => omega
      have := dec_len d (u / 10) hd h1
      simp only [List.length_append, List.length_cons, List.length_nil]
      omega
theorem wd_len (k : Int) (t : List UInt8) (n : Int) : (wd k t n).length ≤ t.length + 32 := by
  unfold wd quo
  split
  · split
    · rename_i h
      have := dec_len 17 n.toNat (by omega) (by omega)
      omega
    · simp
  · repeat' split
    all_goals simp
theorem text_ev (l : List S36) (hl : l.length ≤ 4611686018427387904) (hsz : ∀ x ∈ l, x.f1.size ≤ 4611686018427387800) : Ev (fun k => lexer_Text.f k l) ⟨(txt (wds l)).toArray⟩ := by
  refine text_loop l hl (fun x hx => by have := hsz x hx; omega) ?_ _ 0 [] (Nat.zero_le _) rfl rfl (by simp) (by simp [tot])
  intro w hw
  unfold wds at hw
  obtain ⟨x, hx, rfl⟩ := List.mem_map.1 hw
  have h1 := wd_len x.f0 (bs x.f1) x.f2
  have h2 := hsz x hx
  rw [bs_length] at h1
  omega
end Go.Proofs.YtifhmdlgjojodaaDoor.Lex
end
section
namespace Go.Proofs.YtifhmdlgjojodaaDoor.Lex
open Go.RowKit Go.Proofs.YtifhmdlgjojodaaDoor.Q Go.Proofs.YtifhmdlgjojodaaDoorW.PrintWords Go.Proofs.YtifhmdlgjojodaaDoorW.PrintMore Go.Proofs.YtifhmdlgjojodaaDoorW.EvMore
theorem sep_facts (c : UInt8) (h : c = 32 ∨ c = 10 ∨ c = 35) : nam c = false ∧ dig c = false := by
  rcases h with rfl | rfl | rfl <;> decide
def Sepd (r : List UInt8) : Prop := r = [] ∨ ∃ c r', r = c :: r' ∧ (c = 32 ∨ c = 10 ∨ c = 35)
theorem Sepd.nam {r : List UInt8} (h : Sepd r) : r.takeWhile nam = [] := by
  rcases h with rfl | ⟨c, r', rfl, hc⟩
  · rfl
  · rw [List.takeWhile_cons, (sep_facts c hc).1]; rfl
theorem Sepd.dig {r : List UInt8} (h : Sepd r) : r.takeWhile dig = [] := by
  rcases h with rfl | ⟨c, r', rfl, hc⟩
  · rfl
  · rw [List.takeWhile_cons, (sep_facts c hc).2]; rfl
def wx (x : S36) : List UInt8 := wd x.f0 (bs x.f1) x.f2
def body : List (S36 × List UInt8) → List UInt8
  | [] => []
  | (x, g) :: r => wx x ++ (g ++ body r)
end Go.Proofs.YtifhmdlgjojodaaDoor.Lex
end
