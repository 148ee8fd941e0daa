import Derived.Test.YtlcgepmacgbciaaDoorKPathTexts5
set_option linter.unusedVariables false
set_option linter.unusedSimpArgs false
section
namespace Go.Proofs.YtlcgepmacgbciaaDoor.Q
open Go.RowKit Go.Proofs.YtlcgepmacgbciaaDoorW.PrintWords Go.Proofs.YtlcgepmacgbciaaDoorW.PrintLast Go.Proofs.YtlcgepmacgbciaaDoorW.PrintMore
attribute [local go_sem] max2_int min2_int max_two min_two max_three min_three max_four min_four
attribute [local go_sem ↓] isSome_setCell
attribute [local go_sem] string_gtr
set_option linter.unusedVariables false
set_option linter.unusedSimpArgs false
def tapearchivelaw19_same.l0 : Nat → List ByteArray → List ByteArray → Int → Option (Bool)
  | 0, _, _, _ => none
  | k + 1, x0, x1, x5 => if x5 < (x0.length : Int) then (if 0 ≤ x5 then (if x5 < (x1.length : Int) then (if (rdOf ByteArray.empty x0 x5).toList = (rdOf ByteArray.empty x1 x5).toList then (tapearchivelaw19_same.l0 k x0 x1 (wrap64 (x5 + 1))) else (some false)) else (none)) else (none)) else (some true)
def tapearchivelaw19_same.f (k : Nat) (l0 : List ByteArray) (l1 : List ByteArray) : Option (Bool) := if (l0.length : Int) = (l1.length : Int) then (tapearchivelaw19_same.l0 k l0 l1 0) else (some false)
set_option maxHeartbeats 8000000 in
set_option maxRecDepth 100000 in
theorem tapearchivelaw19_same.calls (k : Nat) (A0 : Option Addr) (c0 : Nat) (l0 : List ByteArray) (A1 : Option Addr) (c1 : Nat) (l1 : List ByteArray) (r : Bool) (w : World) (hr0 : Kd.C Kd.string w A0 l0.length l0) (hc0 : l0.length ≤ c0) (hr1 : Kd.C Kd.string w A1 l1.length l1) (hc1 : l1.length ≤ c1) (h : tapearchivelaw19_same.f k l0 l1 = some r) :
    Calls Tryd.prog 15 #[.slice A0 l0.length c0, .slice A1 l1.length c1] w fun e w' => e = .returned (.bool r) ∧ Drawn0 w w' := by
  have HR0 := Aside0.mk hr0
  have HC0 := Aside0.mk hc0
  clear hr0 hc0
  have HR1 := Aside0.mk hr1
  have HC1 := Aside0.mk hc1
  clear hr1 hc1
  have H : (if (l0.length : Int) = (l1.length : Int) then (tapearchivelaw19_same.l0 k l0 l1 0) else (some false)) = some r := h
  clear h
  by_cases c3 : (l0.length : Int) = (l1.length : Int)
  · rw [if_pos c3] at H
    have c3b0 : ((l0.length : Int) == (l1.length : Int)) = true := beq_iff_eq.mpr c3
    have c3b1 : ((l0.length : Int) != (l1.length : Int)) = false := bne_eq_false_iff_eq.mpr c3
    have c3b2 : (l0.length == l1.length) = true := by first | simpa using c3 | (simp at c3 ⊢; omega)
    clear c3
    have H' := Aside0.mk H
    clear H
    go_enter Tryd.func15, Tryd.ntmps15
    go_wp2
    repeat (go_quiet (fail); try go_wp2)
    go_loopg [5] k (fun kq v5 w' => ∃ (x5_1 : Int), v5 = .int .i64 x5_1 ∧ Aside0 (tapearchivelaw19_same.l0 kq l0 l1 x5_1 = some r) ∧ Aside0 (kq ≤ k) ∧ Drawn0 w w')
    case atStart => exact ⟨(0), (by first | rfl | (simp; done) | (simp [*]; done)), H', ⟨Nat.le_refl _⟩, by repeat (first | exact Drawn0.refl _ | apply Drawn0.step)⟩
    case round =>
      clear H'
      try clear c1
      try clear p2
      try clear c3
      try clear c3b0
      try clear c3b1
      try clear c3b2
      obtain ⟨x5_1, rfl, HA, HK1, ⟨m1, rfl⟩⟩ := hrel
      cases gk with
      | zero => exact absurd HA.out (by simp [tapearchivelaw19_same.l0])
      | succ k1 =>
        have H := HA.out
        clear HA
        simp only [tapearchivelaw19_same.l0] at H
        by_cases c4 : x5_1 < (l0.length : Int)
        · rw [if_pos c4] at H
          have c4b0 : decide (x5_1 < (l0.length : Int)) = true := decide_eq_true c4
          clear c4
          by_cases c5 : 0 ≤ x5_1
          · rw [if_pos c5] at H
            have c5b0 : decide (0 ≤ x5_1) = true := decide_eq_true c5
            clear c5
            by_cases c6 : x5_1 < (l1.length : Int)
            · rw [if_pos c6] at H
              have c6b0 : decide (x5_1 < (l1.length : Int)) = true := decide_eq_true c6
              clear c6
              by_cases c7 : (rdOf ByteArray.empty l0 x5_1).toList = (rdOf ByteArray.empty l1 x5_1).toList
              · rw [if_pos c7] at H
                have c7b0 : ((rdOf ByteArray.empty l0 x5_1).toList == (rdOf ByteArray.empty l1 x5_1).toList) = true := beq_iff_eq.mpr c7
                have c7b1 : ((rdOf ByteArray.empty l0 x5_1).toList != (rdOf ByteArray.empty l1 x5_1).toList) = false := bne_eq_false_iff_eq.mpr c7
                clear c7
                have H' := Aside0.mk H
                clear H
                have p214 : 0 ≤ (x5_1 : Int) := of_decide_eq_true (by first | (with_reducible assumption) | assumption)
                have q214 : x5_1 < (l0.length : Int) := of_decide_eq_true (by first | (with_reducible assumption) | assumption)
                obtain ⟨ad214, e214, hx214_0⟩ := Kd.at_string HR0.out x5_1 p214 q214
                cases e214
                replace p214 := eq_true p214
                replace q214 := eq_true q214
                have p215 : 0 ≤ (x5_1 : Int) := of_decide_eq_true (by first | (with_reducible assumption) | assumption)
                have q215 : x5_1 < (l1.length : Int) := of_decide_eq_true (by first | (with_reducible assumption) | assumption)
                obtain ⟨ad215, e215, hx215_0⟩ := Kd.at_string HR1.out x5_1 p215 q215
                cases e215
                replace p215 := eq_true p215
                replace q215 := eq_true q215
                go_wp2
                repeat (go_quiet (fail); try go_wp2)
                go_roundg k1
                case measure => have := HK1.out; omega
                case rel => exact ⟨(wrap64 (x5_1 + 1)), (by first | rfl | (simp; done) | (simp [*]; done)), H', ⟨by have := HK1.out; omega⟩, by repeat (first | exact Drawn0.refl _ | apply Drawn0.step)⟩
              · rw [if_neg c7] at H
                have c7b0 : ((rdOf ByteArray.empty l0 x5_1).toList == (rdOf ByteArray.empty l1 x5_1).toList) = false := beq_eq_false_iff_ne.mpr c7
                have c7b1 : ((rdOf ByteArray.empty l0 x5_1).toList != (rdOf ByteArray.empty l1 x5_1).toList) = true := bne_iff_ne.mpr c7
                obtain rfl := Option.some.inj H
                have p214 : 0 ≤ (x5_1 : Int) := of_decide_eq_true (by first | (with_reducible assumption) | assumption)
                have q214 : x5_1 < (l0.length : Int) := of_decide_eq_true (by first | (with_reducible assumption) | assumption)
                obtain ⟨ad214, e214, hx214_0⟩ := Kd.at_string HR0.out x5_1 p214 q214
                cases e214
                replace p214 := eq_true p214
                replace q214 := eq_true q214
                have p215 : 0 ≤ (x5_1 : Int) := of_decide_eq_true (by first | (with_reducible assumption) | assumption)
                have q215 : x5_1 < (l1.length : Int) := of_decide_eq_true (by first | (with_reducible assumption) | assumption)
                obtain ⟨ad215, e215, hx215_0⟩ := Kd.at_string HR1.out x5_1 p215 q215
                cases e215
                replace p215 := eq_true p215
                replace q215 := eq_true q215
                go_wp2
                repeat (go_quiet (fail); try go_wp2)
                go_ret
                exact ⟨by first | rfl | (simp; done) | (simp [*]; done), by repeat (first | exact Drawn0.refl _ | apply Drawn0.step)⟩
            · rw [if_neg c6] at H
              exact absurd H (by simp)
          · rw [if_neg c5] at H
            exact absurd H (by simp)
        · rw [if_neg c4] at H
          have c4b0 : decide (x5_1 < (l0.length : Int)) = false := decide_eq_false c4
          clear c4
          obtain rfl := Option.some.inj H
          go_wp2
          repeat (go_quiet (fail); try go_wp2)
          go_ret
          exact ⟨by first | rfl | (simp; done) | (simp [*]; done), by repeat (first | exact Drawn0.refl _ | apply Drawn0.step)⟩
  · rw [if_neg c3] at H
    have c3b0 : ((l0.length : Int) == (l1.length : Int)) = false := beq_eq_false_iff_ne.mpr c3
    have c3b1 : ((l0.length : Int) != (l1.length : Int)) = true := bne_iff_ne.mpr c3
    have c3b2 : (l0.length == l1.length) = false := by first | simpa using c3 | (simp at c3 ⊢; omega)
    obtain rfl := Option.some.inj H
    go_enter Tryd.func15, Tryd.ntmps15
    go_wp2
    repeat (go_quiet (fail); try go_wp2)
    go_ret
    exact ⟨by first | rfl | (simp; done) | (simp [*]; done), by repeat (first | exact Drawn0.refl _ | apply Drawn0.step)⟩
def tapearchiveref19_Text.l0 : Nat → List ByteArray → ByteArray → Int → Option (ByteArray)
  | 0, _, _, _ => none
  | k + 1, x0, x3, x4 => if x4 < (x0.length : Int) then (if (x3.size : Int) ≤ 200 then (if x3.size + 1 ≤ 9223372036854775807 then (if 0 ≤ x4 then (if x3.size + 1 + (rdOf ByteArray.empty x0 x4).size ≤ 9223372036854775807 then (tapearchiveref19_Text.l0 k x0 ((x3 ++ (⟨#[47]⟩ : ByteArray)) ++ (rdOf ByteArray.empty x0 x4)) (wrap64 (x4 + 1))) else (none)) else (none)) else (none)) else ((tapearchiveref19_Parse.f k x3).bind fun bt238 => (if bt238.2 = 0 then (if (bt238.1.length : Int) = (x0.length : Int) then (some x3) else (some (⟨#[]⟩ : ByteArray))) else (some (⟨#[]⟩ : ByteArray))))) else ((tapearchiveref19_Parse.f k x3).bind fun bt242 => (if bt242.2 = 0 then (if (bt242.1.length : Int) = (x0.length : Int) then (some x3) else (some (⟨#[]⟩ : ByteArray))) else (some (⟨#[]⟩ : ByteArray))))
def tapearchiveref19_Text.f (k : Nat) (l0 : List ByteArray) : Option (ByteArray) := tapearchiveref19_Text.l0 k l0 (⟨#[]⟩ : ByteArray) 0
set_option maxHeartbeats 8000000 in
set_option maxRecDepth 100000 in
theorem tapearchiveref19_Text.calls (k : Nat) (A0 : Option Addr) (c0 : Nat) (l0 : List ByteArray) (r : ByteArray) (w : World) (hr0 : Kd.C Kd.string w A0 l0.length l0) (hc0 : l0.length ≤ c0) (h : tapearchiveref19_Text.f k l0 = some r) :
    Calls Tryd.prog 20 #[.slice A0 l0.length c0] w fun e w' => e = .returned (.string r) ∧ Below w.heap.size w w' := by
  have HR0 := Aside0.mk hr0
  have HC0 := Aside0.mk hc0
  clear hr0 hc0
  have HB := Aside0.mk (Below.refl w.heap.size w)
  have H : (tapearchiveref19_Text.l0 k l0 (⟨#[]⟩ : ByteArray) 0) = some r := h
  clear h
  have H' := Aside0.mk H
  clear H
  go_enter Tryd.func20, Tryd.ntmps20
  go_wp2
  go_loopg [3, 4] k (fun kq v3 v4 w' => ∃ (x3_1 : ByteArray) (x4_1 : Int), v3 = .string x3_1 ∧ v4 = .int .i64 x4_1 ∧ Aside0 (tapearchiveref19_Text.l0 kq l0 x3_1 x4_1 = some r) ∧ Aside0 (kq ≤ k) ∧ Aside0 (Below w.heap.size w w'))
  case atStart => exact ⟨((⟨#[]⟩ : ByteArray)), (0), (by first | rfl | (simp; done) | (simp [*]; done)), (by first | rfl | (simp; done) | (simp [*]; done)), H', ⟨Nat.le_refl _⟩, ⟨by repeat (first | (with_reducible first | exact HB.out | apply below_alloc | apply pw_below_drewN | apply below_drew1) | exact HB.out)⟩⟩
  case round =>
    clear H'
    obtain ⟨x3_1, x4_1, rfl, rfl, HA, HK1, HB⟩ := hrel
    cases gk with
    | zero => exact absurd HA.out (by simp [tapearchiveref19_Text.l0])
    | succ k1 =>
      have H := HA.out
      clear HA
      simp only [tapearchiveref19_Text.l0] at H
      by_cases c2 : x4_1 < (l0.length : Int)
      · rw [if_pos c2] at H
        have c2b0 : decide (x4_1 < (l0.length : Int)) = true := decide_eq_true c2
        clear c2
        by_cases c3 : (x3_1.size : Int) ≤ 200
        · rw [if_pos c3] at H
          have c3b0 : decide ((x3_1.size : Int) ≤ 200) = true := decide_eq_true c3
          have c3b1 : decide (x3_1.size ≤ 200) = true := decide_eq_true (by omega)
          clear c3
          by_cases c4 : x3_1.size + 1 ≤ 9223372036854775807
          · rw [if_pos c4] at H
            have c4b0 := eq_true c4
            have c4b1 : decide (x3_1.size + 1 ≤ 9223372036854775807) = true := decide_eq_true c4
            try have c4b2 : (9223372036854775807 < x3_1.size + 1) = False := eq_false (Nat.not_lt.2 c4)
            by_cases c5 : 0 ≤ x4_1
            · rw [if_pos c5] at H
              have c5b0 : decide (0 ≤ x4_1) = true := decide_eq_true c5
              clear c5
              by_cases c6 : x3_1.size + 1 + (rdOf ByteArray.empty l0 x4_1).size ≤ 9223372036854775807
              · rw [if_pos c6] at H
                have c6b0 := eq_true c6
                have c6b1 : decide (x3_1.size + 1 + (rdOf ByteArray.empty l0 x4_1).size ≤ 9223372036854775807) = true := decide_eq_true c6
                try have c6b2 : (9223372036854775807 < x3_1.size + 1 + (rdOf ByteArray.empty l0 x4_1).size) = False := eq_false (Nat.not_lt.2 c6)
                have H' := Aside0.mk H
                clear H
                have p237 : 0 ≤ (x4_1 : Int) := of_decide_eq_true (by first | (with_reducible assumption) | assumption)
                have q237 : x4_1 < (l0.length : Int) := of_decide_eq_true (by first | (with_reducible assumption) | assumption)
                obtain ⟨ad237, e237, hx237_0⟩ := Kd.at_string HR0.out x4_1 p237 q237
                cases e237
                replace hx237_0 := (HB.out.cell (World.block_lt_of_cell? w _ hx237_0)).trans hx237_0
                replace p237 := eq_true p237
                replace q237 := eq_true q237
                go_wp2
                go_roundg k1
                case measure => have := HK1.out; omega
                case rel => exact ⟨((x3_1 ++ (⟨#[47]⟩ : ByteArray)) ++ (rdOf ByteArray.empty l0 x4_1)), (wrap64 (x4_1 + 1)), (by first | rfl | (simp; done) | (simp [*]; done)), (by first | rfl | (simp; done) | (simp [*]; done)), H', ⟨by have := HK1.out; omega⟩, ⟨by repeat (first | (with_reducible first | exact HB.out | apply below_alloc | apply pw_below_drewN | apply below_drew1) | exact HB.out)⟩⟩
              · rw [if_neg c6] at H
                exact absurd H (by simp)
            · rw [if_neg c5] at H
              exact absurd H (by simp)
          · rw [if_neg c4] at H
            exact absurd H (by simp)
        · rw [if_neg c3] at H
          have c3b0 : decide ((x3_1.size : Int) ≤ 200) = false := decide_eq_false c3
          have c3b1 : decide (x3_1.size ≤ 200) = false := decide_eq_false (by omega)
          clear c3
          replace H := Option.bind_eq_some_iff.mp H
          obtain ⟨⟨t238, t239⟩, A70, H⟩ := H
          replace H : (if t239 = 0 then (if (t238.length : Int) = (l0.length : Int) then (some x3_1) else (some (⟨#[]⟩ : ByteArray))) else (some (⟨#[]⟩ : ByteArray))) = some r := H
          have A7 := Aside0.mk A70
          clear A70
          by_cases c8 : t239 = 0
          · rw [if_pos c8] at H
            have c8b0 : (t239 == 0) = true := beq_iff_eq.mpr c8
            have c8b1 : (t239 != 0) = false := bne_eq_false_iff_eq.mpr c8
            clear c8
            by_cases c9 : (t238.length : Int) = (l0.length : Int)
            · rw [if_pos c9] at H
              have c9b0 : ((t238.length : Int) == (l0.length : Int)) = true := beq_iff_eq.mpr c9
              have c9b1 : ((t238.length : Int) != (l0.length : Int)) = false := bne_eq_false_iff_eq.mpr c9
              have c9b2 : (t238.length == l0.length) = true := by first | simpa using c9 | (simp at c9 ⊢; omega)
              clear c9
              obtain rfl := Option.some.inj H
              go_wp2_with (first | ((with_reducible refine gate_callee (f := 14) rfl ?_); refine goesL_ (some 27) rfl rfl Tryd.func14 (by kernel_rfl) rfl #[.string x3_1] rfl (by (try simp only [List.map_toArray, List.map_cons, List.map_nil]); first | done | rfl | (simp only [List.length_drop, List.length_take]; rfl)) ?_; (with_reducible refine (tapearchiveref19_Parse.calls k1 x3_1 t238 t239 _ A7.out).mono ?_); rintro e w10 ⟨v240, rfl, ho0, hb⟩; refine ⟨_, rfl, ?_⟩; have n0_ := Aside0.mk (Kd.R_lower ho0 (below_size (by repeat (first | (with_reducible first | exact HB.out | apply below_alloc | apply pw_below_drewN | apply below_drew1) | exact HB.out)))); have n1_ := Aside0.mk (below_step (by repeat (first | (with_reducible first | exact HB.out | apply below_alloc | apply pw_below_drewN | apply below_drew1) | exact HB.out)) hb); clear HB; have HO241 := n0_; have HB := n1_; clear n0_ n1_; (try clear hb); (try clear hb2); (try clear hk); (try clear hi); (try clear ho0); obtain ⟨Ao11, co11, eo11⟩ := Kd.R_slice HO241.out; subst eo11))
              go_ret
              exact ⟨by first | rfl | (simp [errW_none, errW_some] <;> rfl) | (simp [*, errW_none, errW_some] <;> rfl), by repeat (first | (with_reducible first | exact HB.out | apply below_alloc | apply pw_below_drewN | apply below_drew1) | exact HB.out)⟩
            · rw [if_neg c9] at H
              have c9b0 : ((t238.length : Int) == (l0.length : Int)) = false := beq_eq_false_iff_ne.mpr c9
              have c9b1 : ((t238.length : Int) != (l0.length : Int)) = true := bne_iff_ne.mpr c9
              have c9b2 : (t238.length == l0.length) = false := by first | simpa using c9 | (simp at c9 ⊢; omega)
              obtain rfl := Option.some.inj H
              go_wp2_with (first | ((with_reducible refine gate_callee (f := 14) rfl ?_); refine goesL_ (some 27) rfl rfl Tryd.func14 (by kernel_rfl) rfl #[.string x3_1] rfl (by (try simp only [List.map_toArray, List.map_cons, List.map_nil]); first | done | rfl | (simp only [List.length_drop, List.length_take]; rfl)) ?_; (with_reducible refine (tapearchiveref19_Parse.calls k1 x3_1 t238 t239 _ A7.out).mono ?_); rintro e w12 ⟨v240, rfl, ho0, hb⟩; refine ⟨_, rfl, ?_⟩; have n0_ := Aside0.mk (Kd.R_lower ho0 (below_size (by repeat (first | (with_reducible first | exact HB.out | apply below_alloc | apply pw_below_drewN | apply below_drew1) | exact HB.out)))); have n1_ := Aside0.mk (below_step (by repeat (first | (with_reducible first | exact HB.out | apply below_alloc | apply pw_below_drewN | apply below_drew1) | exact HB.out)) hb); clear HB; have HO241 := n0_; have HB := n1_; clear n0_ n1_; (try clear hb); (try clear hb2); (try clear hk); (try clear hi); (try clear ho0); obtain ⟨Ao13, co13, eo13⟩ := Kd.R_slice HO241.out; subst eo13))
              go_ret
              exact ⟨by first | rfl | (simp [errW_none, errW_some] <;> rfl) | (simp [*, errW_none, errW_some] <;> rfl), by repeat (first | (with_reducible first | exact HB.out | apply below_alloc | apply pw_below_drewN | apply below_drew1) | exact HB.out)⟩
          · rw [if_neg c8] at H
            have c8b0 : (t239 == 0) = false := beq_eq_false_iff_ne.mpr c8
            have c8b1 : (t239 != 0) = true := bne_iff_ne.mpr c8
            obtain rfl := Option.some.inj H
            go_wp2_with (first | ((with_reducible refine gate_callee (f := 14) rfl ?_); refine goesL_ (some 27) rfl rfl Tryd.func14 (by kernel_rfl) rfl #[.string x3_1] rfl (by (try simp only [List.map_toArray, List.map_cons, List.map_nil]); first | done | rfl | (simp only [List.length_drop, List.length_take]; rfl)) ?_; (with_reducible refine (tapearchiveref19_Parse.calls k1 x3_1 t238 t239 _ A7.out).mono ?_); rintro e w14 ⟨v240, rfl, ho0, hb⟩; refine ⟨_, rfl, ?_⟩; have n0_ := Aside0.mk (Kd.R_lower ho0 (below_size (by repeat (first | (with_reducible first | exact HB.out | apply below_alloc | apply pw_below_drewN | apply below_drew1) | exact HB.out)))); have n1_ := Aside0.mk (below_step (by repeat (first | (with_reducible first | exact HB.out | apply below_alloc | apply pw_below_drewN | apply below_drew1) | exact HB.out)) hb); clear HB; have HO241 := n0_; have HB := n1_; clear n0_ n1_; (try clear hb); (try clear hb2); (try clear hk); (try clear hi); (try clear ho0)))
            go_ret
            exact ⟨by first | rfl | (simp [errW_none, errW_some] <;> rfl) | (simp [*, errW_none, errW_some] <;> rfl), by repeat (first | (with_reducible first | exact HB.out | apply below_alloc | apply pw_below_drewN | apply below_drew1) | exact HB.out)⟩
      · rw [if_neg c2] at H
        have c2b0 : decide (x4_1 < (l0.length : Int)) = false := decide_eq_false c2
        clear c2
        replace H := Option.bind_eq_some_iff.mp H
        obtain ⟨⟨t242, t243⟩, A150, H⟩ := H
        replace H : (if t243 = 0 then (if (t242.length : Int) = (l0.length : Int) then (some x3_1) else (some (⟨#[]⟩ : ByteArray))) else (some (⟨#[]⟩ : ByteArray))) = some r := H
        have A15 := Aside0.mk A150
        clear A150
        by_cases c16 : t243 = 0
        · rw [if_pos c16] at H
          have c16b0 : (t243 == 0) = true := beq_iff_eq.mpr c16
          have c16b1 : (t243 != 0) = false := bne_eq_false_iff_eq.mpr c16
          clear c16
          by_cases c17 : (t242.length : Int) = (l0.length : Int)
          · rw [if_pos c17] at H
            have c17b0 : ((t242.length : Int) == (l0.length : Int)) = true := beq_iff_eq.mpr c17
            have c17b1 : ((t242.length : Int) != (l0.length : Int)) = false := bne_eq_false_iff_eq.mpr c17
            have c17b2 : (t242.length == l0.length) = true := by first | simpa using c17 | (simp at c17 ⊢; omega)
            clear c17
            obtain rfl := Option.some.inj H
            go_wp2_with (first | ((with_reducible refine gate_callee (f := 14) rfl ?_); refine goesL_ (some 27) rfl rfl Tryd.func14 (by kernel_rfl) rfl #[.string x3_1] rfl (by (try simp only [List.map_toArray, List.map_cons, List.map_nil]); first | done | rfl | (simp only [List.length_drop, List.length_take]; rfl)) ?_; (with_reducible refine (tapearchiveref19_Parse.calls k1 x3_1 t242 t243 _ A15.out).mono ?_); rintro e w18 ⟨v244, rfl, ho0, hb⟩; refine ⟨_, rfl, ?_⟩; have n0_ := Aside0.mk (Kd.R_lower ho0 (below_size (by repeat (first | (with_reducible first | exact HB.out | apply below_alloc | apply pw_below_drewN | apply below_drew1) | exact HB.out)))); have n1_ := Aside0.mk (below_step (by repeat (first | (with_reducible first | exact HB.out | apply below_alloc | apply pw_below_drewN | apply below_drew1) | exact HB.out)) hb); clear HB; have HO245 := n0_; have HB := n1_; clear n0_ n1_; (try clear hb); (try clear hb2); (try clear hk); (try clear hi); (try clear ho0); obtain ⟨Ao19, co19, eo19⟩ := Kd.R_slice HO245.out; subst eo19))
            go_ret
            exact ⟨by first | rfl | (simp [errW_none, errW_some] <;> rfl) | (simp [*, errW_none, errW_some] <;> rfl), by repeat (first | (with_reducible first | exact HB.out | apply below_alloc | apply pw_below_drewN | apply below_drew1) | exact HB.out)⟩
          · rw [if_neg c17] at H
            have c17b0 : ((t242.length : Int) == (l0.length : Int)) = false := beq_eq_false_iff_ne.mpr c17
            have c17b1 : ((t242.length : Int) != (l0.length : Int)) = true := bne_iff_ne.mpr c17
            have c17b2 : (t242.length == l0.length) = false := by first | simpa using c17 | (simp at c17 ⊢; omega)
            obtain rfl := Option.some.inj H
            go_wp2_with (first | ((with_reducible refine gate_callee (f := 14) rfl ?_); refine goesL_ (some 27) rfl rfl Tryd.func14 (by kernel_rfl) rfl #[.string x3_1] rfl (by (try simp only [List.map_toArray, List.map_cons, List.map_nil]); first | done | rfl | (simp only [List.length_drop, List.length_take]; rfl)) ?_; (with_reducible refine (tapearchiveref19_Parse.calls k1 x3_1 t242 t243 _ A15.out).mono ?_); rintro e w20 ⟨v244, rfl, ho0, hb⟩; refine ⟨_, rfl, ?_⟩; have n0_ := Aside0.mk (Kd.R_lower ho0 (below_size (by repeat (first | (with_reducible first | exact HB.out | apply below_alloc | apply pw_below_drewN | apply below_drew1) | exact HB.out)))); have n1_ := Aside0.mk (below_step (by repeat (first | (with_reducible first | exact HB.out | apply below_alloc | apply pw_below_drewN | apply below_drew1) | exact HB.out)) hb); clear HB; have HO245 := n0_; have HB := n1_; clear n0_ n1_; (try clear hb); (try clear hb2); (try clear hk); (try clear hi); (try clear ho0); obtain ⟨Ao21, co21, eo21⟩ := Kd.R_slice HO245.out; subst eo21))
            go_ret
            exact ⟨by first | rfl | (simp [errW_none, errW_some] <;> rfl) | (simp [*, errW_none, errW_some] <;> rfl), by repeat (first | (with_reducible first | exact HB.out | apply below_alloc | apply pw_below_drewN | apply below_drew1) | exact HB.out)⟩
        · rw [if_neg c16] at H
          have c16b0 : (t243 == 0) = false := beq_eq_false_iff_ne.mpr c16
          have c16b1 : (t243 != 0) = true := bne_iff_ne.mpr c16
          obtain rfl := Option.some.inj H
          go_wp2_with (first | ((with_reducible refine gate_callee (f := 14) rfl ?_); refine goesL_ (some 27) rfl rfl Tryd.func14 (by kernel_rfl) rfl #[.string x3_1] rfl (by (try simp only [List.map_toArray, List.map_cons, List.map_nil]); first | done | rfl | (simp only [List.length_drop, List.length_take]; rfl)) ?_; (with_reducible refine (tapearchiveref19_Parse.calls k1 x3_1 t242 t243 _ A15.out).mono ?_); rintro e w22 ⟨v244, rfl, ho0, hb⟩; refine ⟨_, rfl, ?_⟩; have n0_ := Aside0.mk (Kd.R_lower ho0 (below_size (by repeat (first | (with_reducible first | exact HB.out | apply below_alloc | apply pw_below_drewN | apply below_drew1) | exact HB.out)))); have n1_ := Aside0.mk (below_step (by repeat (first | (with_reducible first | exact HB.out | apply below_alloc | apply pw_below_drewN | apply below_drew1) | exact HB.out)) hb); clear HB; have HO245 := n0_; have HB := n1_; clear n0_ n1_; (try clear hb); (try clear hb2); (try clear hk); (try clear hi); (try clear ho0)))
          go_ret
          exact ⟨by first | rfl | (simp [errW_none, errW_some] <;> rfl) | (simp [*, errW_none, errW_some] <;> rfl), by repeat (first | (with_reducible first | exact HB.out | apply below_alloc | apply pw_below_drewN | apply below_drew1) | exact HB.out)⟩
def tapearchivelaw19_PathTexts.l0 : Nat → List ByteArray → Int → Option (Bool)
  | 0, _, _ => none
  | k + 1, x0, x3 => if x3 < (x0.length : Int) then (if 0 ≤ x3 then (if ((rdOf ByteArray.empty x0 x3).size : Int) > 300 then ((tapearchivelaw19_awake.f k).bind fun t248 => (some t248)) else (tapearchivelaw19_PathTexts.l0 k x0 (wrap64 (x3 + 1)))) else (none)) else ((path_Text.f k x0).bind fun t249 => ((tapearchiveref19_Text.f k x0).bind fun t250 => (if t249.toList = t250.toList then (if t249.toList = ([] : List UInt8) then ((tapearchivelaw19_awake.f k).bind fun t251 => (some t251)) else ((path_Parse.f k t249).bind fun bt252 => (if bt252.2 = 0 then ((tapearchivelaw19_same.f k x0 bt252.1).bind fun t256 => (if t256 = true then ((tapearchivelaw19_awake.f k).bind fun t257 => (some t257)) else (some false))) else (some false)))) else (some false))))
def tapearchivelaw19_PathTexts.f (k : Nat) (l0 : List ByteArray) : Option (Bool) := if (l0.length : Int) > 20 then ((tapearchivelaw19_awake.f k).bind fun t246 => (some t246)) else (tapearchivelaw19_PathTexts.l0 k l0 0)
set_option maxHeartbeats 8000000 in
set_option maxRecDepth 100000 in
theorem tapearchivelaw19_PathTexts.calls (k : Nat) (A0 : Option Addr) (c0 : Nat) (l0 : List ByteArray) (r : Bool) (w : World) (hG : Go.Proofs.YtlcgepmacgbciaaDoorX.Glob w) (hr0 : Kd.C Kd.string w A0 l0.length l0) (hc0 : l0.length ≤ c0) (h : tapearchivelaw19_PathTexts.f k l0 = some r) :
    Calls Tryd.prog 4 #[.slice A0 l0.length c0] w fun e w' => e = .returned (.bool r) ∧ Below w.heap.size w w' := by
  have HR0 := Aside0.mk hr0
  have HC0 := Aside0.mk hc0
  clear hr0 hc0
  have HB := Aside0.mk (Below.refl w.heap.size w)
  have H : (if (l0.length : Int) > 20 then ((tapearchivelaw19_awake.f k).bind fun t246 => (some t246)) else (tapearchivelaw19_PathTexts.l0 k l0 0)) = some r := h
  clear h
  by_cases c2 : (l0.length : Int) > 20
  · rw [if_pos c2] at H
    have c2b0 : decide (20 < (l0.length : Int)) = true := decide_eq_true c2
    have c2b1 : decide (20 < l0.length) = true := decide_eq_true (by omega)
    clear c2
    replace H := Option.bind_eq_some_iff.mp H
    obtain ⟨t246, A30, H⟩ := H
    replace H : (some t246) = some r := H
    have A3 := Aside0.mk A30
    clear A30
    obtain rfl := Option.some.inj H
    go_enter Tryd.func4, Tryd.ntmps4
    go_wp2_with (first | ((with_reducible refine gate_callee (f := 12) rfl ?_); refine goesL_ (some 10) rfl rfl Tryd.func12 (by kernel_rfl) rfl #[] rfl (by (try simp only [List.map_toArray, List.map_cons, List.map_nil]); first | done | rfl | (simp only [List.length_drop, List.length_take]; rfl)) ?_; (with_reducible refine (tapearchivelaw19_awake.calls k  t246 _ ?side1 A3.out).mono ?_); (case side1 => exact Go.Proofs.YtlcgepmacgbciaaDoorX.Glob.below hG (by repeat (first | (with_reducible first | exact HB.out | apply below_alloc | apply pw_below_drewN | apply below_drew1) | exact HB.out))); rintro e w4 ⟨rfl, hb⟩; refine ⟨_, rfl, ?_⟩; have n0_ := Aside0.mk (below_step (by repeat (first | (with_reducible first | exact HB.out | apply below_alloc | apply pw_below_drewN | apply below_drew1) | exact HB.out)) hb); clear HB; have HB := n0_; clear n0_; (try clear hb); (try clear hb2); (try clear hk); (try clear hi)))
    go_ret
    exact ⟨by first | rfl | (simp [errW_none, errW_some] <;> rfl) | (simp [*, errW_none, errW_some] <;> rfl), by repeat (first | (with_reducible first | exact HB.out | apply below_alloc | apply pw_below_drewN | apply below_drew1) | exact HB.out)⟩
  · rw [if_neg c2] at H
    have c2b0 : decide (20 < (l0.length : Int)) = false := decide_eq_false c2
    have c2b1 : decide (20 < l0.length) = false := decide_eq_false (by omega)
    clear c2
    have H' := Aside0.mk H
    clear H
    go_enter Tryd.func4, Tryd.ntmps4
    go_wp2
    go_loopg [3] k (fun kq v3 w' => ∃ (x3_1 : Int), v3 = .int .i64 x3_1 ∧ Aside0 (tapearchivelaw19_PathTexts.l0 kq l0 x3_1 = some r) ∧ Aside0 (kq ≤ k) ∧ Aside0 (Below w.heap.size w w'))
    case atStart => exact ⟨(0), (by first | rfl | (simp; done) | (simp [*]; done)), H', ⟨Nat.le_refl _⟩, ⟨by repeat (first | (with_reducible first | exact HB.out | apply below_alloc | apply pw_below_drewN | apply below_drew1) | exact HB.out)⟩⟩
    case round =>
      clear H'
      try clear c1
      try clear c2
      try clear c2b0
      try clear c2b1
      try clear p2
      try clear c4
      obtain ⟨x3_1, rfl, HA, HK1, HB⟩ := hrel
      cases gk with
      | zero => exact absurd HA.out (by simp [tapearchivelaw19_PathTexts.l0])
      | succ k1 =>
        have H := HA.out
        clear HA
        simp only [tapearchivelaw19_PathTexts.l0] at H
        by_cases c5 : x3_1 < (l0.length : Int)
        · rw [if_pos c5] at H
          have c5b0 : decide (x3_1 < (l0.length : Int)) = true := decide_eq_true c5
          clear c5
          by_cases c6 : 0 ≤ x3_1
          · rw [if_pos c6] at H
            have c6b0 : decide (0 ≤ x3_1) = true := decide_eq_true c6
            clear c6
            by_cases c7 : ((rdOf ByteArray.empty l0 x3_1).size : Int) > 300
            · rw [if_pos c7] at H
              have c7b0 : decide (300 < ((rdOf ByteArray.empty l0 x3_1).size : Int)) = true := decide_eq_true c7
              have c7b1 : decide (300 < (rdOf ByteArray.empty l0 x3_1).size) = true := decide_eq_true (by omega)
              clear c7
              replace H := Option.bind_eq_some_iff.mp H
              obtain ⟨t248, A80, H⟩ := H
              replace H : (some t248) = some r := H
              have A8 := Aside0.mk A80
              clear A80
              obtain rfl := Option.some.inj H
              have p247 : 0 ≤ (x3_1 : Int) := of_decide_eq_true (by first | (with_reducible assumption) | assumption)
              have q247 : x3_1 < (l0.length : Int) := of_decide_eq_true (by first | (with_reducible assumption) | assumption)
              obtain ⟨ad247, e247, hx247_0⟩ := Kd.at_string HR0.out x3_1 p247 q247
              cases e247
              replace hx247_0 := (HB.out.cell (World.block_lt_of_cell? w _ hx247_0)).trans hx247_0
              replace p247 := eq_true p247
              replace q247 := eq_true q247
              go_wp2_with (first | ((with_reducible refine gate_callee (f := 12) rfl ?_); refine goesL_ (some 23) rfl rfl Tryd.func12 (by kernel_rfl) rfl #[] rfl (by (try simp only [List.map_toArray, List.map_cons, List.map_nil]); first | done | rfl | (simp only [List.length_drop, List.length_take]; rfl)) ?_; (with_reducible refine (tapearchivelaw19_awake.calls k1  t248 _ ?side1 A8.out).mono ?_); (case side1 => exact Go.Proofs.YtlcgepmacgbciaaDoorX.Glob.below hG (by repeat (first | (with_reducible first | exact HB.out | apply below_alloc | apply pw_below_drewN | apply below_drew1) | exact HB.out))); rintro e w9 ⟨rfl, hb⟩; refine ⟨_, rfl, ?_⟩; have n0_ := Aside0.mk (below_step (by repeat (first | (with_reducible first | exact HB.out | apply below_alloc | apply pw_below_drewN | apply below_drew1) | exact HB.out)) hb); clear HB; have HB := n0_; clear n0_; (try clear hb); (try clear hb2); (try clear hk); (try clear hi)))
              go_ret
              exact ⟨by first | rfl | (simp [errW_none, errW_some] <;> rfl) | (simp [*, errW_none, errW_some] <;> rfl), by repeat (first | (with_reducible first | exact HB.out | apply below_alloc | apply pw_below_drewN | apply below_drew1) | exact HB.out)⟩
            · rw [if_neg c7] at H
              have c7b0 : decide (300 < ((rdOf ByteArray.empty l0 x3_1).size : Int)) = false := decide_eq_false c7
              have c7b1 : decide (300 < (rdOf ByteArray.empty l0 x3_1).size) = false := decide_eq_false (by omega)
              clear c7
              have H' := Aside0.mk H
              clear H
              have p247 : 0 ≤ (x3_1 : Int) := of_decide_eq_true (by first | (with_reducible assumption) | assumption)
              have q247 : x3_1 < (l0.length : Int) := of_decide_eq_true (by first | (with_reducible assumption) | assumption)
              obtain ⟨ad247, e247, hx247_0⟩ := Kd.at_string HR0.out x3_1 p247 q247
              cases e247
              replace hx247_0 := (HB.out.cell (World.block_lt_of_cell? w _ hx247_0)).trans hx247_0
              replace p247 := eq_true p247
              replace q247 := eq_true q247
              go_wp2
              go_roundg k1
              case measure => have := HK1.out; omega
              case rel => exact ⟨(wrap64 (x3_1 + 1)), (by first | rfl | (simp; done) | (simp [*]; done)), H', ⟨by have := HK1.out; omega⟩, ⟨by repeat (first | (with_reducible first | exact HB.out | apply below_alloc | apply pw_below_drewN | apply below_drew1) | exact HB.out)⟩⟩
          · rw [if_neg c6] at H
            exact absurd H (by simp)
        · rw [if_neg c5] at H
          have c5b0 : decide (x3_1 < (l0.length : Int)) = false := decide_eq_false c5
          clear c5
          replace H := Option.bind_eq_some_iff.mp H
          obtain ⟨t249, A100, H⟩ := H
          replace H : ((tapearchiveref19_Text.f k1 l0).bind fun t250 => (if t249.toList = t250.toList then (if t249.toList = ([] : List UInt8) then ((tapearchivelaw19_awake.f k1).bind fun t251 => (some t251)) else ((path_Parse.f k1 t249).bind fun bt252 => (if bt252.2 = 0 then ((tapearchivelaw19_same.f k1 l0 bt252.1).bind fun t256 => (if t256 = true then ((tapearchivelaw19_awake.f k1).bind fun t257 => (some t257)) else (some false))) else (some false)))) else (some false))) = some r := H
          have A10 := Aside0.mk A100
          clear A100
          replace H := Option.bind_eq_some_iff.mp H
          obtain ⟨t250, A110, H⟩ := H
          replace H : (if t249.toList = t250.toList then (if t249.toList = ([] : List UInt8) then ((tapearchivelaw19_awake.f k1).bind fun t251 => (some t251)) else ((path_Parse.f k1 t249).bind fun bt252 => (if bt252.2 = 0 then ((tapearchivelaw19_same.f k1 l0 bt252.1).bind fun t256 => (if t256 = true then ((tapearchivelaw19_awake.f k1).bind fun t257 => (some t257)) else (some false))) else (some false)))) else (some false)) = some r := H
          have A11 := Aside0.mk A110
          clear A110
          by_cases c12 : t249.toList = t250.toList
          · rw [if_pos c12] at H
            have c12b0 : (t249.toList == t250.toList) = true := beq_iff_eq.mpr c12
            have c12b1 : (t249.toList != t250.toList) = false := bne_eq_false_iff_eq.mpr c12
            clear c12
            by_cases c13 : t249.toList = ([] : List UInt8)
            · rw [if_pos c13] at H
              have c13b0 : (t249.toList == ([] : List UInt8)) = true := beq_iff_eq.mpr c13
              have c13b1 : (t249.toList != ([] : List UInt8)) = false := bne_eq_false_iff_eq.mpr c13
              have c13b2 : t249.toList.isEmpty = true := by rw [c13]; rfl
              clear c13
              replace H := Option.bind_eq_some_iff.mp H
              obtain ⟨t251, A140, H⟩ := H
              replace H : (some t251) = some r := H
              have A14 := Aside0.mk A140
              clear A140
              obtain rfl := Option.some.inj H
              go_wp2_with (first | ((with_reducible refine gate_callee (f := 19) rfl ?_); refine goesL_ (some 25) rfl rfl Tryd.func19 (by kernel_rfl) rfl #[.slice A0 l0.length c0] rfl (by (try simp only [List.map_toArray, List.map_cons, List.map_nil]); first | done | rfl | (simp only [List.length_drop, List.length_take]; rfl)) ?_; (with_reducible refine (path_Text.calls k1 _ _ l0 t249 _ ?side3 ?side1 ?side2 A10.out).mono ?_); (case side1 => repeat (first | exact (Kd.C_below HR0.out HB.out) | (with_reducible refine Kd.C_alloc ?_ _) | (with_reducible refine Kd.C_drewN ?_ _) | (with_reducible refine Kd.C_drew ?_))); (case side2 => exact HC0.out); (case side3 => exact Go.Proofs.YtlcgepmacgbciaaDoorX.Glob.below hG (by repeat (first | (with_reducible first | exact HB.out | apply below_alloc | apply pw_below_drewN | apply below_drew1) | exact HB.out))); rintro e w15 ⟨rfl, hb⟩; refine ⟨_, rfl, ?_⟩; have n0_ := Aside0.mk (below_step (by repeat (first | (with_reducible first | exact HB.out | apply below_alloc | apply pw_below_drewN | apply below_drew1) | exact HB.out)) hb); clear HB; have HB := n0_; clear n0_; (try clear hb); (try clear hb2); (try clear hk); (try clear hi)) | ((with_reducible refine gate_callee (f := 20) rfl ?_); refine goesL_ (some 28) rfl rfl Tryd.func20 (by kernel_rfl) rfl #[.slice A0 l0.length c0] rfl (by (try simp only [List.map_toArray, List.map_cons, List.map_nil]); first | done | rfl | (simp only [List.length_drop, List.length_take]; rfl)) ?_; (with_reducible refine (tapearchiveref19_Text.calls k1 _ _ l0 t250 _ ?side1 ?side2 A11.out).mono ?_); (case side1 => repeat (first | exact (Kd.C_below HR0.out HB.out) | (with_reducible refine Kd.C_alloc ?_ _) | (with_reducible refine Kd.C_drewN ?_ _) | (with_reducible refine Kd.C_drew ?_))); (case side2 => exact HC0.out); rintro e w16 ⟨rfl, hb⟩; refine ⟨_, rfl, ?_⟩; have n0_ := Aside0.mk (below_step (by repeat (first | (with_reducible first | exact HB.out | apply below_alloc | apply pw_below_drewN | apply below_drew1) | exact HB.out)) hb); clear HB; have HB := n0_; clear n0_; (try clear hb); (try clear hb2); (try clear hk); (try clear hi)) | ((with_reducible refine gate_callee (f := 12) rfl ?_); refine goesL_ (some 32) rfl rfl Tryd.func12 (by kernel_rfl) rfl #[] rfl (by (try simp only [List.map_toArray, List.map_cons, List.map_nil]); first | done | rfl | (simp only [List.length_drop, List.length_take]; rfl)) ?_; (with_reducible refine (tapearchivelaw19_awake.calls k1  t251 _ ?side1 A14.out).mono ?_); (case side1 => exact Go.Proofs.YtlcgepmacgbciaaDoorX.Glob.below hG (by repeat (first | (with_reducible first | exact HB.out | apply below_alloc | apply pw_below_drewN | apply below_drew1) | exact HB.out))); rintro e w17 ⟨rfl, hb⟩; refine ⟨_, rfl, ?_⟩; have n0_ := Aside0.mk (below_step (by repeat (first | (with_reducible first | exact HB.out | apply below_alloc | apply pw_below_drewN | apply below_drew1) | exact HB.out)) hb); clear HB; have HB := n0_; clear n0_; (try clear hb); (try clear hb2); (try clear hk); (try clear hi)))
              go_ret
              exact ⟨by first | rfl | (simp [errW_none, errW_some] <;> rfl) | (simp [*, errW_none, errW_some] <;> rfl), by repeat (first | (with_reducible first | exact HB.out | apply below_alloc | apply pw_below_drewN | apply below_drew1) | exact HB.out)⟩
            · rw [if_neg c13] at H
              have c13b0 : (t249.toList == ([] : List UInt8)) = false := beq_eq_false_iff_ne.mpr c13
              have c13b1 : (t249.toList != ([] : List UInt8)) = true := bne_iff_ne.mpr c13
              have c13b2 : t249.toList.isEmpty = false := by simpa using c13
              replace H := Option.bind_eq_some_iff.mp H
              obtain ⟨⟨t252, t253⟩, A180, H⟩ := H
              replace H : (if t253 = 0 then ((tapearchivelaw19_same.f k1 l0 t252).bind fun t256 => (if t256 = true then ((tapearchivelaw19_awake.f k1).bind fun t257 => (some t257)) else (some false))) else (some false)) = some r := H
              have A18 := Aside0.mk A180
              clear A180
              by_cases c19 : t253 = 0
              · rw [if_pos c19] at H
                have c19b0 : (t253 == 0) = true := beq_iff_eq.mpr c19
                have c19b1 : (t253 != 0) = false := bne_eq_false_iff_eq.mpr c19
                clear c19
                replace H := Option.bind_eq_some_iff.mp H
                obtain ⟨t256, A200, H⟩ := H
                replace H : (if t256 = true then ((tapearchivelaw19_awake.f k1).bind fun t257 => (some t257)) else (some false)) = some r := H
                have A20 := Aside0.mk A200
                clear A200
                by_cases c21 : t256 = true
                · subst c21
                  have H1 : ((tapearchivelaw19_awake.f k1).bind fun t257 => (some t257)) = some r := by rw [if_pos rfl] at H; exact H
                  clear H
                  have H := H1
                  clear H1
                  replace H := Option.bind_eq_some_iff.mp H
                  obtain ⟨t257, A220, H⟩ := H
                  replace H : (some t257) = some r := H
                  have A22 := Aside0.mk A220
                  clear A220
                  obtain rfl := Option.some.inj H
                  go_wp2_with (first | ((with_reducible refine gate_callee (f := 19) rfl ?_); refine goesL_ (some 25) rfl rfl Tryd.func19 (by kernel_rfl) rfl #[.slice A0 l0.length c0] rfl (by (try simp only [List.map_toArray, List.map_cons, List.map_nil]); first | done | rfl | (simp only [List.length_drop, List.length_take]; rfl)) ?_; (with_reducible refine (path_Text.calls k1 _ _ l0 t249 _ ?side3 ?side1 ?side2 A10.out).mono ?_); (case side1 => repeat (first | exact (Kd.C_below HR0.out HB.out) | (with_reducible refine Kd.C_alloc ?_ _) | (with_reducible refine Kd.C_drewN ?_ _) | (with_reducible refine Kd.C_drew ?_))); (case side2 => exact HC0.out); (case side3 => exact Go.Proofs.YtlcgepmacgbciaaDoorX.Glob.below hG (by repeat (first | (with_reducible first | exact HB.out | apply below_alloc | apply pw_below_drewN | apply below_drew1) | exact HB.out))); rintro e w23 ⟨rfl, hb⟩; refine ⟨_, rfl, ?_⟩; have n0_ := Aside0.mk (below_step (by repeat (first | (with_reducible first | exact HB.out | apply below_alloc | apply pw_below_drewN | apply below_drew1) | exact HB.out)) hb); clear HB; have HB := n0_; clear n0_; (try clear hb); (try clear hb2); (try clear hk); (try clear hi)) | ((with_reducible refine gate_callee (f := 20) rfl ?_); refine goesL_ (some 28) rfl rfl Tryd.func20 (by kernel_rfl) rfl #[.slice A0 l0.length c0] rfl (by (try simp only [List.map_toArray, List.map_cons, List.map_nil]); first | done | rfl | (simp only [List.length_drop, List.length_take]; rfl)) ?_; (with_reducible refine (tapearchiveref19_Text.calls k1 _ _ l0 t250 _ ?side1 ?side2 A11.out).mono ?_); (case side1 => repeat (first | exact (Kd.C_below HR0.out HB.out) | (with_reducible refine Kd.C_alloc ?_ _) | (with_reducible refine Kd.C_drewN ?_ _) | (with_reducible refine Kd.C_drew ?_))); (case side2 => exact HC0.out); rintro e w24 ⟨rfl, hb⟩; refine ⟨_, rfl, ?_⟩; have n0_ := Aside0.mk (below_step (by repeat (first | (with_reducible first | exact HB.out | apply below_alloc | apply pw_below_drewN | apply below_drew1) | exact HB.out)) hb); clear HB; have HB := n0_; clear n0_; (try clear hb); (try clear hb2); (try clear hk); (try clear hi)) | ((with_reducible refine gate_callee (f := 13) rfl ?_); refine goesL_ (some 35) rfl rfl Tryd.func13 (by kernel_rfl) rfl #[.string t249] rfl (by (try simp only [List.map_toArray, List.map_cons, List.map_nil]); first | done | rfl | (simp only [List.length_drop, List.length_take]; rfl)) ?_; (with_reducible refine (path_Parse.calls k1 t249 t252 t253 _ ?side1 A18.out).mono ?_); (case side1 => exact Go.Proofs.YtlcgepmacgbciaaDoorX.Glob.below hG (by repeat (first | (with_reducible first | exact HB.out | apply below_alloc | apply pw_below_drewN | apply below_drew1) | exact HB.out))); rintro e w25 ⟨v254, rfl, ho0, hb⟩; refine ⟨_, rfl, ?_⟩; have n0_ := Aside0.mk (Kd.R_lower ho0 (below_size (by repeat (first | (with_reducible first | exact HB.out | apply below_alloc | apply pw_below_drewN | apply below_drew1) | exact HB.out)))); have n1_ := Aside0.mk (below_step (by repeat (first | (with_reducible first | exact HB.out | apply below_alloc | apply pw_below_drewN | apply below_drew1) | exact HB.out)) hb); clear HB; have HO255 := n0_; have HB := n1_; clear n0_ n1_; (try clear hb); (try clear hb2); (try clear hk); (try clear hi); (try clear ho0); obtain ⟨Ao26, co26, eo26⟩ := Kd.R_slice HO255.out; subst eo26) | (go_at_call 15; (with_reducible refine (tapearchivelaw19_same.calls k1 _ _ l0 _ _ t252 true _ ?side1 ?side2 ?side3 ?side4 A20.out).mono ?_); (case side1 => repeat (first | exact (Kd.C_below HR0.out HB.out) | (with_reducible refine Kd.C_alloc ?_ _) | (with_reducible refine Kd.C_drewN ?_ _) | (with_reducible refine Kd.C_drew ?_))); (case side2 => exact HC0.out); (case side3 => repeat (first | exact (Kd.R_reads' HO255.out).2.2 | (with_reducible refine Kd.C_alloc ?_ _) | (with_reducible refine Kd.C_drewN ?_ _) | (with_reducible refine Kd.C_drew ?_))); (case side4 => exact (Kd.R_reads' HO255.out).2.1); rintro e w' ⟨rfl, ⟨nd, rfl⟩⟩) | (go_at_call 12; (with_reducible refine (tapearchivelaw19_awake.calls k1  t257 _ ?side1 A22.out).mono ?_); (case side1 => exact Go.Proofs.YtlcgepmacgbciaaDoorX.Glob.below hG (by repeat (first | (with_reducible first | exact HB.out | apply below_alloc | apply pw_below_drewN | apply below_drew1) | exact HB.out))); rintro e w27 ⟨rfl, hb⟩; have n0_ := Aside0.mk (Kd.R_below (by (with_reducible repeat (first | apply Kd.R_alloc | apply Kd.R_drewN | apply Kd.R_drew)); exact HO255.out) hb); have n1_ := Aside0.mk (below_step (by repeat (first | (with_reducible first | exact HB.out | apply below_alloc | apply pw_below_drewN | apply below_drew1) | exact HB.out)) hb); clear HO255; clear HB; have HO255 := n0_; have HB := n1_; clear n0_ n1_; (try clear hb); (try clear hb2); (try clear hk); (try clear hi)))
                  go_ret
                  exact ⟨by first | rfl | (simp [errW_none, errW_some] <;> rfl) | (simp [*, errW_none, errW_some] <;> rfl), by repeat (first | (with_reducible first | exact HB.out | apply below_alloc | apply pw_below_drewN | apply below_drew1) | exact HB.out)⟩
                · replace c21 := Bool.eq_false_iff.mpr c21
                  subst c21
                  have H1 : (some false) = some r := by rw [if_neg (show ¬ (false = true) by decide)] at H; exact H
                  clear H
                  have H := H1
                  clear H1
                  obtain rfl := Option.some.inj H
                  go_wp2_with (first | ((with_reducible refine gate_callee (f := 19) rfl ?_); refine goesL_ (some 25) rfl rfl Tryd.func19 (by kernel_rfl) rfl #[.slice A0 l0.length c0] rfl (by (try simp only [List.map_toArray, List.map_cons, List.map_nil]); first | done | rfl | (simp only [List.length_drop, List.length_take]; rfl)) ?_; (with_reducible refine (path_Text.calls k1 _ _ l0 t249 _ ?side3 ?side1 ?side2 A10.out).mono ?_); (case side1 => repeat (first | exact (Kd.C_below HR0.out HB.out) | (with_reducible refine Kd.C_alloc ?_ _) | (with_reducible refine Kd.C_drewN ?_ _) | (with_reducible refine Kd.C_drew ?_))); (case side2 => exact HC0.out); (case side3 => exact Go.Proofs.YtlcgepmacgbciaaDoorX.Glob.below hG (by repeat (first | (with_reducible first | exact HB.out | apply below_alloc | apply pw_below_drewN | apply below_drew1) | exact HB.out))); rintro e w28 ⟨rfl, hb⟩; refine ⟨_, rfl, ?_⟩; have n0_ := Aside0.mk (below_step (by repeat (first | (with_reducible first | exact HB.out | apply below_alloc | apply pw_below_drewN | apply below_drew1) | exact HB.out)) hb); clear HB; have HB := n0_; clear n0_; (try clear hb); (try clear hb2); (try clear hk); (try clear hi)) | ((with_reducible refine gate_callee (f := 20) rfl ?_); refine goesL_ (some 28) rfl rfl Tryd.func20 (by kernel_rfl) rfl #[.slice A0 l0.length c0] rfl (by (try simp only [List.map_toArray, List.map_cons, List.map_nil]); first | done | rfl | (simp only [List.length_drop, List.length_take]; rfl)) ?_; (with_reducible refine (tapearchiveref19_Text.calls k1 _ _ l0 t250 _ ?side1 ?side2 A11.out).mono ?_); (case side1 => repeat (first | exact (Kd.C_below HR0.out HB.out) | (with_reducible refine Kd.C_alloc ?_ _) | (with_reducible refine Kd.C_drewN ?_ _) | (with_reducible refine Kd.C_drew ?_))); (case side2 => exact HC0.out); rintro e w29 ⟨rfl, hb⟩; refine ⟨_, rfl, ?_⟩; have n0_ := Aside0.mk (below_step (by repeat (first | (with_reducible first | exact HB.out | apply below_alloc | apply pw_below_drewN | apply below_drew1) | exact HB.out)) hb); clear HB; have HB := n0_; clear n0_; (try clear hb); (try clear hb2); (try clear hk); (try clear hi)) | ((with_reducible refine gate_callee (f := 13) rfl ?_); refine goesL_ (some 35) rfl rfl Tryd.func13 (by kernel_rfl) rfl #[.string t249] rfl (by (try simp only [List.map_toArray, List.map_cons, List.map_nil]); first | done | rfl | (simp only [List.length_drop, List.length_take]; rfl)) ?_; (with_reducible refine (path_Parse.calls k1 t249 t252 t253 _ ?side1 A18.out).mono ?_); (case side1 => exact Go.Proofs.YtlcgepmacgbciaaDoorX.Glob.below hG (by repeat (first | (with_reducible first | exact HB.out | apply below_alloc | apply pw_below_drewN | apply below_drew1) | exact HB.out))); rintro e w30 ⟨v254, rfl, ho0, hb⟩; refine ⟨_, rfl, ?_⟩; have n0_ := Aside0.mk (Kd.R_lower ho0 (below_size (by repeat (first | (with_reducible first | exact HB.out | apply below_alloc | apply pw_below_drewN | apply below_drew1) | exact HB.out)))); have n1_ := Aside0.mk (below_step (by repeat (first | (with_reducible first | exact HB.out | apply below_alloc | apply pw_below_drewN | apply below_drew1) | exact HB.out)) hb); clear HB; have HO255 := n0_; have HB := n1_; clear n0_ n1_; (try clear hb); (try clear hb2); (try clear hk); (try clear hi); (try clear ho0); obtain ⟨Ao31, co31, eo31⟩ := Kd.R_slice HO255.out; subst eo31) | (go_at_call 15; (with_reducible refine (tapearchivelaw19_same.calls k1 _ _ l0 _ _ t252 false _ ?side1 ?side2 ?side3 ?side4 A20.out).mono ?_); (case side1 => repeat (first | exact (Kd.C_below HR0.out HB.out) | (with_reducible refine Kd.C_alloc ?_ _) | (with_reducible refine Kd.C_drewN ?_ _) | (with_reducible refine Kd.C_drew ?_))); (case side2 => exact HC0.out); (case side3 => repeat (first | exact (Kd.R_reads' HO255.out).2.2 | (with_reducible refine Kd.C_alloc ?_ _) | (with_reducible refine Kd.C_drewN ?_ _) | (with_reducible refine Kd.C_drew ?_))); (case side4 => exact (Kd.R_reads' HO255.out).2.1); rintro e w' ⟨rfl, ⟨nd, rfl⟩⟩))
                  go_ret
                  exact ⟨by first | rfl | (simp [errW_none, errW_some] <;> rfl) | (simp [*, errW_none, errW_some] <;> rfl), by repeat (first | (with_reducible first | exact HB.out | apply below_alloc | apply pw_below_drewN | apply below_drew1) | exact HB.out)⟩
              · rw [if_neg c19] at H
                have c19b0 : (t253 == 0) = false := beq_eq_false_iff_ne.mpr c19
                have c19b1 : (t253 != 0) = true := bne_iff_ne.mpr c19
                obtain rfl := Option.some.inj H
                go_wp2_with (first | ((with_reducible refine gate_callee (f := 19) rfl ?_); refine goesL_ (some 25) rfl rfl Tryd.func19 (by kernel_rfl) rfl #[.slice A0 l0.length c0] rfl (by (try simp only [List.map_toArray, List.map_cons, List.map_nil]); first | done | rfl | (simp only [List.length_drop, List.length_take]; rfl)) ?_; (with_reducible refine (path_Text.calls k1 _ _ l0 t249 _ ?side3 ?side1 ?side2 A10.out).mono ?_); (case side1 => repeat (first | exact (Kd.C_below HR0.out HB.out) | (with_reducible refine Kd.C_alloc ?_ _) | (with_reducible refine Kd.C_drewN ?_ _) | (with_reducible refine Kd.C_drew ?_))); (case side2 => exact HC0.out); (case side3 => exact Go.Proofs.YtlcgepmacgbciaaDoorX.Glob.below hG (by repeat (first | (with_reducible first | exact HB.out | apply below_alloc | apply pw_below_drewN | apply below_drew1) | exact HB.out))); rintro e w32 ⟨rfl, hb⟩; refine ⟨_, rfl, ?_⟩; have n0_ := Aside0.mk (below_step (by repeat (first | (with_reducible first | exact HB.out | apply below_alloc | apply pw_below_drewN | apply below_drew1) | exact HB.out)) hb); clear HB; have HB := n0_; clear n0_; (try clear hb); (try clear hb2); (try clear hk); (try clear hi)) | ((with_reducible refine gate_callee (f := 20) rfl ?_); refine goesL_ (some 28) rfl rfl Tryd.func20 (by kernel_rfl) rfl #[.slice A0 l0.length c0] rfl (by (try simp only [List.map_toArray, List.map_cons, List.map_nil]); first | done | rfl | (simp only [List.length_drop, List.length_take]; rfl)) ?_; (with_reducible refine (tapearchiveref19_Text.calls k1 _ _ l0 t250 _ ?side1 ?side2 A11.out).mono ?_); (case side1 => repeat (first | exact (Kd.C_below HR0.out HB.out) | (with_reducible refine Kd.C_alloc ?_ _) | (with_reducible refine Kd.C_drewN ?_ _) | (with_reducible refine Kd.C_drew ?_))); (case side2 => exact HC0.out); rintro e w33 ⟨rfl, hb⟩; refine ⟨_, rfl, ?_⟩; have n0_ := Aside0.mk (below_step (by repeat (first | (with_reducible first | exact HB.out | apply below_alloc | apply pw_below_drewN | apply below_drew1) | exact HB.out)) hb); clear HB; have HB := n0_; clear n0_; (try clear hb); (try clear hb2); (try clear hk); (try clear hi)) | ((with_reducible refine gate_callee (f := 13) rfl ?_); refine goesL_ (some 35) rfl rfl Tryd.func13 (by kernel_rfl) rfl #[.string t249] rfl (by (try simp only [List.map_toArray, List.map_cons, List.map_nil]); first | done | rfl | (simp only [List.length_drop, List.length_take]; rfl)) ?_; (with_reducible refine (path_Parse.calls k1 t249 t252 t253 _ ?side1 A18.out).mono ?_); (case side1 => exact Go.Proofs.YtlcgepmacgbciaaDoorX.Glob.below hG (by repeat (first | (with_reducible first | exact HB.out | apply below_alloc | apply pw_below_drewN | apply below_drew1) | exact HB.out))); rintro e w34 ⟨v254, rfl, ho0, hb⟩; refine ⟨_, rfl, ?_⟩; have n0_ := Aside0.mk (Kd.R_lower ho0 (below_size (by repeat (first | (with_reducible first | exact HB.out | apply below_alloc | apply pw_below_drewN | apply below_drew1) | exact HB.out)))); have n1_ := Aside0.mk (below_step (by repeat (first | (with_reducible first | exact HB.out | apply below_alloc | apply pw_below_drewN | apply below_drew1) | exact HB.out)) hb); clear HB; have HO255 := n0_; have HB := n1_; clear n0_ n1_; (try clear hb); (try clear hb2); (try clear hk); (try clear hi); (try clear ho0)))
                go_ret
                exact ⟨by first | rfl | (simp [errW_none, errW_some] <;> rfl) | (simp [*, errW_none, errW_some] <;> rfl), by repeat (first | (with_reducible first | exact HB.out | apply below_alloc | apply pw_below_drewN | apply below_drew1) | exact HB.out)⟩
          · rw [if_neg c12] at H
            have c12b0 : (t249.toList == t250.toList) = false := beq_eq_false_iff_ne.mpr c12
            have c12b1 : (t249.toList != t250.toList) = true := bne_iff_ne.mpr c12
            obtain rfl := Option.some.inj H
            go_wp2_with (first | ((with_reducible refine gate_callee (f := 19) rfl ?_); refine goesL_ (some 25) rfl rfl Tryd.func19 (by kernel_rfl) rfl #[.slice A0 l0.length c0] rfl (by (try simp only [List.map_toArray, List.map_cons, List.map_nil]); first | done | rfl | (simp only [List.length_drop, List.length_take]; rfl)) ?_; (with_reducible refine (path_Text.calls k1 _ _ l0 t249 _ ?side3 ?side1 ?side2 A10.out).mono ?_); (case side1 => repeat (first | exact (Kd.C_below HR0.out HB.out) | (with_reducible refine Kd.C_alloc ?_ _) | (with_reducible refine Kd.C_drewN ?_ _) | (with_reducible refine Kd.C_drew ?_))); (case side2 => exact HC0.out); (case side3 => exact Go.Proofs.YtlcgepmacgbciaaDoorX.Glob.below hG (by repeat (first | (with_reducible first | exact HB.out | apply below_alloc | apply pw_below_drewN | apply below_drew1) | exact HB.out))); rintro e w35 ⟨rfl, hb⟩; refine ⟨_, rfl, ?_⟩; have n0_ := Aside0.mk (below_step (by repeat (first | (with_reducible first | exact HB.out | apply below_alloc | apply pw_below_drewN | apply below_drew1) | exact HB.out)) hb); clear HB; have HB := n0_; clear n0_; (try clear hb); (try clear hb2); (try clear hk); (try clear hi)) | ((with_reducible refine gate_callee (f := 20) rfl ?_); refine goesL_ (some 28) rfl rfl Tryd.func20 (by kernel_rfl) rfl #[.slice A0 l0.length c0] rfl (by (try simp only [List.map_toArray, List.map_cons, List.map_nil]); first | done | rfl | (simp only [List.length_drop, List.length_take]; rfl)) ?_; (with_reducible refine (tapearchiveref19_Text.calls k1 _ _ l0 t250 _ ?side1 ?side2 A11.out).mono ?_); (case side1 => repeat (first | exact (Kd.C_below HR0.out HB.out) | (with_reducible refine Kd.C_alloc ?_ _) | (with_reducible refine Kd.C_drewN ?_ _) | (with_reducible refine Kd.C_drew ?_))); (case side2 => exact HC0.out); rintro e w36 ⟨rfl, hb⟩; refine ⟨_, rfl, ?_⟩; have n0_ := Aside0.mk (below_step (by repeat (first | (with_reducible first | exact HB.out | apply below_alloc | apply pw_below_drewN | apply below_drew1) | exact HB.out)) hb); clear HB; have HB := n0_; clear n0_; (try clear hb); (try clear hb2); (try clear hk); (try clear hi)))
            go_ret
            exact ⟨by first | rfl | (simp [errW_none, errW_some] <;> rfl) | (simp [*, errW_none, errW_some] <;> rfl), by repeat (first | (with_reducible first | exact HB.out | apply below_alloc | apply pw_below_drewN | apply below_drew1) | exact HB.out)⟩
end Go.Proofs.YtlcgepmacgbciaaDoor.Q
end
section
namespace Go.Proofs.YtlcgepmacgbciaaDoor.SPathTexts
open Go.RowKit Go.Proofs.YtlcgepmacgbciaaDoor.Q Go.Proofs.YtlcgepmacgbciaaDoorW.PrintWords Go.Proofs.YtlcgepmacgbciaaDoorW.PrintLast Go.Proofs.YtlcgepmacgbciaaDoorW.Opens Go.Proofs.YtlcgepmacgbciaaDoorW
set_option linter.unusedVariables false
def Pure : Prop := ∀ (x0 : List ByteArray), (x0.length ≤ maxLen ∧ x0.length * 16 ≤ 140737488351232 ∧ ∀ y ∈ x0, y.size ≤ 140737488351232) → ∃ k, tapearchivelaw19_PathTexts.f k x0 = some true
end Go.Proofs.YtlcgepmacgbciaaDoor.SPathTexts
end
section
namespace Go.Proofs.YtlcgepmacgbciaaDoor.Pth
variable {α β : Type} (st : α → Bool) (mt : α → β → Bool)
def glob : List α → List β → Bool
  | [], l => l.isEmpty
  | c :: p, l => if st c = true then (List.range (l.length + 1)).any fun i => glob p (l.drop i) else match l with
    | [] => false
    | x :: r => mt c x && glob p r
end Go.Proofs.YtlcgepmacgbciaaDoor.Pth
end
section
namespace Go.Proofs.YtlcgepmacgbciaaDoor.Pth
open Go.RowKit Go.Proofs.YtlcgepmacgbciaaDoorW.PrintWords Go.Proofs.YtlcgepmacgbciaaDoorW.EvMore
abbrev B := List UInt8
def mk (l : B) : ByteArray := ⟨l.toArray⟩
theorem bs_of_mk (l : B) : bs (mk l) = l := rfl
theorem mk_of_bs (s : ByteArray) : mk (bs s) = s := bs_inj rfl
theorem mk_size (l : B) : (mk l).size = l.length := rfl
theorem mk_toList (l : B) : (mk l).toList = l := toList_bs _
def pmtN (pat : Bool) (n : Nat) : Bool :=
  (decide (97 ≤ n) && decide (n ≤ 122)) || (decide (65 ≤ n) && decide (n ≤ 90)) || (decide (48 ≤ n) && decide (n ≤ 57)) || decide (n = 46) || decide (n = 95) || decide (n = 45) || (pat && (decide (n = 42) || decide (n = 63)))
def pmt (pat : Bool) (c : UInt8) : Bool := pmtN pat c.toNat
def nm (pat : Bool) (l : B) : Bool := !(l == []) && !(l == [46]) && !(l == [46, 46]) && l.all (pmt pat)
def pieces : B → List B
  | [] => [[]]
  | c :: r => if c = 47 then [] :: pieces r else match pieces r with
    | [] => [[c]]
    | p :: ps => (c :: p) :: ps
def parseS (pat : Bool) (l : B) : List B × Int :=
  if 200 < l.length then ([], 6)
  else match l with
    | [] => ([], 1)
    | c :: r => if c = 47 then
        if (pieces r).all (nm pat) = true then (if (pieces r).any (fun x => decide (24 < x.length)) = true ∨ 8 < (pieces r).length then ([], 6) else (pieces r, 0)) else ([], 1)
      else ([], 1)
def outS (p : List B × Int) : List ByteArray × Int := (p.1.map mk, p.2)
def cat (l : List B) : B := (l.map fun x => 47 :: x).flatten
theorem pieces_ne : ∀ l : B, pieces l ≠ []
  | [] => by simp [pieces]
  | c :: r => by
    unfold pieces
    split
    · simp
    · split <;> simp
theorem pieces_no : ∀ {l : B}, 47 ∉ l → pieces l = [l]
  | [], _ => rfl
  | c :: r, h => by
    have h1 : c ≠ 47 := fun e => h (by simp [e])
    have h2 := pieces_no (l := r) fun e => h (by simp [e])
    unfold pieces
    rw [if_neg h1, h2]
theorem pieces_cut : ∀ {a b : B}, 47 ∉ a → pieces (a ++ 47 :: b) = a :: pieces b
  | [], b, _ => by simp [pieces]
  | c :: r, b, h => by
    have h1 : c ≠ 47 := fun e => h (by simp [e])
    have h2 := pieces_cut (a := r) (b := b) fun e => h (by simp [e])
    rw [List.cons_append]
    conv => lhs; unfold pieces
    rw [if_neg h1, h2]
theorem pieces_pre : ∀ {a b : B}, 47 ∉ a → ∃ p ps, pieces b = p :: ps ∧ pieces (a ++ b) = (a ++ p) :: ps
  | [], b, _ => by
    cases h : pieces b with
    | nil => exact absurd h (pieces_ne b)
    | cons p ps => exact ⟨p, ps, rfl, by simpa using h⟩
  | c :: r, b, h => by
    have h1 : c ≠ 47 := fun e => h (by simp [e])
    obtain ⟨p, ps, h2, h3⟩ := pieces_pre (a := r) (b := b) fun e => h (by simp [e])
    refine ⟨p, ps, h2, ?_⟩
    rw [List.cons_append]
    conv => lhs; unfold pieces
    rw [if_neg h1, h3]
    rfl
theorem cut_cases (l : B) : 47 ∉ l ∨ ∃ a b, l = a ++ 47 :: b ∧ 47 ∉ a := by
  induction l with
  | nil => left; simp
  | cons c r ih =>
    by_cases hc : c = 47
    · right; exact ⟨[], r, by simp [hc], by simp⟩
    · rcases ih with h | ⟨a, b, h1, h2⟩
      · left; simp [h]; exact fun e => hc e.symm
      · right; exact ⟨c :: a, b, by simp [h1], by simp [h2]; exact fun e => hc e.symm⟩
theorem pieces_len : ∀ l : B, (pieces l).length ≤ l.length + 1
  | [] => by simp [pieces]
  | c :: r => by
    have ih := pieces_len r
    unfold pieces
    split
    · simp; omega
    · split
      · simp
      · rename_i p ps h; rw [h] at ih; simp at ih ⊢; omega
theorem cat_app (l m : List B) : cat (l ++ m) = cat l ++ cat m := by simp [cat]
theorem cat_len_le (l m : List B) : (cat l).length ≤ (cat (l ++ m)).length := by rw [cat_app, List.length_append]; omega
theorem pieces_count : ∀ (l : List B), l ≠ [] → ∃ r, cat l = 47 :: r ∧ l.length ≤ (pieces r).length ∧ ((pieces r).length = l.length → pieces r = l)
  | [], h => absurd rfl h
  | [p], _ => by
    refine ⟨p, by simp [cat], ?_, ?_⟩
    · have := pieces_ne p
      cases h : pieces p with
      | nil => exact absurd h this
      | cons => simp
    · intro h
      rcases cut_cases p with hp | ⟨a, b, h1, h2⟩
      · exact pieces_no hp
      · subst h1
        rw [pieces_cut h2] at h
        have := pieces_ne b
        cases h3 : pieces b with
        | nil => exact absurd h3 this
        | cons x y => rw [h3] at h; simp at h
  | p :: q :: l, _ => by
    obtain ⟨r, h1, h2, h3⟩ := pieces_count (q :: l) (by simp)
    refine ⟨p ++ 47 :: r, by rw [← h1]; simp [cat], ?_⟩
    have key : ∀ (n : Nat) (p : B), p.length ≤ n → (q :: l).length + 1 ≤ (pieces (p ++ 47 :: r)).length ∧ ((pieces (p ++ 47 :: r)).length = (q :: l).length + 1 → pieces (p ++ 47 :: r) = p :: q :: l) := by
      intro n
      induction n with
      | zero =>
        intro p hp
        obtain rfl : p = [] := List.length_eq_zero_iff.1 (by omega)
        rw [pieces_cut (by simp)]
        exact ⟨by simp only [List.length_cons] at h2 ⊢; omega, fun h => by rw [h3 (by simpa using h)]⟩
      | succ n ih =>
        intro p hp
        rcases cut_cases p with hp2 | ⟨a, b, rfl, hb⟩
        · rw [pieces_cut hp2]
          exact ⟨by simp only [List.length_cons] at h2 ⊢; omega, fun h => by rw [h3 (by simpa using h)]⟩
        · rw [List.append_assoc, List.cons_append, pieces_cut hb]
          have := (ih b (by simp at hp; omega)).1
          exact ⟨by simp only [List.length_cons] at this ⊢; omega, fun h => by simp only [List.length_cons] at this h; omega⟩
    exact key p.length p (Nat.le_refl _)
theorem parseS_ok {pat : Bool} {l : B} (h : (parseS pat l).2 = 0) : ∃ r, l = 47 :: r ∧ l.length ≤ 200 ∧ (parseS pat l).1 = pieces r ∧ (pieces r).all (nm pat) = true ∧ (∀ x ∈ pieces r, x.length ≤ 24) ∧ (pieces r).length ≤ 8 := by
  unfold parseS at h ⊢
  split at h
  · simp at h
  rename_i h200
  rw [if_neg h200]
  split at h
  · simp at h
  · rename_i c r
    split at h
    · rename_i hc
      split at h
      · rename_i ha
        split at h
        · simp at h
        · rename_i hb
          rw [not_or] at hb
          refine ⟨r, by rw [hc], by omega, ?_, ha, ?_, by omega⟩
          · simp only [if_pos hc, if_pos ha]
            rw [if_neg (by rw [not_or]; exact hb)]
          · intro x hx
            have := hb.1
            simp at this
            exact this x hx
      · simp at h
    · simp at h
theorem pmt_mono {c : UInt8} (h : pmt false c = true) : pmt true c = true := by
  unfold pmt pmtN at h ⊢
  simp only [Bool.false_and, Bool.or_false] at h
  rw [h]; simp
def textS (l : List B) : B := if parseS false (cat l) = (l, 0) then cat l else []
end Go.Proofs.YtlcgepmacgbciaaDoor.Pth
end
section
namespace Go.Proofs.YtlcgepmacgbciaaDoor.Q
open Go.RowKit Go.Proofs.YtlcgepmacgbciaaDoorW.PrintWords Go.Proofs.YtlcgepmacgbciaaDoorW.PrintLast Go.Proofs.YtlcgepmacgbciaaDoorW.PrintMore
attribute [local go_sem] max2_int min2_int max_two min_two max_three min_three max_four min_four
attribute [local go_sem ↓] isSome_setCell
attribute [local go_sem] string_gtr
set_option linter.unusedVariables false
set_option linter.unusedSimpArgs false
end Go.Proofs.YtlcgepmacgbciaaDoor.Q
end
section
namespace Go.Proofs.YtlcgepmacgbciaaDoor.Q
open Go.RowKit Go.Proofs.YtlcgepmacgbciaaDoorW.PrintWords Go.Proofs.YtlcgepmacgbciaaDoorW.PrintLast Go.Proofs.YtlcgepmacgbciaaDoorW.PrintMore
attribute [local go_sem] max2_int min2_int max_two min_two max_three min_three max_four min_four
attribute [local go_sem ↓] isSome_setCell
attribute [local go_sem] string_gtr
set_option linter.unusedVariables false
set_option linter.unusedSimpArgs false
end Go.Proofs.YtlcgepmacgbciaaDoor.Q
end
section
namespace Go.Proofs.YtlcgepmacgbciaaDoor.Q
open Go.RowKit Go.Proofs.YtlcgepmacgbciaaDoorW.PrintWords Go.Proofs.YtlcgepmacgbciaaDoorW.PrintLast Go.Proofs.YtlcgepmacgbciaaDoorW.PrintMore
attribute [local go_sem] max2_int min2_int max_two min_two max_three min_three max_four min_four
attribute [local go_sem ↓] isSome_setCell
attribute [local go_sem] string_gtr
set_option linter.unusedVariables false
set_option linter.unusedSimpArgs false
end Go.Proofs.YtlcgepmacgbciaaDoor.Q
end
section
namespace Go.Proofs.YtlcgepmacgbciaaDoor.Q
open Go.RowKit Go.Proofs.YtlcgepmacgbciaaDoorW.PrintWords Go.Proofs.YtlcgepmacgbciaaDoorW.PrintLast Go.Proofs.YtlcgepmacgbciaaDoorW.PrintMore
attribute [local go_sem] max2_int min2_int max_two min_two max_three min_three max_four min_four
attribute [local go_sem ↓] isSome_setCell
attribute [local go_sem] string_gtr
set_option linter.unusedVariables false
set_option linter.unusedSimpArgs false
end Go.Proofs.YtlcgepmacgbciaaDoor.Q
end
section
namespace Go.Proofs.YtlcgepmacgbciaaDoor.Q
open Go.RowKit Go.Proofs.YtlcgepmacgbciaaDoorW.PrintWords Go.Proofs.YtlcgepmacgbciaaDoorW.PrintLast Go.Proofs.YtlcgepmacgbciaaDoorW.PrintMore
attribute [local go_sem] max2_int min2_int max_two min_two max_three min_three max_four min_four
attribute [local go_sem ↓] isSome_setCell
attribute [local go_sem] string_gtr
set_option linter.unusedVariables false
set_option linter.unusedSimpArgs false
end Go.Proofs.YtlcgepmacgbciaaDoor.Q
end
section
namespace Go.Proofs.YtlcgepmacgbciaaDoor.Q
open Go.RowKit Go.Proofs.YtlcgepmacgbciaaDoorW.PrintWords Go.Proofs.YtlcgepmacgbciaaDoorW.PrintLast Go.Proofs.YtlcgepmacgbciaaDoorW.PrintMore
attribute [local go_sem] max2_int min2_int max_two min_two max_three min_three max_four min_four
attribute [local go_sem ↓] isSome_setCell
attribute [local go_sem] string_gtr
set_option linter.unusedVariables false
set_option linter.unusedSimpArgs false
end Go.Proofs.YtlcgepmacgbciaaDoor.Q
end
section
namespace Go.Proofs.YtlcgepmacgbciaaDoor.Pth
open Go.RowKit Go.Proofs.YtlcgepmacgbciaaDoor.Q Go.Proofs.YtlcgepmacgbciaaDoorW.PrintWords Go.Proofs.YtlcgepmacgbciaaDoorW.PrintMore Go.Proofs.YtlcgepmacgbciaaDoorW.EvMore
theorem permitted_ev (c : UInt8) (pat : Bool) : Ev (fun k => path_permitted.f k (c.toNat : Int) pat) (pmt pat c) := by
  refine Ev.of (fun k => path_permitted.mono _ _ k) (k := 3) ?_
  have key : ∀ n : Fin 256, ∀ pat : Bool, path_permitted.f 3 (n.val : Int) pat = some (pmtN pat n.val) := by decide +kernel
  exact key ⟨c.toNat, c.toNat_lt⟩ pat
theorem plain_f (c : UInt8) : tapearchiveref19_plain.f (c.toNat : Int) = some (pmt false c) := by
  have key : ∀ n : Fin 256, tapearchiveref19_plain.f (n.val : Int) = some (pmtN false n.val) := by decide +kernel
  exact key ⟨c.toNat, c.toNat_lt⟩
theorem name_loop (s : ByteArray) (pat : Bool) (hs : s.size ≤ 4611686018427387904) : ∀ (d i : Nat), i + d = s.size → Ev (fun k => path_name.l0 k s pat (s.size : Int) (i : Int)) (((bs s).drop i).all (pmt pat)) := by
  intro d
  induction d with
  | zero =>
    intro i hi
    refine Ev.next (fun k => by rw [path_name.l0]) ?_
    refine Ev.neg (by omega) ?_
    rw [List.drop_of_length_le (by rw [bs_length]; omega)]
    exact Ev.done fun _ => rfl
  | succ d ih =>
    intro i hi
    have hl : i < (bs s).length := by rw [bs_length]; omega
    refine Ev.next (fun k => by rw [path_name.l0]) ?_
    refine Ev.pos (by omega) (Ev.pos (by omega) (Ev.pos (by omega) ?_))
    rw [bt_get s i _ (List.getElem?_eq_getElem hl), List.drop_eq_getElem_cons hl, List.all_cons]
    refine Ev.both (permitted_ev _ pat) ?_
    have ih := ih (i + 1) (by omega)
    cases h : pmt pat (bs s)[i] with
    | true =>
      refine Ev.pos rfl ?_
      rw [wrap_in (by omega) (by omega), show (i : Int) + 1 = ((i + 1 : Nat) : Int) from rfl, Bool.true_and]
      exact ih
    | false => exact Ev.neg (by simp) (Ev.done fun _ => rfl)
theorem name_ev (s : ByteArray) (pat : Bool) (hs : s.size ≤ 4611686018427387904) : Ev (fun k => path_name.f k s pat) (nm pat (bs s)) := by
  have hall := name_loop s pat hs s.size 0 (by omega)
  rw [List.drop_zero] at hall
  unfold path_name.f nm
  rw [toList_bs]
  have bad : Ev (fun k => path_name.j0 k s pat true) false := Ev.next (fun k => by rw [path_name.j0]) (Ev.pos rfl (Ev.done fun _ => rfl))
  by_cases h0 : bs s = []
  · refine Ev.pos h0 ?_
    rw [h0]
    exact bad
  refine Ev.neg h0 ?_
  by_cases h1 : bs s = [46]
  · refine Ev.pos h1 ?_
    rw [h1]
    exact bad
  refine Ev.neg h1 ?_
  rw [beq_false_of_ne h0, beq_false_of_ne h1]
  cases h2 : bs s == [46, 46] with
  | true => exact bad
  | false => exact Ev.next (fun k => by rw [path_name.j0]) (Ev.neg (by simp) (by simpa using hall))
theorem occ_one (c : UInt8) (l : B) (h : c ∉ l) : Lib.indexByte l c = -1 := by
  have hg := Lib.indexByte_ge l c
  by_cases h1 : Lib.indexByte l c = -1
  · exact h1
  · obtain ⟨o, ho⟩ : ∃ o : Nat, Lib.indexByte l c = o := ⟨(Lib.indexByte l c).toNat, by omega⟩
    exact absurd (List.mem_of_getElem? (Lib.indexByte_some ho).1) h
theorem cut_none {l : B} (h : 47 ∉ l) : Lib.cut l [47] = (l, [], false) := by
  unfold Lib.cut
  rw [Lib.index_one, occ_one 47 l h]
  rfl
theorem cut_some {a b : B} (h : 47 ∉ a) : Lib.cut (a ++ 47 :: b) [47] = (a, b, true) := by
  have e : Lib.indexByte (a ++ 47 :: b) 47 = (a.length : Int) := by
    cases ho : Lib.indexByte (a ++ 47 :: b) 47 with
    | ofNat o =>
      obtain ⟨h1, h2⟩ := Lib.indexByte_some (o := o) ho
      by_cases h3 : o < a.length
      · rw [List.getElem?_append_left h3] at h1
        exact absurd (List.mem_of_getElem? h1) h
      · by_cases h4 : a.length < o
        · exact absurd (by simp) (h2 a.length h4)
        · show (o : Int) = _
          omega
    | negSucc n =>
      have hg := Lib.indexByte_ge (a ++ 47 :: b) 47
      have e : Lib.indexByte (a ++ 47 :: b) 47 = -1 := by rw [ho] at hg ⊢; omega
      exact absurd (by simp) (Lib.indexByte_none e a.length)
  unfold Lib.cut
  rw [Lib.index_one, e, if_pos (by omega)]
  simp
def finS (pat : Bool) (l : B) (names : List ByteArray) (long : Bool) : List ByteArray × Int :=
  if (pieces l).all (nm pat) = true then (if long = true ∨ (pieces l).any (fun x => decide (24 < x.length)) = true ∨ 8 < names.length + (pieces l).length then ([], 6) else (names ++ (pieces l).map mk, 0)) else ([], 1)
theorem parse_loop (pat : Bool) : ∀ (n : Nat) (s : ByteArray) (names : List ByteArray) (long : Bool), s.size ≤ n → s.size + names.length ≤ 2000000000 → Ev (fun k => path_parse.l0 k pat s names long) (finS pat (bs s) names long) := by
  intro n
  induction n with
  | zero =>
    intro s names long h0 hs
    refine Ev.next (fun k => by rw [path_parse.l0]) ?_
    have hb : bs s = [] := List.length_eq_zero_iff.1 (by rw [bs_length]; omega)
    have hc : strings_Cut.f s ⟨#[47]⟩ = some (mk [], mk [], false) := by
      unfold strings_Cut.f
      rw [if_pos (by omega), show s.data.toList = bs s from rfl, hb]
      rfl
    refine Ev.bindS hc (Ev.both (name_ev (mk []) pat (by rw [mk_size]; simp)) (Ev.neg (by simp [bs_of_mk, nm]) (Ev.done fun _ => ?_)))
    unfold finS
    rw [if_neg]
    rw [hb]
    simp [pieces, nm]
  | succ n ih =>
    intro s names long h0 hs
    refine Ev.next (fun k => by rw [path_parse.l0]) ?_
    have fin1 : ∀ (a : B) (more : Bool) (b : B), bs s = (if more = true then a ++ 47 :: b else a) → strings_Cut.f s ⟨#[47]⟩ = some (mk a, mk b, more) → 47 ∉ a → Ev (fun k => (strings_Cut.f s ⟨#[47]⟩).bind fun bt104 => ((path_name.f k bt104.1 pat).bind fun t107 => (if t107 = true then (if (bt104.1.size : Int) > 24 then (if names.length < 8796093022208 then (if bt104.2.2 = true then (path_parse.l0 k pat bt104.2.1 (names ++ [bt104.1]) true) else (some (([] : List ByteArray), (6 : Int)))) else (none)) else (if names.length < 8796093022208 then ((some (names ++ [bt104.1] : List ByteArray)).bind fun y111 => (if bt104.2.2 = true then (path_parse.l0 k pat bt104.2.1 y111 long) else (if long = true then (some (([] : List ByteArray), (6 : Int))) else (if (y111.length : Int) > 8 then (some (([] : List ByteArray), (6 : Int))) else (some (y111, (0 : Int))))))) else (none))) else (some (([] : List ByteArray), (1 : Int)))))) (finS pat (bs s) names long) := by
      intro a more b hbs hcut ha
      have hlen : (bs s).length = s.size := bs_length s
      have hal : a.length ≤ s.size := by
        rw [hbs] at hlen
        split at hlen
        · simp at hlen; omega
        · omega
      refine Ev.bindS hcut (Ev.both (name_ev (mk a) pat (by rw [mk_size]; omega)) ?_)
      rw [bs_of_mk]
      have hP : pieces (bs s) = if more = true then a :: pieces b else [a] := by
        rw [hbs]
        split
        · exact pieces_cut ha
        · exact pieces_no ha
      have hne := List.length_pos_iff.2 (pieces_ne b)
      unfold finS
      rw [hP]
      by_cases hn : nm pat a = true
      · refine Ev.pos hn ?_
        have rest : ∀ L : Bool, more = true → Ev (fun k => path_parse.l0 k pat (mk b) (names ++ [mk a]) L) (if (pieces b).all (nm pat) = true then (if L = true ∨ (pieces b).any (fun x => decide (24 < x.length)) = true ∨ 8 < names.length + 1 + (pieces b).length then ([], 6) else (names ++ (a :: pieces b).map mk, 0)) else ([], 1)) := by
          intro L hm
          have hbl : a.length + (b.length + 1) = s.size := by
            rw [hbs, if_pos hm] at hlen
            simpa using hlen
          have := ih (mk b) (names ++ [mk a]) L (by rw [mk_size]; omega) (by rw [mk_size, List.length_append, List.length_singleton]; omega)
          unfold finS at this
          rw [bs_of_mk, List.length_append, List.length_singleton, List.append_assoc, List.singleton_append] at this
          exact this
        by_cases h24 : 24 < a.length
        · refine Ev.pos (by rw [mk_size]; omega) (Ev.pos (by omega) ?_)
          cases hm : more with
          | true =>
            refine Ev.pos rfl ?_
            have := rest true hm
            simp only [true_or, if_true] at this ⊢
            simp only [List.all_cons, hn, Bool.true_and, List.any_cons, h24, decide_true, Bool.true_or, true_or, or_true, if_true]
            exact this
          | false =>
            refine Ev.neg (by simp) (Ev.done fun _ => ?_)
            simp [hn, h24]
        · refine Ev.neg (by rw [mk_size]; omega) (Ev.pos (by omega) (Ev.bindS rfl ?_))
          cases hm : more with
          | true =>
            refine Ev.pos rfl ?_
            have := rest long hm
            simp only [if_true, List.all_cons, hn, Bool.true_and, List.any_cons, h24, decide_false, Bool.false_or, List.length_cons] at this ⊢
            rw [show names.length + ((pieces b).length + 1) = names.length + 1 + (pieces b).length from by omega]
            exact this
          | false =>
            refine Ev.neg (by simp) ?_
            simp only [Bool.false_eq_true, if_false, List.all_cons, List.all_nil, Bool.and_true, hn, if_true, List.any_cons, List.any_nil, Bool.or_false, h24, decide_false, false_or, List.length_singleton, List.map_cons, List.map_nil]
            by_cases hL : long = true
            · refine Ev.pos hL (Ev.done fun _ => ?_)
              rw [if_pos (Or.inl hL)]
            · refine Ev.neg hL ?_
              by_cases h8 : 8 < names.length + 1
              · refine Ev.pos (by rw [List.length_append, List.length_singleton]; omega) (Ev.done fun _ => ?_)
                rw [if_pos (Or.inr h8)]
              · refine Ev.neg (by rw [List.length_append, List.length_singleton]; omega) (Ev.done fun _ => ?_)
                rw [if_neg (by rw [not_or]; exact ⟨hL, h8⟩)]
      · refine Ev.neg hn (Ev.done fun _ => ?_)
        rw [if_neg]
        cases more <;> simp [hn]
    rcases cut_cases (bs s) with h | ⟨a, b, h, ha⟩
    · refine fin1 (bs s) false [] (by simp) ?_ h
      unfold strings_Cut.f
      rw [if_pos (by omega), show s.data.toList = bs s from rfl, show (⟨#[47]⟩ : ByteArray).data.toList = [47] from rfl, cut_none h]
      rfl
    · refine fin1 a true b (by simpa using h) ?_ ha
      unfold strings_Cut.f
      rw [if_pos (by omega), show s.data.toList = bs s from rfl, show (⟨#[47]⟩ : ByteArray).data.toList = [47] from rfl, h, cut_some ha]
      rfl
theorem parse_ev (s : ByteArray) (pat : Bool) : Ev (fun k => path_parse.f k s pat) (outS (parseS pat (bs s))) := by
  unfold path_parse.f parseS
  rw [bs_length]
  by_cases h : 200 < s.size
  · refine Ev.pos (by omega) (Ev.done fun _ => ?_)
    rw [if_pos h]
    rfl
  refine Ev.neg (by omega) ?_
  rw [if_neg h]
  have hp : strings_CutPrefix.f s ⟨#[47]⟩ = some (match bs s with | [] => (mk [], false) | c :: r => if c = 47 then (mk r, true) else (mk (c :: r), false)) := by
    unfold strings_CutPrefix.f Lib.trimPrefix Lib.hasPrefix
    rw [show s.data.toList = bs s from rfl, show (⟨#[47]⟩ : ByteArray).data.toList = [47] from rfl]
    cases bs s with
    | nil => rfl
    | cons c r =>
      by_cases hc : c = 47
      · subst hc; simp [mk]
      · have hc2 : ((47 : UInt8) == c) = false := beq_false_of_ne fun e => hc e.symm
        simp [hc, mk, List.isPrefixOf]
        exact fun e => hc e.symm
  refine Ev.bindS hp ?_
  cases hs : bs s with
  | nil => exact Ev.neg (by simp) (Ev.done fun _ => rfl)
  | cons c r =>
    have hl : r.length + 1 = s.size := by rw [← bs_length s, hs]; rfl
    by_cases hc : c = 47
    · simp only [if_pos hc]
      refine Ev.pos trivial ?_
      have := parse_loop pat r.length (mk r) [] false (by rw [mk_size]; omega) (by rw [mk_size]; simp; omega)
      unfold finS at this
      rw [bs_of_mk] at this
      simp only [Bool.false_eq_true, false_or, List.length_nil, Nat.zero_add, List.nil_append] at this
      refine Ev.congr (fun k => rfl) ?_
      have e : outS (if (pieces r).all (nm pat) = true then (if (pieces r).any (fun x => decide (24 < x.length)) = true ∨ 8 < (pieces r).length then ([], 6) else (pieces r, 0)) else ([], 1)) = (if (pieces r).all (nm pat) = true then (if (pieces r).any (fun x => decide (24 < x.length)) = true ∨ 8 < (pieces r).length then ([], 6) else ((pieces r).map mk, 0)) else ([], 1)) := by
        split
        · split <;> rfl
        · rfl
      rw [e]
      exact this
    · simp only [if_neg hc]
      exact Ev.neg (by simp) (Ev.done fun _ => rfl)
theorem Parse_ev (s : ByteArray) : Ev (fun k => path_Parse.f k s) (outS (parseS false (bs s))) := by
  unfold path_Parse.f
  exact Ev.both (parse_ev s false) (Ev.done fun _ => rfl)
theorem bad_mid {pat : Bool} {cur : B} {c : UInt8} {r : B} (h : 47 ∉ cur) (hc : c ≠ 47) (hp : pmt pat c = false) : ¬ (pieces (cur ++ c :: r)).all (nm pat) = true := by
  have h2 : 47 ∉ cur ++ [c] := by simp [h]; exact fun e => hc e.symm
  obtain ⟨p, ps, h3, h4⟩ := pieces_pre (a := cur ++ [c]) (b := r) h2
  rw [List.append_assoc, List.singleton_append] at h4
  rw [h4, List.all_cons]
  intro h5
  rw [Bool.and_eq_true] at h5
  have h6 := h5.1
  unfold nm at h6
  rw [Bool.and_eq_true] at h6
  have := List.all_eq_true.1 h6.2 c (by simp)
  rw [hp] at this
  cases this
def refS (pat : Bool) (out : List ByteArray) (l : B) : List ByteArray × Bool := if (pieces l).all (nm pat) = true then (out ++ (pieces l).map mk, true) else ([], false)
theorem nm_of_all {pat : Bool} {l : B} (h : ∀ c ∈ l, pmt pat c = true) : nm pat l = (!(l == []) && !(l == [46]) && !(l == [46, 46])) := by
  unfold nm
  rw [List.all_eq_true.2 h, Bool.and_true]
theorem names_loop (s : ByteArray) (pat : Bool) (hs : s.size ≤ 1000000000) : ∀ (d i from_ : Nat) (out : List ByteArray), i + d = s.size → from_ ≤ i → out.length ≤ i → 47 ∉ ((bs s).drop from_).take (i - from_) → (∀ c ∈ ((bs s).drop from_).take (i - from_), pmt pat c = true) →
    Ev (fun k => tapearchiveref19_names.l0 k s pat out (from_ : Int) (i : Int)) (refS pat out ((bs s).drop from_)) := by
  intro d
  induction d with
  | zero =>
    intro i from_ out hi hf ho h47 hall
    have e : ((bs s).drop from_).take (i - from_) = (bs s).drop from_ := List.take_of_length_le (by rw [List.length_drop, bs_length]; omega)
    rw [e] at h47 hall
    refine Ev.next (fun k => by rw [tapearchiveref19_names.l0]) ?_
    refine Ev.pos (by omega) (Ev.neg (by omega) (Ev.next (fun k => by rw [tapearchiveref19_names.j2]) ?_))
    have ee : (s.extract (from_ : Int).toNat (i : Int).toNat) = mk ((bs s).drop from_) := by
      apply bs_inj
      rw [bs_extract, Int.toNat_natCast, Int.toNat_natCast, e, bs_of_mk]
    refine Ev.neg (by simp) (Ev.pos (by omega) (Ev.pos (by omega) (Ev.pos (by omega) ?_)))
    rw [ee, mk_toList]
    unfold refS
    rw [pieces_no h47, List.all_cons, List.all_nil, Bool.and_true, nm_of_all hall]
    generalize (bs s).drop from_ = cur at *
    by_cases h1 : cur = []
    · exact Ev.pos h1 (Ev.done fun _ => by rw [if_neg (by simp [h1])])
    refine Ev.neg h1 ?_
    by_cases h2 : cur = [46]
    · exact Ev.pos h2 (Ev.done fun _ => by rw [if_neg (by simp [h2])])
    refine Ev.neg h2 ?_
    by_cases h3 : cur = [46, 46]
    · exact Ev.pos h3 (Ev.done fun _ => by rw [if_neg (by simp [h3])])
    refine Ev.neg h3 (Ev.pos (by omega) ?_)
    rw [if_pos (by simp [h1, h2, h3])]
    refine Ev.next (fun k => by rw [tapearchiveref19_names.l0]) ?_
    rw [wrap_in (by omega) (by omega)]
    exact Ev.neg (by omega) (Ev.done fun _ => rfl)
  | succ d ih =>
    intro i from_ out hi hf ho h47 hall
    have hl : i < (bs s).length := by rw [bs_length]; omega
    have hbt := bt_get s i _ (List.getElem?_eq_getElem hl)
    have hd : (bs s).drop i = (bs s)[i] :: (bs s).drop (i + 1) := List.drop_eq_getElem_cons hl
    have hsplit : (bs s).drop from_ = ((bs s).drop from_).take (i - from_) ++ (bs s)[i] :: (bs s).drop (i + 1) := by
      rw [← hd]
      conv => lhs; rw [← List.take_append_drop (i - from_) ((bs s).drop from_)]
      rw [List.drop_drop, show from_ + (i - from_) = i from by omega]
    have hsn : ((bs s).drop from_).take (i + 1 - from_) = ((bs s).drop from_).take (i - from_) ++ [(bs s)[i]] := by
      rw [show i + 1 - from_ = (i - from_) + 1 from by omega, List.take_succ_eq_append_getElem (by rw [List.length_drop]; omega)]
      congr 1
      rw [List.getElem_drop]
      congr 2
      omega
    have ih1 := ih (i + 1) from_ out (by omega) (by omega) (by omega)
    have ih2 := fun o => ih (i + 1) (i + 1) o (by omega) (by omega)
    rw [hsn] at ih1
    generalize (bs s)[i] = c at *
    refine Ev.next (fun k => by rw [tapearchiveref19_names.l0]) ?_
    refine Ev.pos (by omega) (Ev.pos (by omega) (Ev.pos (by omega) ?_))
    rw [hbt]
    refine Ev.next (fun k => by rw [tapearchiveref19_names.j2]) ?_
    have h47b : ((c.toNat : Int) != 47) = !(c == 47) := by
      rw [Bool.eq_iff_iff]
      simp only [bne_iff_ne, ne_eq, Bool.not_eq_true', beq_eq_false_iff_ne]
      constructor
      · intro h e; subst e; exact h rfl
      · intro h e; apply h; apply UInt8.toNat_inj.1; have : c.toNat = 47 := by omega
        rw [this]; rfl
    by_cases hc : c = 47
    · subst hc
      refine Ev.neg (by simp) (Ev.pos (by omega) (Ev.pos (by omega) (Ev.pos (by omega) ?_)))
      have ee : (s.extract (from_ : Int).toNat (i : Int).toNat) = mk (((bs s).drop from_).take (i - from_)) := by
        apply bs_inj
        rw [bs_extract, Int.toNat_natCast, Int.toNat_natCast, bs_of_mk]
      rw [ee, mk_toList]
      unfold refS
      have hP := pieces_cut (b := (bs s).drop (i + 1)) h47
      rw [← hsplit] at hP
      rw [hP, List.all_cons, nm_of_all hall]
      generalize ((bs s).drop from_).take (i - from_) = cur at *
      by_cases h1 : cur = []
      · exact Ev.pos h1 (Ev.done fun _ => by rw [if_neg (by simp [h1])])
      refine Ev.neg h1 ?_
      by_cases h2 : cur = [46]
      · exact Ev.pos h2 (Ev.done fun _ => by rw [if_neg (by simp [h2])])
      refine Ev.neg h2 ?_
      by_cases h3 : cur = [46, 46]
      · exact Ev.pos h3 (Ev.done fun _ => by rw [if_neg (by simp [h3])])
      refine Ev.neg h3 (Ev.pos (by omega) ?_)
      rw [wrap_in (by omega) (by omega), show (i : Int) + 1 = ((i + 1 : Nat) : Int) from rfl]
      have := ih2 (out ++ [mk cur]) (by simp; omega) (by simp) (by simp)
      unfold refS at this
      rw [beq_false_of_ne h1, beq_false_of_ne h2, beq_false_of_ne h3]
      simpa using this
    · rw [h47b, beq_false_of_ne hc]
      refine Ev.pos rfl (Ev.pos (by omega) (Ev.pos (by omega) ?_))
      have hg : pmt pat c = true → Ev (fun k => tapearchiveref19_names.j3 k s pat out (from_ : Int) (i : Int) false) (refS pat out ((bs s).drop from_)) := by
        intro hp
        refine Ev.next (fun k => by rw [tapearchiveref19_names.j3]) (Ev.neg (by simp) ?_)
        rw [wrap_in (by omega) (by omega), show (i : Int) + 1 = ((i + 1 : Nat) : Int) from rfl]
        refine ih1 (by simp only [List.mem_append, List.mem_singleton, not_or]; exact ⟨h47, fun e => hc e.symm⟩) ?_
        intro x hx
        rcases List.mem_append.1 hx with hx | hx
        · exact hall x hx
        · obtain rfl := List.mem_singleton.1 hx; exact hp
      have hbad : pmt pat c = false → Ev (fun k => tapearchiveref19_names.j3 k s pat out (from_ : Int) (i : Int) true) (refS pat out ((bs s).drop from_)) := by
        intro hp
        refine Ev.next (fun k => by rw [tapearchiveref19_names.j3]) (Ev.pos rfl (Ev.done fun _ => ?_))
        unfold refS
        rw [hsplit, if_neg (bad_mid h47 hc hp)]
      rw [hbt]
      refine Ev.bindS (plain_f c) ?_
      cases hp : pmt false c with
      | true =>
        refine Ev.pos rfl (hg ?_)
        cases pat
        · exact hp
        · exact pmt_mono hp
      | false =>
        refine Ev.neg (by simp) ?_
        have hpat : pmt true c = (pmt false c || (decide (c.toNat = 42) || decide (c.toNat = 63))) := by
          unfold pmt pmtN; simp
        rw [hp, Bool.false_or] at hpat
        cases pat with
        | true =>
          refine Ev.pos rfl ?_
          by_cases h42 : c.toNat = 42
          · refine Ev.pos (by omega) (hg (by rw [hpat]; simp [h42]))
          · refine Ev.neg (by omega) ?_
            by_cases h63 : c.toNat = 63
            · have e : ((c.toNat : Int) == 63) = true := by rw [beq_iff_eq]; omega
              rw [e]
              exact hg (by rw [hpat]; simp [h63])
            · have e : ((c.toNat : Int) == 63) = false := by rw [beq_eq_false_iff_ne]; omega
              rw [e]
              exact hbad (by rw [hpat]; simp [h42, h63])
        | false => exact Ev.neg (by simp) (hbad hp)
theorem names_ev (s : ByteArray) (pat : Bool) (hs : s.size ≤ 1000000000) : Ev (fun k => tapearchiveref19_names.f k s pat) (match bs s with | [] => ([], false) | c :: r => if c = 47 then refS pat [] r else ([], false)) := by
  unfold tapearchiveref19_names.f
  have bad : Ev (fun k => tapearchiveref19_names.j0 k s pat true) ([], false) := Ev.next (fun k => by rw [tapearchiveref19_names.j0]) (Ev.pos rfl (Ev.done fun _ => rfl))
  have hlen := bs_length s
  cases hb : bs s with
  | nil =>
    rw [hb] at hlen
    exact Ev.pos (by simp at hlen; omega) bad
  | cons c r =>
    have h0 : (bs s)[0]? = some c := by rw [hb]; rfl
    have hbt := bt_get s 0 c h0
    rw [hb] at hlen
    simp only [List.length_cons] at hlen
    refine Ev.neg (by omega) (Ev.pos (by omega) ?_)
    rw [show ((0 : Nat) : Int) = 0 from rfl] at hbt
    rw [hbt]
    by_cases hc : c = 47
    · simp only [if_pos hc]
      subst hc
      refine Ev.next (fun k => by rw [tapearchiveref19_names.j0]) (Ev.neg (by simp) ?_)
      have := names_loop s pat hs (s.size - 1) 1 1 [] (by omega) (Nat.le_refl _) (by simp) (by simp) (by simp)
      rw [hb, List.drop_one, List.tail_cons] at this
      exact this
    · simp only [if_neg hc]
      have e : ((c.toNat : Int) != 47) = true := by
        rw [bne_iff_ne]
        intro e
        apply hc
        apply UInt8.toNat_inj.1
        have : c.toNat = 47 := by omega
        rw [this]; rfl
      rw [e]
      exact bad
theorem rd_nat {l : List ByteArray} {i : Nat} (h : i < l.length) : rdOf ByteArray.empty l (i : Int) = l[i] := by
  unfold rdOf
  rw [Int.toNat_natCast, List.getD_eq_getElem?_getD, List.getElem?_eq_getElem h]
  rfl
theorem limits_ev (l : List ByteArray) (hl : l.length ≤ 4611686018427387904) : Ev (fun k => tapearchiveref19_limits.f k l) (if l.any (fun x => decide (24 < x.size)) = true ∨ 8 < l.length then 6 else 0) := by
  unfold tapearchiveref19_limits.f
  have go : ∀ (d i : Nat), i + d = l.length → Ev (fun k => tapearchiveref19_limits.l0 k l (i : Int)) (if (l.drop i).any (fun x => decide (24 < x.size)) = true ∨ 8 < l.length then 6 else 0) := by
    intro d
    induction d with
    | zero =>
      intro i hi
      refine Ev.next (fun k => by rw [tapearchiveref19_limits.l0]) (Ev.neg (by omega) ?_)
      rw [List.drop_of_length_le (by omega)]
      simp only [List.any_nil, Bool.false_eq_true, false_or]
      by_cases h : 8 < l.length
      · exact Ev.pos (by omega) (Ev.done fun _ => by rw [if_pos h])
      · exact Ev.neg (by omega) (Ev.done fun _ => by rw [if_neg h])
    | succ d ih =>
      intro i hi
      have hlt : i < l.length := by omega
      refine Ev.next (fun k => by rw [tapearchiveref19_limits.l0]) (Ev.pos (by omega) (Ev.pos (by omega) ?_))
      rw [rd_nat hlt, List.drop_eq_getElem_cons hlt, List.any_cons]
      by_cases h : 24 < l[i].size
      · exact Ev.pos (by omega) (Ev.done fun _ => by rw [if_pos]; simp [h])
      · refine Ev.neg (by omega) ?_
        rw [wrap_in (by omega) (by omega), show (i : Int) + 1 = ((i + 1 : Nat) : Int) from rfl]
        simp only [h, decide_false, Bool.false_or]
        exact ih (i + 1) (by omega)
  have := go l.length 0 (by omega)
  rw [List.drop_zero] at this
  exact this
theorem rparse_ev (s : ByteArray) (pat : Bool) : Ev (fun k => tapearchiveref19_parse.f k s pat) (outS (parseS pat (bs s))) := by
  unfold tapearchiveref19_parse.f parseS
  rw [bs_length]
  by_cases h : 200 < s.size
  · refine Ev.pos (by omega) (Ev.done fun _ => ?_)
    rw [if_pos h]
    rfl
  refine Ev.neg (by omega) ?_
  rw [if_neg h]
  refine Ev.both (names_ev s pat (by omega)) ?_
  have hlen := bs_length s
  cases hs : bs s with
  | nil => exact Ev.neg (by simp) (Ev.done fun _ => rfl)
  | cons c r =>
    rw [hs] at hlen
    simp only [List.length_cons] at hlen
    by_cases hc : c = 47
    · simp only [if_pos hc]
      unfold refS
      by_cases ha : (pieces r).all (nm pat) = true
      · rw [if_pos ha, if_pos ha]
        have hpl := pieces_len r
        refine Ev.pos rfl (Ev.both (limits_ev _ (by simp; omega)) ?_)
        have e : (((([] : List ByteArray) ++ (pieces r).map mk)).any (fun x => decide (24 < x.size)) = true ∨ 8 < (([] : List ByteArray) ++ (pieces r).map mk).length) ↔ ((pieces r).any (fun x => decide (24 < x.length)) = true ∨ 8 < (pieces r).length) := by
          rw [List.nil_append, List.any_map, List.length_map]
          exact Iff.rfl
        by_cases hb : (pieces r).any (fun x => decide (24 < x.length)) = true ∨ 8 < (pieces r).length
        · rw [if_pos hb, if_pos (e.2 hb)]
          exact Ev.neg (by simp) (Ev.done fun _ => rfl)
        · rw [if_neg hb, if_neg (fun x => hb (e.1 x))]
          exact Ev.pos rfl (Ev.done fun _ => rfl)
      · rw [if_neg ha, if_neg ha]
        exact Ev.neg (by simp) (Ev.done fun _ => rfl)
    · simp only [if_neg hc]
      exact Ev.neg (by simp) (Ev.done fun _ => rfl)
theorem rParse_ev (s : ByteArray) : Ev (fun k => tapearchiveref19_Parse.f k s) (outS (parseS false (bs s))) := by
  unfold tapearchiveref19_Parse.f
  exact Ev.both (rparse_ev s false) (Ev.done fun _ => rfl)
end Go.Proofs.YtlcgepmacgbciaaDoor.Pth
end
section
namespace Go.Proofs.YtlcgepmacgbciaaDoor.Pth
open Go.RowKit Go.Proofs.YtlcgepmacgbciaaDoor.Q Go.Proofs.YtlcgepmacgbciaaDoorW.PrintWords Go.Proofs.YtlcgepmacgbciaaDoorW.PrintMore Go.Proofs.YtlcgepmacgbciaaDoorW.EvMore
section
variable (p s : ByteArray) (hp : p.size ≤ 2000000000) (hs : s.size ≤ 2000000000)
include hp hs
end
theorem map_bs_mk (l : List B) : (l.map mk).map bs = l := by
  rw [List.map_map]
  conv => rhs; rw [← List.map_id l]
  exact List.map_congr_left fun x _ => rfl
section
end
end Go.Proofs.YtlcgepmacgbciaaDoor.Pth
end
section
namespace Go.Proofs.YtlcgepmacgbciaaDoor.Pth
open Go.RowKit Go.Proofs.YtlcgepmacgbciaaDoor.Q Go.Proofs.YtlcgepmacgbciaaDoorW.PrintWords Go.Proofs.YtlcgepmacgbciaaDoorW.PrintMore Go.Proofs.YtlcgepmacgbciaaDoorW.EvMore
theorem map_bs_inj {l m : List ByteArray} (h : l.map bs = m.map bs) : l = m := by
  have e : ∀ l : List ByteArray, (l.map bs).map mk = l := fun l => by
    rw [List.map_map]
    conv => rhs; rw [← List.map_id l]
    exact List.map_congr_left fun x _ => mk_of_bs x
  rw [← e l, ← e m, h]
theorem map_mk_bs (l : List ByteArray) : (l.map bs).map mk = l := map_bs_inj (map_bs_mk _)
theorem tcat_eq (l : List ByteArray) : path_Text.cat l = cat (l.map bs) := by
  unfold path_Text.cat cat
  rw [List.map_map]
  rfl
theorem Text_ev (l : List ByteArray) (h1 : l.length ≤ 140737488355328) (h2 : (cat (l.map bs)).length ≤ 140737488355328) : Ev (fun k => path_Text.f k l) (mk (textS (l.map bs))) := by
  unfold path_Text.f
  rw [tcat_eq]
  refine Ev.pos ⟨h1, h2⟩ (Ev.both (Parse_ev (mk (cat (l.map bs)))) ?_)
  rw [bs_of_mk]
  unfold textS outS
  by_cases h3 : (parseS false (cat (l.map bs))).2 = 0
  · refine Ev.pos h3 ?_
    have hlen : (parseS false (cat (l.map bs))).1.length ≤ 8 := by
      obtain ⟨r, _, _, e3, _, _, e6⟩ := parseS_ok h3
      rw [e3]; exact e6
    refine Ev.pos (by rw [List.length_map]; omega) ?_
    by_cases h4 : (parseS false (cat (l.map bs))).1 = l.map bs
    · have e1 : ((parseS false (cat (l.map bs))).1.map mk) = l := by rw [h4, map_mk_bs]
      refine Ev.pos e1 (Ev.done fun _ => ?_)
      rw [if_pos (Prod.ext h4 h3)]
      rfl
    · refine Ev.neg (fun e => h4 ?_) (Ev.done fun _ => ?_)
      · have := congrArg (List.map bs) e
        rw [map_bs_mk] at this
        exact this
      · rw [if_neg (fun e => h4 (congrArg Prod.fst e))]
        rfl
  · refine Ev.neg h3 (Ev.done fun _ => ?_)
    rw [if_neg (fun e => h3 (congrArg Prod.snd e))]
    rfl
theorem cat_map_take (l : List ByteArray) (i : Nat) (h : i < l.length) : cat ((l.take (i + 1)).map bs) = cat ((l.take i).map bs) ++ 47 :: bs l[i] := by
  rw [List.take_succ_eq_append_getElem h, List.map_append, cat_app]
  simp [cat]
theorem rText_ev (l : List ByteArray) (h1 : ∀ x ∈ l, x.size ≤ 140737488351232) (h2 : l.length ≤ 140737488355328) : Ev (fun k => tapearchiveref19_Text.f k l) (mk (textS (l.map bs))) := by
  unfold tapearchiveref19_Text.f
  have go : ∀ (d i : Nat), i + d = l.length → (cat ((l.take i).map bs)).length ≤ 150000000000000 → Ev (fun k => tapearchiveref19_Text.l0 k l (mk (cat ((l.take i).map bs))) (i : Int)) (mk (textS (l.map bs))) := by
    intro d
    induction d with
    | zero =>
      intro i hi _
      obtain rfl : i = l.length := by omega
      rw [List.take_length]
      refine Ev.next (fun k => by rw [tapearchiveref19_Text.l0]) (Ev.neg (by omega) (Ev.both (rParse_ev _) ?_))
      rw [bs_of_mk]
      unfold textS outS
      by_cases h3 : (parseS false (cat (l.map bs))).2 = 0
      · refine Ev.pos h3 ?_
        obtain ⟨r, e1, _, e3, _, _, e6⟩ := parseS_ok h3
        have hne : l.map bs ≠ [] := by
          intro e
          rw [e] at e1
          cases e1
        obtain ⟨r', f1, f2, f3⟩ := pieces_count (l.map bs) hne
        rw [e1] at f1
        obtain rfl := (List.cons.inj f1).2
        rw [e3]
        by_cases h4 : (pieces r).length = (l.map bs).length
        · refine Ev.pos (by rw [List.length_map] at h4 ⊢; omega) (Ev.done fun _ => ?_)
          rw [if_pos (Prod.ext (e3.trans (f3 h4)) h3)]
        · refine Ev.neg (by rw [List.length_map] at h4 ⊢; omega) (Ev.done fun _ => ?_)
          rw [if_neg (fun e => h4 (by rw [← e3, congrArg Prod.fst e]))]
          rfl
      · refine Ev.neg h3 (Ev.done fun _ => ?_)
        rw [if_neg (fun e => h3 (congrArg Prod.snd e))]
        rfl
    | succ d ih =>
      intro i hi hc
      have hlt : i < l.length := by omega
      have ih := ih (i + 1) (by omega)
      refine Ev.next (fun k => by rw [tapearchiveref19_Text.l0]) (Ev.pos (by omega) ?_)
      rw [mk_size]
      by_cases h200 : (cat ((l.take i).map bs)).length ≤ 200
      · have hx := h1 l[i] (List.getElem_mem hlt)
        rw [rd_nat hlt]
        refine Ev.pos (by omega) (Ev.pos (by omega) (Ev.pos (by omega) (Ev.pos (by omega) ?_)))
        have e : (mk (cat ((l.take i).map bs)) ++ (⟨#[47]⟩ : ByteArray)) ++ l[i] = mk (cat ((l.take (i + 1)).map bs)) := by
          apply bs_inj
          rw [bs_append, bs_append, bs_of_mk, bs_of_mk, cat_map_take l i hlt, List.append_assoc]
          rfl
        rw [e, wrap_in (by omega) (by omega)]
        refine ih ?_
        rw [cat_map_take l i hlt, List.length_append, List.length_cons, bs_length]
        omega
      · refine Ev.neg (by omega) (Ev.both (rParse_ev _) ?_)
        rw [bs_of_mk]
        have hb : ∀ x : B, 200 < x.length → parseS false x = ([], 6) := fun x hx => by unfold parseS; rw [if_pos hx]
        rw [hb _ (by omega)]
        have hle : (cat ((l.take i).map bs)).length ≤ (cat (l.map bs)).length := by
          have := cat_len_le ((l.take i).map bs) ((l.drop i).map bs)
          rw [← List.map_append, List.take_append_drop] at this
          exact this
        refine Ev.neg (by simp [outS]) (Ev.done fun _ => ?_)
        unfold textS
        rw [hb _ (by omega), if_neg (by simp)]
        rfl
  have := go l.length 0 (by omega) (by simp [cat])
  exact this
end Go.Proofs.YtlcgepmacgbciaaDoor.Pth
end
section
namespace Go.Proofs.YtlcgepmacgbciaaDoor.Pth
open Go.RowKit Go.Proofs.YtlcgepmacgbciaaDoor.Q Go.Proofs.YtlcgepmacgbciaaDoorW.PrintWords Go.Proofs.YtlcgepmacgbciaaDoorW.PrintMore Go.Proofs.YtlcgepmacgbciaaDoorW.EvMore
theorem awake_ev : Ev (fun k => tapearchivelaw19_awake.f k) true := by
  refine Ev.of (fun k => tapearchivelaw19_awake.mono k) (k := 60) ?_
  kernel_rfl
theorem same_ev (l m : List ByteArray) (hl : l.length ≤ 1000) : Ev (fun k => tapearchivelaw19_same.f k l m) (decide (l = m)) := by
  unfold tapearchivelaw19_same.f
  by_cases h : l.length = m.length
  · refine Ev.pos (by omega) ?_
    have go : ∀ (d i : Nat), i + d = l.length → Ev (fun k => tapearchivelaw19_same.l0 k l m (i : Int)) (decide (l.drop i = m.drop i)) := by
      intro d
      induction d with
      | zero =>
        intro i hi
        refine Ev.next (fun k => by rw [tapearchivelaw19_same.l0]) (Ev.neg (by omega) (Ev.done fun _ => ?_))
        rw [List.drop_of_length_le (by omega : l.length ≤ i), List.drop_of_length_le (by omega : m.length ≤ i)]
        rfl
      | succ d ih =>
        intro i hi
        have h1 : i < l.length := by omega
        have h2 : i < m.length := by omega
        refine Ev.next (fun k => by rw [tapearchivelaw19_same.l0]) (Ev.pos (by omega) (Ev.pos (by omega) (Ev.pos (by omega) ?_)))
        rw [rd_nat h1, rd_nat h2, toList_bs, toList_bs, List.drop_eq_getElem_cons h1, List.drop_eq_getElem_cons h2]
        by_cases e : l[i] = m[i]
        · refine Ev.pos (congrArg bs e) ?_
          rw [wrap_in (by omega) (by omega), e]
          have := ih (i + 1) (by omega)
          rw [show (decide (m[i] :: l.drop (i + 1) = m[i] :: m.drop (i + 1))) = decide (l.drop (i + 1) = m.drop (i + 1)) from by
            rw [Bool.eq_iff_iff, decide_eq_true_eq, decide_eq_true_eq]
            exact ⟨fun x => (List.cons.inj x).2, fun x => by rw [x]⟩]
          exact this
        · refine Ev.neg (fun x => e (bs_inj x)) (Ev.done fun _ => ?_)
          rw [decide_eq_false]
          intro x
          exact e (List.cons.inj x).1
    have := go l.length 0 (by omega)
    rw [List.drop_zero, List.drop_zero] at this
    exact this
  · refine Ev.neg (by omega) (Ev.done fun _ => ?_)
    rw [decide_eq_false]
    intro e
    exact h (congrArg List.length e)
end Go.Proofs.YtlcgepmacgbciaaDoor.Pth
end
section
namespace Go.Proofs.YtlcgepmacgbciaaDoor.Pth
open Go.RowKit Go.Proofs.YtlcgepmacgbciaaDoor.Q Go.Proofs.YtlcgepmacgbciaaDoorW.PrintWords Go.Proofs.YtlcgepmacgbciaaDoorW.PrintMore Go.Proofs.YtlcgepmacgbciaaDoorW.EvMore
theorem cat_le (n : Nat) : ∀ l : List B, (∀ x ∈ l, x.length ≤ n) → (cat l).length ≤ l.length * (n + 1)
  | [], _ => by simp [cat]
  | a :: l, h => by
    have ih := cat_le n l fun x hx => h x (by simp [hx])
    have ha := h a (by simp)
    have : cat (a :: l) = 47 :: a ++ cat l := by simp [cat]
    rw [this, List.length_append, List.length_cons, List.length_cons, Nat.add_mul]
    omega
theorem texts : SPathTexts.Pure := by
  intro l hl
  obtain ⟨_, h16, hy⟩ := hl
  suffices h : Ev (fun k => tapearchivelaw19_PathTexts.f k l) true from Ev.get h
  unfold tapearchivelaw19_PathTexts.f
  by_cases h20 : l.length > 20
  · exact Ev.pos (by omega) (Ev.both awake_ev (Ev.done fun _ => rfl))
  refine Ev.neg (by omega) ?_
  have go : ∀ (d i : Nat), i + d = l.length → (∀ x ∈ l.take i, x.size ≤ 300) → Ev (fun k => tapearchivelaw19_PathTexts.l0 k l (i : Int)) true := by
    intro d
    induction d with
    | zero =>
      intro i hi hx
      rw [List.take_of_length_le (by omega)] at hx
      have hc : (cat (l.map bs)).length ≤ 20 * 301 := by
        have := cat_le 300 (l.map bs) (by
          intro x hx2
          obtain ⟨y, hy2, rfl⟩ := List.mem_map.1 hx2
          exact hx y hy2)
        rw [List.length_map] at this
        exact Nat.le_trans this (Nat.mul_le_mul_right _ (by omega))
      refine Ev.next (fun k => by rw [tapearchivelaw19_PathTexts.l0]) (Ev.neg (by omega) (Ev.both (Text_ev l (by omega) (by omega)) (Ev.both (rText_ev l hy (by omega)) (Ev.pos rfl ?_))))
      rw [mk_toList]
      by_cases h0 : textS (l.map bs) = []
      · exact Ev.pos h0 (Ev.both awake_ev (Ev.done fun _ => rfl))
      · refine Ev.neg h0 (Ev.both (Parse_ev _) ?_)
        rw [bs_of_mk]
        have ht : parseS false (cat (l.map bs)) = (l.map bs, 0) := by
          by_cases e : parseS false (cat (l.map bs)) = (l.map bs, 0)
          · exact e
          · unfold textS at h0
            rw [if_neg e] at h0
            exact absurd rfl h0
        have et : textS (l.map bs) = cat (l.map bs) := by
          unfold textS
          rw [if_pos ht]
        rw [et, ht]
        refine Ev.pos rfl (Ev.both (same_ev _ _ (by omega)) (Ev.pos (decide_eq_true (map_mk_bs l).symm) (Ev.both awake_ev (Ev.done fun _ => rfl))))
    | succ d ih =>
      intro i hi hx
      have hlt : i < l.length := by omega
      refine Ev.next (fun k => by rw [tapearchivelaw19_PathTexts.l0]) (Ev.pos (by omega) (Ev.pos (by omega) ?_))
      rw [rd_nat hlt]
      by_cases h : l[i].size > 300
      · exact Ev.pos (by omega) (Ev.both awake_ev (Ev.done fun _ => rfl))
      · refine Ev.neg (by omega) ?_
        rw [wrap_in (by omega) (by omega)]
        refine ih (i + 1) (by omega) ?_
        rw [List.take_succ_eq_append_getElem hlt]
        intro x hx2
        rcases List.mem_append.1 hx2 with hx2 | hx2
        · exact hx x hx2
        · obtain rfl := List.mem_singleton.1 hx2; omega
  exact go l.length 0 (by omega) (by simp)
end Go.Proofs.YtlcgepmacgbciaaDoor.Pth
namespace Go.Proofs.YtlcgepmacgbciaaDoor.Pure
theorem PathTexts : Go.Proofs.YtlcgepmacgbciaaDoor.SPathTexts.Pure := Pth.texts
end Go.Proofs.YtlcgepmacgbciaaDoor.Pure
end
