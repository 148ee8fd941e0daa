import Derived.Test.YtlcgepmacgbciaaDoorKPathParses5
set_option linter.unusedVariables false
set_option linter.unusedSimpArgs false
namespace Go.Proofs.YtlcgepmacgbciaaDoorW.Opens
end Go.Proofs.YtlcgepmacgbciaaDoorW.Opens
section
namespace Go.Proofs.YtlcgepmacgbciaaDoor.Q
open Go.RowKit Go.Proofs.YtlcgepmacgbciaaDoorW.PrintWords Go.Proofs.YtlcgepmacgbciaaDoorW.PrintLast Go.Proofs.YtlcgepmacgbciaaDoorW.PrintMore
attribute [local go_sem] max2_int min2_int max_two min_two max_three min_three max_four min_four
attribute [local go_sem ↓] isSome_setCell
attribute [local go_sem] string_gtr
set_option linter.unusedVariables false
set_option linter.unusedSimpArgs false
def tapearchivelaw19_same.l0 : Nat → List ByteArray → List ByteArray → Int → Option (Bool)
  | 0, _, _, _ => none
  | k + 1, x0, x1, x5 => if x5 < (x0.length : Int) then (if 0 ≤ x5 then (if x5 < (x1.length : Int) then (if (rdOf ByteArray.empty x0 x5).toList = (rdOf ByteArray.empty x1 x5).toList then (tapearchivelaw19_same.l0 k x0 x1 (wrap64 (x5 + 1))) else (some false)) else (none)) else (none)) else (some true)
def tapearchivelaw19_same.f (k : Nat) (l0 : List ByteArray) (l1 : List ByteArray) : Option (Bool) := if (l0.length : Int) = (l1.length : Int) then (tapearchivelaw19_same.l0 k l0 l1 0) else (some false)
set_option maxHeartbeats 8000000 in
set_option maxRecDepth 100000 in
theorem tapearchivelaw19_same.calls (k : Nat) (A0 : Option Addr) (c0 : Nat) (l0 : List ByteArray) (A1 : Option Addr) (c1 : Nat) (l1 : List ByteArray) (r : Bool) (w : World) (hr0 : Kd.C Kd.string w A0 l0.length l0) (hc0 : l0.length ≤ c0) (hr1 : Kd.C Kd.string w A1 l1.length l1) (hc1 : l1.length ≤ c1) (h : tapearchivelaw19_same.f k l0 l1 = some r) :
    Calls Tryd.prog 15 #[.slice A0 l0.length c0, .slice A1 l1.length c1] w fun e w' => e = .returned (.bool r) ∧ Drawn0 w w' := by
  have HR0 := Aside0.mk hr0
  have HC0 := Aside0.mk hc0
  clear hr0 hc0
  have HR1 := Aside0.mk hr1
  have HC1 := Aside0.mk hc1
  clear hr1 hc1
  have H : (if (l0.length : Int) = (l1.length : Int) then (tapearchivelaw19_same.l0 k l0 l1 0) else (some false)) = some r := h
  clear h
  by_cases c3 : (l0.length : Int) = (l1.length : Int)
  · rw [if_pos c3] at H
    have c3b0 : ((l0.length : Int) == (l1.length : Int)) = true := beq_iff_eq.mpr c3
    have c3b1 : ((l0.length : Int) != (l1.length : Int)) = false := bne_eq_false_iff_eq.mpr c3
    have c3b2 : (l0.length == l1.length) = true := by first | simpa using c3 | (simp at c3 ⊢; omega)
    clear c3
    have H' := Aside0.mk H
    clear H
    go_enter Tryd.func15, Tryd.ntmps15
    go_wp2
    repeat (go_quiet (fail); try go_wp2)
    go_loopg [5] k (fun kq v5 w' => ∃ (x5_1 : Int), v5 = .int .i64 x5_1 ∧ Aside0 (tapearchivelaw19_same.l0 kq l0 l1 x5_1 = some r) ∧ Aside0 (kq ≤ k) ∧ Drawn0 w w')
    case atStart => exact ⟨(0), (by first | rfl | (simp; done) | (simp [*]; done)), H', ⟨Nat.le_refl _⟩, by repeat (first | exact Drawn0.refl _ | apply Drawn0.step)⟩
    case round =>
      clear H'
      try clear c1
      try clear p2
      try clear c3
      try clear c3b0
      try clear c3b1
      try clear c3b2
      obtain ⟨x5_1, rfl, HA, HK1, ⟨m1, rfl⟩⟩ := hrel
      cases gk with
      | zero => exact absurd HA.out (by simp [tapearchivelaw19_same.l0])
      | succ k1 =>
        have H := HA.out
        clear HA
        simp only [tapearchivelaw19_same.l0] at H
        by_cases c4 : x5_1 < (l0.length : Int)
        · rw [if_pos c4] at H
          have c4b0 : decide (x5_1 < (l0.length : Int)) = true := decide_eq_true c4
          clear c4
          by_cases c5 : 0 ≤ x5_1
          · rw [if_pos c5] at H
            have c5b0 : decide (0 ≤ x5_1) = true := decide_eq_true c5
            clear c5
            by_cases c6 : x5_1 < (l1.length : Int)
            · rw [if_pos c6] at H
              have c6b0 : decide (x5_1 < (l1.length : Int)) = true := decide_eq_true c6
              clear c6
              by_cases c7 : (rdOf ByteArray.empty l0 x5_1).toList = (rdOf ByteArray.empty l1 x5_1).toList
              · rw [if_pos c7] at H
                have c7b0 : ((rdOf ByteArray.empty l0 x5_1).toList == (rdOf ByteArray.empty l1 x5_1).toList) = true := beq_iff_eq.mpr c7
                have c7b1 : ((rdOf ByteArray.empty l0 x5_1).toList != (rdOf ByteArray.empty l1 x5_1).toList) = false := bne_eq_false_iff_eq.mpr c7
                clear c7
                have H' := Aside0.mk H
                clear H
                have p214 : 0 ≤ (x5_1 : Int) := of_decide_eq_true (by first | (with_reducible assumption) | assumption)
                have q214 : x5_1 < (l0.length : Int) := of_decide_eq_true (by first | (with_reducible assumption) | assumption)
                obtain ⟨ad214, e214, hx214_0⟩ := Kd.at_string HR0.out x5_1 p214 q214
                cases e214
                replace p214 := eq_true p214
                replace q214 := eq_true q214
                have p215 : 0 ≤ (x5_1 : Int) := of_decide_eq_true (by first | (with_reducible assumption) | assumption)
                have q215 : x5_1 < (l1.length : Int) := of_decide_eq_true (by first | (with_reducible assumption) | assumption)
                obtain ⟨ad215, e215, hx215_0⟩ := Kd.at_string HR1.out x5_1 p215 q215
                cases e215
                replace p215 := eq_true p215
                replace q215 := eq_true q215
                go_wp2
                repeat (go_quiet (fail); try go_wp2)
                go_roundg k1
                case measure => have := HK1.out; omega
                case rel => exact ⟨(wrap64 (x5_1 + 1)), (by first | rfl | (simp; done) | (simp [*]; done)), H', ⟨by have := HK1.out; omega⟩, by repeat (first | exact Drawn0.refl _ | apply Drawn0.step)⟩
              · rw [if_neg c7] at H
                have c7b0 : ((rdOf ByteArray.empty l0 x5_1).toList == (rdOf ByteArray.empty l1 x5_1).toList) = false := beq_eq_false_iff_ne.mpr c7
                have c7b1 : ((rdOf ByteArray.empty l0 x5_1).toList != (rdOf ByteArray.empty l1 x5_1).toList) = true := bne_iff_ne.mpr c7
                obtain rfl := Option.some.inj H
                have p214 : 0 ≤ (x5_1 : Int) := of_decide_eq_true (by first | (with_reducible assumption) | assumption)
                have q214 : x5_1 < (l0.length : Int) := of_decide_eq_true (by first | (with_reducible assumption) | assumption)
                obtain ⟨ad214, e214, hx214_0⟩ := Kd.at_string HR0.out x5_1 p214 q214
                cases e214
                replace p214 := eq_true p214
                replace q214 := eq_true q214
                have p215 : 0 ≤ (x5_1 : Int) := of_decide_eq_true (by first | (with_reducible assumption) | assumption)
                have q215 : x5_1 < (l1.length : Int) := of_decide_eq_true (by first | (with_reducible assumption) | assumption)
                obtain ⟨ad215, e215, hx215_0⟩ := Kd.at_string HR1.out x5_1 p215 q215
                cases e215
                replace p215 := eq_true p215
                replace q215 := eq_true q215
                go_wp2
                repeat (go_quiet (fail); try go_wp2)
                go_ret
                exact ⟨by first | rfl | (simp; done) | (simp [*]; done), by repeat (first | exact Drawn0.refl _ | apply Drawn0.step)⟩
            · rw [if_neg c6] at H
              exact absurd H (by simp)
          · rw [if_neg c5] at H
            exact absurd H (by simp)
        · rw [if_neg c4] at H
          have c4b0 : decide (x5_1 < (l0.length : Int)) = false := decide_eq_false c4
          clear c4
          obtain rfl := Option.some.inj H
          go_wp2
          repeat (go_quiet (fail); try go_wp2)
          go_ret
          exact ⟨by first | rfl | (simp; done) | (simp [*]; done), by repeat (first | exact Drawn0.refl _ | apply Drawn0.step)⟩
  · rw [if_neg c3] at H
    have c3b0 : ((l0.length : Int) == (l1.length : Int)) = false := beq_eq_false_iff_ne.mpr c3
    have c3b1 : ((l0.length : Int) != (l1.length : Int)) = true := bne_iff_ne.mpr c3
    have c3b2 : (l0.length == l1.length) = false := by first | simpa using c3 | (simp at c3 ⊢; omega)
    obtain rfl := Option.some.inj H
    go_enter Tryd.func15, Tryd.ntmps15
    go_wp2
    repeat (go_quiet (fail); try go_wp2)
    go_ret
    exact ⟨by first | rfl | (simp; done) | (simp [*]; done), by repeat (first | exact Drawn0.refl _ | apply Drawn0.step)⟩
def tapearchiveref19_Pattern.f (k : Nat) (a0 : ByteArray) : Option (Bool) := (tapearchiveref19_parse.f k a0 true).bind fun bt216 => (some (bt216.2 == 0))
set_option maxHeartbeats 8000000 in
set_option maxRecDepth 100000 in
theorem tapearchiveref19_Pattern.calls (k : Nat) (a0 : ByteArray) (r : Bool) (w : World) (h : tapearchiveref19_Pattern.f k a0 = some r) :
    Calls Tryd.prog 18 #[.string a0] w fun e w' => e = .returned (.bool r) ∧ Below w.heap.size w w' := by
  have HB := Aside0.mk (Below.refl w.heap.size w)
  have H : ((tapearchiveref19_parse.f k a0 true).bind fun bt216 => (some (bt216.2 == 0))) = some r := h
  clear h
  replace H := Option.bind_eq_some_iff.mp H
  obtain ⟨⟨t216, t217⟩, A20, H⟩ := H
  replace H : (some (t217 == 0)) = some r := H
  have A2 := Aside0.mk A20
  clear A20
  obtain rfl := Option.some.inj H
  go_enter Tryd.func18, Tryd.ntmps18
  go_wp2_with (first | ((with_reducible refine gate_callee (f := 29) rfl ?_); refine goesL_ (some 7) rfl rfl Tryd.func29 (by kernel_rfl) rfl #[.string a0, .bool true] rfl (by (try simp only [List.map_toArray, List.map_cons, List.map_nil]); first | done | rfl | (simp only [List.length_drop, List.length_take]; rfl)) ?_; (with_reducible refine (tapearchiveref19_parse.calls k a0 true t216 t217 _ A2.out).mono ?_); rintro e w3 ⟨v218, rfl, ho0, hb⟩; refine ⟨_, rfl, ?_⟩; have n0_ := Aside0.mk (Kd.R_lower ho0 (below_size (by repeat (first | (with_reducible first | exact HB.out | apply below_alloc | apply pw_below_drewN | apply below_drew1) | exact HB.out)))); have n1_ := Aside0.mk (below_step (by repeat (first | (with_reducible first | exact HB.out | apply below_alloc | apply pw_below_drewN | apply below_drew1) | exact HB.out)) hb); clear HB; have HO219 := n0_; have HB := n1_; clear n0_ n1_; (try clear hb); (try clear hb2); (try clear hk); (try clear hi); (try clear ho0)))
  go_ret
  exact ⟨by first | rfl | (simp [errW_none, errW_some] <;> rfl) | (simp [*, errW_none, errW_some] <;> rfl), by repeat (first | (with_reducible first | exact HB.out | apply below_alloc | apply pw_below_drewN | apply below_drew1) | exact HB.out)⟩
def tapearchivelaw19_PathParses.f (k : Nat) (a0 : ByteArray) : Option (Bool) := (tapearchivelaw19_few.f a0).bind fun t220 => (if t220 = true then ((path_Parse.f k a0).bind fun bt222 => ((tapearchiveref19_Parse.f k a0).bind fun bt226 => (if bt222.2 = bt226.2 then ((tapearchivelaw19_same.f k bt222.1 bt226.1).bind fun t230 => (if t230 = true then ((path_Valid.f k a0).bind fun t231 => (if (t231 == (bt226.2 == 0)) = true then ((path_Pattern.f k a0).bind fun t232 => ((tapearchiveref19_Pattern.f k a0).bind fun t233 => (if (t232 == t233) = true then (if bt222.2 = 0 then ((path_Text.f k bt222.1).bind fun t234 => (if t234.toList = a0.toList then ((tapearchivelaw19_awake.f k).bind fun t235 => (some t235)) else (some false))) else ((tapearchivelaw19_awake.f k).bind fun t236 => (some t236))) else (some false)))) else (some false))) else (some false))) else (some false)))) else ((tapearchivelaw19_awake.f k).bind fun t221 => (some t221)))
set_option maxHeartbeats 8000000 in
set_option maxRecDepth 100000 in
theorem tapearchivelaw19_PathParses.calls (k : Nat) (a0 : ByteArray) (r : Bool) (w : World) (hG : Go.Proofs.YtlcgepmacgbciaaDoorX.Glob w) (h : tapearchivelaw19_PathParses.f k a0 = some r) :
    Calls Tryd.prog 3 #[.string a0] w fun e w' => e = .returned (.bool r) ∧ Below w.heap.size w w' := by
  have HB := Aside0.mk (Below.refl w.heap.size w)
  have H : ((tapearchivelaw19_few.f a0).bind fun t220 => (if t220 = true then ((path_Parse.f k a0).bind fun bt222 => ((tapearchiveref19_Parse.f k a0).bind fun bt226 => (if bt222.2 = bt226.2 then ((tapearchivelaw19_same.f k bt222.1 bt226.1).bind fun t230 => (if t230 = true then ((path_Valid.f k a0).bind fun t231 => (if (t231 == (bt226.2 == 0)) = true then ((path_Pattern.f k a0).bind fun t232 => ((tapearchiveref19_Pattern.f k a0).bind fun t233 => (if (t232 == t233) = true then (if bt222.2 = 0 then ((path_Text.f k bt222.1).bind fun t234 => (if t234.toList = a0.toList then ((tapearchivelaw19_awake.f k).bind fun t235 => (some t235)) else (some false))) else ((tapearchivelaw19_awake.f k).bind fun t236 => (some t236))) else (some false)))) else (some false))) else (some false))) else (some false)))) else ((tapearchivelaw19_awake.f k).bind fun t221 => (some t221)))) = some r := h
  clear h
  replace H := Option.bind_eq_some_iff.mp H
  obtain ⟨t220, A20, H⟩ := H
  replace H : (if t220 = true then ((path_Parse.f k a0).bind fun bt222 => ((tapearchiveref19_Parse.f k a0).bind fun bt226 => (if bt222.2 = bt226.2 then ((tapearchivelaw19_same.f k bt222.1 bt226.1).bind fun t230 => (if t230 = true then ((path_Valid.f k a0).bind fun t231 => (if (t231 == (bt226.2 == 0)) = true then ((path_Pattern.f k a0).bind fun t232 => ((tapearchiveref19_Pattern.f k a0).bind fun t233 => (if (t232 == t233) = true then (if bt222.2 = 0 then ((path_Text.f k bt222.1).bind fun t234 => (if t234.toList = a0.toList then ((tapearchivelaw19_awake.f k).bind fun t235 => (some t235)) else (some false))) else ((tapearchivelaw19_awake.f k).bind fun t236 => (some t236))) else (some false)))) else (some false))) else (some false))) else (some false)))) else ((tapearchivelaw19_awake.f k).bind fun t221 => (some t221))) = some r := H
  have A2 := Aside0.mk A20
  clear A20
  by_cases c3 : t220 = true
  · subst c3
    have H1 : ((path_Parse.f k a0).bind fun bt222 => ((tapearchiveref19_Parse.f k a0).bind fun bt226 => (if bt222.2 = bt226.2 then ((tapearchivelaw19_same.f k bt222.1 bt226.1).bind fun t230 => (if t230 = true then ((path_Valid.f k a0).bind fun t231 => (if (t231 == (bt226.2 == 0)) = true then ((path_Pattern.f k a0).bind fun t232 => ((tapearchiveref19_Pattern.f k a0).bind fun t233 => (if (t232 == t233) = true then (if bt222.2 = 0 then ((path_Text.f k bt222.1).bind fun t234 => (if t234.toList = a0.toList then ((tapearchivelaw19_awake.f k).bind fun t235 => (some t235)) else (some false))) else ((tapearchivelaw19_awake.f k).bind fun t236 => (some t236))) else (some false)))) else (some false))) else (some false))) else (some false)))) = some r := by rw [if_pos rfl] at H; exact H
    clear H
    have H := H1
    clear H1
    replace H := Option.bind_eq_some_iff.mp H
    obtain ⟨⟨t222, t223⟩, A40, H⟩ := H
    replace H : ((tapearchiveref19_Parse.f k a0).bind fun bt226 => (if t223 = bt226.2 then ((tapearchivelaw19_same.f k t222 bt226.1).bind fun t230 => (if t230 = true then ((path_Valid.f k a0).bind fun t231 => (if (t231 == (bt226.2 == 0)) = true then ((path_Pattern.f k a0).bind fun t232 => ((tapearchiveref19_Pattern.f k a0).bind fun t233 => (if (t232 == t233) = true then (if t223 = 0 then ((path_Text.f k t222).bind fun t234 => (if t234.toList = a0.toList then ((tapearchivelaw19_awake.f k).bind fun t235 => (some t235)) else (some false))) else ((tapearchivelaw19_awake.f k).bind fun t236 => (some t236))) else (some false)))) else (some false))) else (some false))) else (some false))) = some r := H
    have A4 := Aside0.mk A40
    clear A40
    replace H := Option.bind_eq_some_iff.mp H
    obtain ⟨⟨t226, t227⟩, A50, H⟩ := H
    replace H : (if t223 = t227 then ((tapearchivelaw19_same.f k t222 t226).bind fun t230 => (if t230 = true then ((path_Valid.f k a0).bind fun t231 => (if (t231 == (t227 == 0)) = true then ((path_Pattern.f k a0).bind fun t232 => ((tapearchiveref19_Pattern.f k a0).bind fun t233 => (if (t232 == t233) = true then (if t223 = 0 then ((path_Text.f k t222).bind fun t234 => (if t234.toList = a0.toList then ((tapearchivelaw19_awake.f k).bind fun t235 => (some t235)) else (some false))) else ((tapearchivelaw19_awake.f k).bind fun t236 => (some t236))) else (some false)))) else (some false))) else (some false))) else (some false)) = some r := H
    have A5 := Aside0.mk A50
    clear A50
    by_cases c6 : t223 = t227
    · rw [if_pos c6] at H
      have c6b0 : (t223 == t227) = true := beq_iff_eq.mpr c6
      have c6b1 : (t223 != t227) = false := bne_eq_false_iff_eq.mpr c6
      clear c6
      replace H := Option.bind_eq_some_iff.mp H
      obtain ⟨t230, A70, H⟩ := H
      replace H : (if t230 = true then ((path_Valid.f k a0).bind fun t231 => (if (t231 == (t227 == 0)) = true then ((path_Pattern.f k a0).bind fun t232 => ((tapearchiveref19_Pattern.f k a0).bind fun t233 => (if (t232 == t233) = true then (if t223 = 0 then ((path_Text.f k t222).bind fun t234 => (if t234.toList = a0.toList then ((tapearchivelaw19_awake.f k).bind fun t235 => (some t235)) else (some false))) else ((tapearchivelaw19_awake.f k).bind fun t236 => (some t236))) else (some false)))) else (some false))) else (some false)) = some r := H
      have A7 := Aside0.mk A70
      clear A70
      by_cases c8 : t230 = true
      · subst c8
        have H1 : ((path_Valid.f k a0).bind fun t231 => (if (t231 == (t227 == 0)) = true then ((path_Pattern.f k a0).bind fun t232 => ((tapearchiveref19_Pattern.f k a0).bind fun t233 => (if (t232 == t233) = true then (if t223 = 0 then ((path_Text.f k t222).bind fun t234 => (if t234.toList = a0.toList then ((tapearchivelaw19_awake.f k).bind fun t235 => (some t235)) else (some false))) else ((tapearchivelaw19_awake.f k).bind fun t236 => (some t236))) else (some false)))) else (some false))) = some r := by rw [if_pos rfl] at H; exact H
        clear H
        have H := H1
        clear H1
        replace H := Option.bind_eq_some_iff.mp H
        obtain ⟨t231, A90, H⟩ := H
        replace H : (if (t231 == (t227 == 0)) = true then ((path_Pattern.f k a0).bind fun t232 => ((tapearchiveref19_Pattern.f k a0).bind fun t233 => (if (t232 == t233) = true then (if t223 = 0 then ((path_Text.f k t222).bind fun t234 => (if t234.toList = a0.toList then ((tapearchivelaw19_awake.f k).bind fun t235 => (some t235)) else (some false))) else ((tapearchivelaw19_awake.f k).bind fun t236 => (some t236))) else (some false)))) else (some false)) = some r := H
        have A9 := Aside0.mk A90
        clear A90
        by_cases c10 : (t231 == (t227 == 0)) = true
        · rw [if_pos c10] at H
          have c10b0 : (t231 == (t227 == 0)) = true := c10
          (try (have c10b1 : decide (t231 = (t227 == 0)) = true := by simpa using c10))
          (try (have c10b2 : (t231 == (t227 == 0)) = true := by simpa using c10))
          clear c10
          replace H := Option.bind_eq_some_iff.mp H
          obtain ⟨t232, A110, H⟩ := H
          replace H : ((tapearchiveref19_Pattern.f k a0).bind fun t233 => (if (t232 == t233) = true then (if t223 = 0 then ((path_Text.f k t222).bind fun t234 => (if t234.toList = a0.toList then ((tapearchivelaw19_awake.f k).bind fun t235 => (some t235)) else (some false))) else ((tapearchivelaw19_awake.f k).bind fun t236 => (some t236))) else (some false))) = some r := H
          have A11 := Aside0.mk A110
          clear A110
          replace H := Option.bind_eq_some_iff.mp H
          obtain ⟨t233, A120, H⟩ := H
          replace H : (if (t232 == t233) = true then (if t223 = 0 then ((path_Text.f k t222).bind fun t234 => (if t234.toList = a0.toList then ((tapearchivelaw19_awake.f k).bind fun t235 => (some t235)) else (some false))) else ((tapearchivelaw19_awake.f k).bind fun t236 => (some t236))) else (some false)) = some r := H
          have A12 := Aside0.mk A120
          clear A120
          by_cases c13 : (t232 == t233) = true
          · rw [if_pos c13] at H
            have c13b0 : (t232 == t233) = true := c13
            (try (have c13b1 : decide (t232 = t233) = true := by simpa using c13))
            (try (have c13b2 : (t232 == t233) = true := by simpa using c13))
            clear c13
            by_cases c14 : t223 = 0
            · rw [if_pos c14] at H
              have c14b0 : (t223 == 0) = true := beq_iff_eq.mpr c14
              have c14b1 : (t223 != 0) = false := bne_eq_false_iff_eq.mpr c14
              clear c14
              replace H := Option.bind_eq_some_iff.mp H
              obtain ⟨t234, A150, H⟩ := H
              replace H : (if t234.toList = a0.toList then ((tapearchivelaw19_awake.f k).bind fun t235 => (some t235)) else (some false)) = some r := H
              have A15 := Aside0.mk A150
              clear A150
              by_cases c16 : t234.toList = a0.toList
              · rw [if_pos c16] at H
                have c16b0 : (t234.toList == a0.toList) = true := beq_iff_eq.mpr c16
                have c16b1 : (t234.toList != a0.toList) = false := bne_eq_false_iff_eq.mpr c16
                clear c16
                replace H := Option.bind_eq_some_iff.mp H
                obtain ⟨t235, A170, H⟩ := H
                replace H : (some t235) = some r := H
                have A17 := Aside0.mk A170
                clear A170
                obtain rfl := Option.some.inj H
                go_enter Tryd.func3, Tryd.ntmps3
                go_wp2_with (first | ((with_reducible refine gate_callee (f := 11) rfl ?_); refine goesL_ (some 8) rfl rfl Tryd.func11 (by kernel_rfl) rfl #[.string a0] rfl (by (try simp only [List.map_toArray, List.map_cons, List.map_nil]); first | done | rfl | (simp only [List.length_drop, List.length_take]; rfl)) ?_; (with_reducible refine (tapearchivelaw19_few.calls a0 true _ A2.out).mono ?_); rintro e w' ⟨rfl, ⟨nd, rfl⟩⟩; refine ⟨_, rfl, ?_⟩) | ((with_reducible refine gate_callee (f := 13) rfl ?_); refine goesL_ (some 13) rfl rfl Tryd.func13 (by kernel_rfl) rfl #[.string a0] rfl (by (try simp only [List.map_toArray, List.map_cons, List.map_nil]); first | done | rfl | (simp only [List.length_drop, List.length_take]; rfl)) ?_; (with_reducible refine (path_Parse.calls k a0 t222 t223 _ ?side1 A4.out).mono ?_); (case side1 => exact Go.Proofs.YtlcgepmacgbciaaDoorX.Glob.below hG (by repeat (first | (with_reducible first | exact HB.out | apply below_alloc | apply pw_below_drewN | apply below_drew1) | exact HB.out))); rintro e w18 ⟨v224, rfl, ho0, hb⟩; refine ⟨_, rfl, ?_⟩; have n0_ := Aside0.mk (Kd.R_lower ho0 (below_size (by repeat (first | (with_reducible first | exact HB.out | apply below_alloc | apply pw_below_drewN | apply below_drew1) | exact HB.out)))); have n1_ := Aside0.mk (below_step (by repeat (first | (with_reducible first | exact HB.out | apply below_alloc | apply pw_below_drewN | apply below_drew1) | exact HB.out)) hb); clear HB; have HO225 := n0_; have HB := n1_; clear n0_ n1_; (try clear hb); (try clear hb2); (try clear hk); (try clear hi); (try clear ho0)) | ((with_reducible refine gate_callee (f := 14) rfl ?_); refine goesL_ (some 18) rfl rfl Tryd.func14 (by kernel_rfl) rfl #[.string a0] rfl (by (try simp only [List.map_toArray, List.map_cons, List.map_nil]); first | done | rfl | (simp only [List.length_drop, List.length_take]; rfl)) ?_; (with_reducible refine (tapearchiveref19_Parse.calls k a0 t226 t227 _ A5.out).mono ?_); rintro e w19 ⟨v228, rfl, ho0, hb⟩; refine ⟨_, rfl, ?_⟩; have n0_ := Aside0.mk (Kd.R_elder' (by (with_reducible repeat (first | apply Kd.R_alloc | apply Kd.R_drewN | apply Kd.R_drew)); exact HO225.out) (Kd.R_base ho0) hb); have n1_ := Aside0.mk (Kd.R_lower (Kd.R_new' ho0 (Kd.R_lt (by (with_reducible repeat (first | apply Kd.R_alloc | apply Kd.R_drewN | apply Kd.R_drew)); exact HO225.out))) (below_size (by repeat (first | (with_reducible first | exact HB.out | apply below_alloc | apply pw_below_drewN | apply below_drew1) | exact HB.out)))); have n2_ := Aside0.mk (below_step (by repeat (first | (with_reducible first | exact HB.out | apply below_alloc | apply pw_below_drewN | apply below_drew1) | exact HB.out)) hb); clear HO225; clear HB; have HO225 := n0_; have HO229 := n1_; have HB := n2_; clear n0_ n1_ n2_; (try clear hb); (try clear hb2); (try clear hk); (try clear hi); (try clear ho0); obtain ⟨Ao20, co20, eo20⟩ := Kd.R_slice HO225.out; subst eo20; obtain ⟨Ao21, co21, eo21⟩ := Kd.R_slice HO229.out; subst eo21) | (go_at_call 15; (with_reducible refine (tapearchivelaw19_same.calls k _ _ t222 _ _ t226 true _ ?side1 ?side2 ?side3 ?side4 A7.out).mono ?_); (case side1 => repeat (first | exact (Kd.R_reads' HO225.out).2.2 | (with_reducible refine Kd.C_alloc ?_ _) | (with_reducible refine Kd.C_drewN ?_ _) | (with_reducible refine Kd.C_drew ?_))); (case side2 => exact (Kd.R_reads' HO225.out).2.1); (case side3 => repeat (first | exact (Kd.R_reads' HO229.out).2.2 | (with_reducible refine Kd.C_alloc ?_ _) | (with_reducible refine Kd.C_drewN ?_ _) | (with_reducible refine Kd.C_drew ?_))); (case side4 => exact (Kd.R_reads' HO229.out).2.1); rintro e w' ⟨rfl, ⟨nd, rfl⟩⟩) | (go_at_call 16; (with_reducible refine (path_Valid.calls k a0 t231 _ ?side1 A9.out).mono ?_); (case side1 => exact Go.Proofs.YtlcgepmacgbciaaDoorX.Glob.below hG (by repeat (first | (with_reducible first | exact HB.out | apply below_alloc | apply pw_below_drewN | apply below_drew1) | exact HB.out))); rintro e w22 ⟨rfl, hb⟩; have n0_ := Aside0.mk (Kd.R_below (by (with_reducible repeat (first | apply Kd.R_alloc | apply Kd.R_drewN | apply Kd.R_drew)); exact HO225.out) hb); have n1_ := Aside0.mk (Kd.R_below (by (with_reducible repeat (first | apply Kd.R_alloc | apply Kd.R_drewN | apply Kd.R_drew)); exact HO229.out) hb); have n2_ := Aside0.mk (below_step (by repeat (first | (with_reducible first | exact HB.out | apply below_alloc | apply pw_below_drewN | apply below_drew1) | exact HB.out)) hb); clear HO225; clear HO229; clear HB; have HO225 := n0_; have HO229 := n1_; have HB := n2_; clear n0_ n1_ n2_; (try clear hb); (try clear hb2); (try clear hk); (try clear hi)) | (go_at_call 17; (with_reducible refine (path_Pattern.calls k a0 t232 _ ?side1 A11.out).mono ?_); (case side1 => exact Go.Proofs.YtlcgepmacgbciaaDoorX.Glob.below hG (by repeat (first | (with_reducible first | exact HB.out | apply below_alloc | apply pw_below_drewN | apply below_drew1) | exact HB.out))); rintro e w23 ⟨rfl, hb⟩; have n0_ := Aside0.mk (Kd.R_below (by (with_reducible repeat (first | apply Kd.R_alloc | apply Kd.R_drewN | apply Kd.R_drew)); exact HO225.out) hb); have n1_ := Aside0.mk (Kd.R_below (by (with_reducible repeat (first | apply Kd.R_alloc | apply Kd.R_drewN | apply Kd.R_drew)); exact HO229.out) hb); have n2_ := Aside0.mk (below_step (by repeat (first | (with_reducible first | exact HB.out | apply below_alloc | apply pw_below_drewN | apply below_drew1) | exact HB.out)) hb); clear HO225; clear HO229; clear HB; have HO225 := n0_; have HO229 := n1_; have HB := n2_; clear n0_ n1_ n2_; (try clear hb); (try clear hb2); (try clear hk); (try clear hi)) | (go_at_call 18; (with_reducible refine (tapearchiveref19_Pattern.calls k a0 t233 _ A12.out).mono ?_); rintro e w24 ⟨rfl, hb⟩; have n0_ := Aside0.mk (Kd.R_below (by (with_reducible repeat (first | apply Kd.R_alloc | apply Kd.R_drewN | apply Kd.R_drew)); exact HO225.out) hb); have n1_ := Aside0.mk (Kd.R_below (by (with_reducible repeat (first | apply Kd.R_alloc | apply Kd.R_drewN | apply Kd.R_drew)); exact HO229.out) hb); have n2_ := Aside0.mk (below_step (by repeat (first | (with_reducible first | exact HB.out | apply below_alloc | apply pw_below_drewN | apply below_drew1) | exact HB.out)) hb); clear HO225; clear HO229; clear HB; have HO225 := n0_; have HO229 := n1_; have HB := n2_; clear n0_ n1_ n2_; (try clear hb); (try clear hb2); (try clear hk); (try clear hi)) | (go_at_call 19; (with_reducible refine (path_Text.calls k _ _ t222 t234 _ ?side3 ?side1 ?side2 A15.out).mono ?_); (case side1 => repeat (first | exact (Kd.R_reads' HO225.out).2.2 | (with_reducible refine Kd.C_alloc ?_ _) | (with_reducible refine Kd.C_drewN ?_ _) | (with_reducible refine Kd.C_drew ?_))); (case side2 => exact (Kd.R_reads' HO225.out).2.1); (case side3 => exact Go.Proofs.YtlcgepmacgbciaaDoorX.Glob.below hG (by repeat (first | (with_reducible first | exact HB.out | apply below_alloc | apply pw_below_drewN | apply below_drew1) | exact HB.out))); rintro e w25 ⟨rfl, hb⟩; have n0_ := Aside0.mk (Kd.R_below (by (with_reducible repeat (first | apply Kd.R_alloc | apply Kd.R_drewN | apply Kd.R_drew)); exact HO225.out) hb); have n1_ := Aside0.mk (Kd.R_below (by (with_reducible repeat (first | apply Kd.R_alloc | apply Kd.R_drewN | apply Kd.R_drew)); exact HO229.out) hb); have n2_ := Aside0.mk (below_step (by repeat (first | (with_reducible first | exact HB.out | apply below_alloc | apply pw_below_drewN | apply below_drew1) | exact HB.out)) hb); clear HO225; clear HO229; clear HB; have HO225 := n0_; have HO229 := n1_; have HB := n2_; clear n0_ n1_ n2_; (try clear hb); (try clear hb2); (try clear hk); (try clear hi)) | (go_at_call 12; (with_reducible refine (tapearchivelaw19_awake.calls k  t235 _ ?side1 A17.out).mono ?_); (case side1 => exact Go.Proofs.YtlcgepmacgbciaaDoorX.Glob.below hG (by repeat (first | (with_reducible first | exact HB.out | apply below_alloc | apply pw_below_drewN | apply below_drew1) | exact HB.out))); rintro e w26 ⟨rfl, hb⟩; have n0_ := Aside0.mk (Kd.R_below (by (with_reducible repeat (first | apply Kd.R_alloc | apply Kd.R_drewN | apply Kd.R_drew)); exact HO225.out) hb); have n1_ := Aside0.mk (Kd.R_below (by (with_reducible repeat (first | apply Kd.R_alloc | apply Kd.R_drewN | apply Kd.R_drew)); exact HO229.out) hb); have n2_ := Aside0.mk (below_step (by repeat (first | (with_reducible first | exact HB.out | apply below_alloc | apply pw_below_drewN | apply below_drew1) | exact HB.out)) hb); clear HO225; clear HO229; clear HB; have HO225 := n0_; have HO229 := n1_; have HB := n2_; clear n0_ n1_ n2_; (try clear hb); (try clear hb2); (try clear hk); (try clear hi)))
                go_ret
                exact ⟨by first | rfl | (simp [errW_none, errW_some] <;> rfl) | (simp [*, errW_none, errW_some] <;> rfl), by repeat (first | (with_reducible first | exact HB.out | apply below_alloc | apply pw_below_drewN | apply below_drew1) | exact HB.out)⟩
              · rw [if_neg c16] at H
                have c16b0 : (t234.toList == a0.toList) = false := beq_eq_false_iff_ne.mpr c16
                have c16b1 : (t234.toList != a0.toList) = true := bne_iff_ne.mpr c16
                obtain rfl := Option.some.inj H
                go_enter Tryd.func3, Tryd.ntmps3
                go_wp2_with (first | ((with_reducible refine gate_callee (f := 11) rfl ?_); refine goesL_ (some 8) rfl rfl Tryd.func11 (by kernel_rfl) rfl #[.string a0] rfl (by (try simp only [List.map_toArray, List.map_cons, List.map_nil]); first | done | rfl | (simp only [List.length_drop, List.length_take]; rfl)) ?_; (with_reducible refine (tapearchivelaw19_few.calls a0 true _ A2.out).mono ?_); rintro e w' ⟨rfl, ⟨nd, rfl⟩⟩; refine ⟨_, rfl, ?_⟩) | ((with_reducible refine gate_callee (f := 13) rfl ?_); refine goesL_ (some 13) rfl rfl Tryd.func13 (by kernel_rfl) rfl #[.string a0] rfl (by (try simp only [List.map_toArray, List.map_cons, List.map_nil]); first | done | rfl | (simp only [List.length_drop, List.length_take]; rfl)) ?_; (with_reducible refine (path_Parse.calls k a0 t222 t223 _ ?side1 A4.out).mono ?_); (case side1 => exact Go.Proofs.YtlcgepmacgbciaaDoorX.Glob.below hG (by repeat (first | (with_reducible first | exact HB.out | apply below_alloc | apply pw_below_drewN | apply below_drew1) | exact HB.out))); rintro e w27 ⟨v224, rfl, ho0, hb⟩; refine ⟨_, rfl, ?_⟩; have n0_ := Aside0.mk (Kd.R_lower ho0 (below_size (by repeat (first | (with_reducible first | exact HB.out | apply below_alloc | apply pw_below_drewN | apply below_drew1) | exact HB.out)))); have n1_ := Aside0.mk (below_step (by repeat (first | (with_reducible first | exact HB.out | apply below_alloc | apply pw_below_drewN | apply below_drew1) | exact HB.out)) hb); clear HB; have HO225 := n0_; have HB := n1_; clear n0_ n1_; (try clear hb); (try clear hb2); (try clear hk); (try clear hi); (try clear ho0)) | ((with_reducible refine gate_callee (f := 14) rfl ?_); refine goesL_ (some 18) rfl rfl Tryd.func14 (by kernel_rfl) rfl #[.string a0] rfl (by (try simp only [List.map_toArray, List.map_cons, List.map_nil]); first | done | rfl | (simp only [List.length_drop, List.length_take]; rfl)) ?_; (with_reducible refine (tapearchiveref19_Parse.calls k a0 t226 t227 _ A5.out).mono ?_); rintro e w28 ⟨v228, rfl, ho0, hb⟩; refine ⟨_, rfl, ?_⟩; have n0_ := Aside0.mk (Kd.R_elder' (by (with_reducible repeat (first | apply Kd.R_alloc | apply Kd.R_drewN | apply Kd.R_drew)); exact HO225.out) (Kd.R_base ho0) hb); have n1_ := Aside0.mk (Kd.R_lower (Kd.R_new' ho0 (Kd.R_lt (by (with_reducible repeat (first | apply Kd.R_alloc | apply Kd.R_drewN | apply Kd.R_drew)); exact HO225.out))) (below_size (by repeat (first | (with_reducible first | exact HB.out | apply below_alloc | apply pw_below_drewN | apply below_drew1) | exact HB.out)))); have n2_ := Aside0.mk (below_step (by repeat (first | (with_reducible first | exact HB.out | apply below_alloc | apply pw_below_drewN | apply below_drew1) | exact HB.out)) hb); clear HO225; clear HB; have HO225 := n0_; have HO229 := n1_; have HB := n2_; clear n0_ n1_ n2_; (try clear hb); (try clear hb2); (try clear hk); (try clear hi); (try clear ho0); obtain ⟨Ao29, co29, eo29⟩ := Kd.R_slice HO225.out; subst eo29; obtain ⟨Ao30, co30, eo30⟩ := Kd.R_slice HO229.out; subst eo30) | (go_at_call 15; (with_reducible refine (tapearchivelaw19_same.calls k _ _ t222 _ _ t226 true _ ?side1 ?side2 ?side3 ?side4 A7.out).mono ?_); (case side1 => repeat (first | exact (Kd.R_reads' HO225.out).2.2 | (with_reducible refine Kd.C_alloc ?_ _) | (with_reducible refine Kd.C_drewN ?_ _) | (with_reducible refine Kd.C_drew ?_))); (case side2 => exact (Kd.R_reads' HO225.out).2.1); (case side3 => repeat (first | exact (Kd.R_reads' HO229.out).2.2 | (with_reducible refine Kd.C_alloc ?_ _) | (with_reducible refine Kd.C_drewN ?_ _) | (with_reducible refine Kd.C_drew ?_))); (case side4 => exact (Kd.R_reads' HO229.out).2.1); rintro e w' ⟨rfl, ⟨nd, rfl⟩⟩) | (go_at_call 16; (with_reducible refine (path_Valid.calls k a0 t231 _ ?side1 A9.out).mono ?_); (case side1 => exact Go.Proofs.YtlcgepmacgbciaaDoorX.Glob.below hG (by repeat (first | (with_reducible first | exact HB.out | apply below_alloc | apply pw_below_drewN | apply below_drew1) | exact HB.out))); rintro e w31 ⟨rfl, hb⟩; have n0_ := Aside0.mk (Kd.R_below (by (with_reducible repeat (first | apply Kd.R_alloc | apply Kd.R_drewN | apply Kd.R_drew)); exact HO225.out) hb); have n1_ := Aside0.mk (Kd.R_below (by (with_reducible repeat (first | apply Kd.R_alloc | apply Kd.R_drewN | apply Kd.R_drew)); exact HO229.out) hb); have n2_ := Aside0.mk (below_step (by repeat (first | (with_reducible first | exact HB.out | apply below_alloc | apply pw_below_drewN | apply below_drew1) | exact HB.out)) hb); clear HO225; clear HO229; clear HB; have HO225 := n0_; have HO229 := n1_; have HB := n2_; clear n0_ n1_ n2_; (try clear hb); (try clear hb2); (try clear hk); (try clear hi)) | (go_at_call 17; (with_reducible refine (path_Pattern.calls k a0 t232 _ ?side1 A11.out).mono ?_); (case side1 => exact Go.Proofs.YtlcgepmacgbciaaDoorX.Glob.below hG (by repeat (first | (with_reducible first | exact HB.out | apply below_alloc | apply pw_below_drewN | apply below_drew1) | exact HB.out))); rintro e w32 ⟨rfl, hb⟩; have n0_ := Aside0.mk (Kd.R_below (by (with_reducible repeat (first | apply Kd.R_alloc | apply Kd.R_drewN | apply Kd.R_drew)); exact HO225.out) hb); have n1_ := Aside0.mk (Kd.R_below (by (with_reducible repeat (first | apply Kd.R_alloc | apply Kd.R_drewN | apply Kd.R_drew)); exact HO229.out) hb); have n2_ := Aside0.mk (below_step (by repeat (first | (with_reducible first | exact HB.out | apply below_alloc | apply pw_below_drewN | apply below_drew1) | exact HB.out)) hb); clear HO225; clear HO229; clear HB; have HO225 := n0_; have HO229 := n1_; have HB := n2_; clear n0_ n1_ n2_; (try clear hb); (try clear hb2); (try clear hk); (try clear hi)) | (go_at_call 18; (with_reducible refine (tapearchiveref19_Pattern.calls k a0 t233 _ A12.out).mono ?_); rintro e w33 ⟨rfl, hb⟩; have n0_ := Aside0.mk (Kd.R_below (by (with_reducible repeat (first | apply Kd.R_alloc | apply Kd.R_drewN | apply Kd.R_drew)); exact HO225.out) hb); have n1_ := Aside0.mk (Kd.R_below (by (with_reducible repeat (first | apply Kd.R_alloc | apply Kd.R_drewN | apply Kd.R_drew)); exact HO229.out) hb); have n2_ := Aside0.mk (below_step (by repeat (first | (with_reducible first | exact HB.out | apply below_alloc | apply pw_below_drewN | apply below_drew1) | exact HB.out)) hb); clear HO225; clear HO229; clear HB; have HO225 := n0_; have HO229 := n1_; have HB := n2_; clear n0_ n1_ n2_; (try clear hb); (try clear hb2); (try clear hk); (try clear hi)) | (go_at_call 19; (with_reducible refine (path_Text.calls k _ _ t222 t234 _ ?side3 ?side1 ?side2 A15.out).mono ?_); (case side1 => repeat (first | exact (Kd.R_reads' HO225.out).2.2 | (with_reducible refine Kd.C_alloc ?_ _) | (with_reducible refine Kd.C_drewN ?_ _) | (with_reducible refine Kd.C_drew ?_))); (case side2 => exact (Kd.R_reads' HO225.out).2.1); (case side3 => exact Go.Proofs.YtlcgepmacgbciaaDoorX.Glob.below hG (by repeat (first | (with_reducible first | exact HB.out | apply below_alloc | apply pw_below_drewN | apply below_drew1) | exact HB.out))); rintro e w34 ⟨rfl, hb⟩; have n0_ := Aside0.mk (Kd.R_below (by (with_reducible repeat (first | apply Kd.R_alloc | apply Kd.R_drewN | apply Kd.R_drew)); exact HO225.out) hb); have n1_ := Aside0.mk (Kd.R_below (by (with_reducible repeat (first | apply Kd.R_alloc | apply Kd.R_drewN | apply Kd.R_drew)); exact HO229.out) hb); have n2_ := Aside0.mk (below_step (by repeat (first | (with_reducible first | exact HB.out | apply below_alloc | apply pw_below_drewN | apply below_drew1) | exact HB.out)) hb); clear HO225; clear HO229; clear HB; have HO225 := n0_; have HO229 := n1_; have HB := n2_; clear n0_ n1_ n2_; (try clear hb); (try clear hb2); (try clear hk); (try clear hi)))
                go_ret
                exact ⟨by first | rfl | (simp [errW_none, errW_some] <;> rfl) | (simp [*, errW_none, errW_some] <;> rfl), by repeat (first | (with_reducible first | exact HB.out | apply below_alloc | apply pw_below_drewN | apply below_drew1) | exact HB.out)⟩
            · rw [if_neg c14] at H
              have c14b0 : (t223 == 0) = false := beq_eq_false_iff_ne.mpr c14
              have c14b1 : (t223 != 0) = true := bne_iff_ne.mpr c14
              replace H := Option.bind_eq_some_iff.mp H
              obtain ⟨t236, A350, H⟩ := H
              replace H : (some t236) = some r := H
              have A35 := Aside0.mk A350
              clear A350
              obtain rfl := Option.some.inj H
              go_enter Tryd.func3, Tryd.ntmps3
              go_wp2_with (first | ((with_reducible refine gate_callee (f := 11) rfl ?_); refine goesL_ (some 8) rfl rfl Tryd.func11 (by kernel_rfl) rfl #[.string a0] rfl (by (try simp only [List.map_toArray, List.map_cons, List.map_nil]); first | done | rfl | (simp only [List.length_drop, List.length_take]; rfl)) ?_; (with_reducible refine (tapearchivelaw19_few.calls a0 true _ A2.out).mono ?_); rintro e w' ⟨rfl, ⟨nd, rfl⟩⟩; refine ⟨_, rfl, ?_⟩) | ((with_reducible refine gate_callee (f := 13) rfl ?_); refine goesL_ (some 13) rfl rfl Tryd.func13 (by kernel_rfl) rfl #[.string a0] rfl (by (try simp only [List.map_toArray, List.map_cons, List.map_nil]); first | done | rfl | (simp only [List.length_drop, List.length_take]; rfl)) ?_; (with_reducible refine (path_Parse.calls k a0 t222 t223 _ ?side1 A4.out).mono ?_); (case side1 => exact Go.Proofs.YtlcgepmacgbciaaDoorX.Glob.below hG (by repeat (first | (with_reducible first | exact HB.out | apply below_alloc | apply pw_below_drewN | apply below_drew1) | exact HB.out))); rintro e w36 ⟨v224, rfl, ho0, hb⟩; refine ⟨_, rfl, ?_⟩; have n0_ := Aside0.mk (Kd.R_lower ho0 (below_size (by repeat (first | (with_reducible first | exact HB.out | apply below_alloc | apply pw_below_drewN | apply below_drew1) | exact HB.out)))); have n1_ := Aside0.mk (below_step (by repeat (first | (with_reducible first | exact HB.out | apply below_alloc | apply pw_below_drewN | apply below_drew1) | exact HB.out)) hb); clear HB; have HO225 := n0_; have HB := n1_; clear n0_ n1_; (try clear hb); (try clear hb2); (try clear hk); (try clear hi); (try clear ho0)) | ((with_reducible refine gate_callee (f := 14) rfl ?_); refine goesL_ (some 18) rfl rfl Tryd.func14 (by kernel_rfl) rfl #[.string a0] rfl (by (try simp only [List.map_toArray, List.map_cons, List.map_nil]); first | done | rfl | (simp only [List.length_drop, List.length_take]; rfl)) ?_; (with_reducible refine (tapearchiveref19_Parse.calls k a0 t226 t227 _ A5.out).mono ?_); rintro e w37 ⟨v228, rfl, ho0, hb⟩; refine ⟨_, rfl, ?_⟩; have n0_ := Aside0.mk (Kd.R_elder' (by (with_reducible repeat (first | apply Kd.R_alloc | apply Kd.R_drewN | apply Kd.R_drew)); exact HO225.out) (Kd.R_base ho0) hb); have n1_ := Aside0.mk (Kd.R_lower (Kd.R_new' ho0 (Kd.R_lt (by (with_reducible repeat (first | apply Kd.R_alloc | apply Kd.R_drewN | apply Kd.R_drew)); exact HO225.out))) (below_size (by repeat (first | (with_reducible first | exact HB.out | apply below_alloc | apply pw_below_drewN | apply below_drew1) | exact HB.out)))); have n2_ := Aside0.mk (below_step (by repeat (first | (with_reducible first | exact HB.out | apply below_alloc | apply pw_below_drewN | apply below_drew1) | exact HB.out)) hb); clear HO225; clear HB; have HO225 := n0_; have HO229 := n1_; have HB := n2_; clear n0_ n1_ n2_; (try clear hb); (try clear hb2); (try clear hk); (try clear hi); (try clear ho0); obtain ⟨Ao38, co38, eo38⟩ := Kd.R_slice HO225.out; subst eo38; obtain ⟨Ao39, co39, eo39⟩ := Kd.R_slice HO229.out; subst eo39) | (go_at_call 15; (with_reducible refine (tapearchivelaw19_same.calls k _ _ t222 _ _ t226 true _ ?side1 ?side2 ?side3 ?side4 A7.out).mono ?_); (case side1 => repeat (first | exact (Kd.R_reads' HO225.out).2.2 | (with_reducible refine Kd.C_alloc ?_ _) | (with_reducible refine Kd.C_drewN ?_ _) | (with_reducible refine Kd.C_drew ?_))); (case side2 => exact (Kd.R_reads' HO225.out).2.1); (case side3 => repeat (first | exact (Kd.R_reads' HO229.out).2.2 | (with_reducible refine Kd.C_alloc ?_ _) | (with_reducible refine Kd.C_drewN ?_ _) | (with_reducible refine Kd.C_drew ?_))); (case side4 => exact (Kd.R_reads' HO229.out).2.1); rintro e w' ⟨rfl, ⟨nd, rfl⟩⟩) | (go_at_call 16; (with_reducible refine (path_Valid.calls k a0 t231 _ ?side1 A9.out).mono ?_); (case side1 => exact Go.Proofs.YtlcgepmacgbciaaDoorX.Glob.below hG (by repeat (first | (with_reducible first | exact HB.out | apply below_alloc | apply pw_below_drewN | apply below_drew1) | exact HB.out))); rintro e w40 ⟨rfl, hb⟩; have n0_ := Aside0.mk (Kd.R_below (by (with_reducible repeat (first | apply Kd.R_alloc | apply Kd.R_drewN | apply Kd.R_drew)); exact HO225.out) hb); have n1_ := Aside0.mk (Kd.R_below (by (with_reducible repeat (first | apply Kd.R_alloc | apply Kd.R_drewN | apply Kd.R_drew)); exact HO229.out) hb); have n2_ := Aside0.mk (below_step (by repeat (first | (with_reducible first | exact HB.out | apply below_alloc | apply pw_below_drewN | apply below_drew1) | exact HB.out)) hb); clear HO225; clear HO229; clear HB; have HO225 := n0_; have HO229 := n1_; have HB := n2_; clear n0_ n1_ n2_; (try clear hb); (try clear hb2); (try clear hk); (try clear hi)) | (go_at_call 17; (with_reducible refine (path_Pattern.calls k a0 t232 _ ?side1 A11.out).mono ?_); (case side1 => exact Go.Proofs.YtlcgepmacgbciaaDoorX.Glob.below hG (by repeat (first | (with_reducible first | exact HB.out | apply below_alloc | apply pw_below_drewN | apply below_drew1) | exact HB.out))); rintro e w41 ⟨rfl, hb⟩; have n0_ := Aside0.mk (Kd.R_below (by (with_reducible repeat (first | apply Kd.R_alloc | apply Kd.R_drewN | apply Kd.R_drew)); exact HO225.out) hb); have n1_ := Aside0.mk (Kd.R_below (by (with_reducible repeat (first | apply Kd.R_alloc | apply Kd.R_drewN | apply Kd.R_drew)); exact HO229.out) hb); have n2_ := Aside0.mk (below_step (by repeat (first | (with_reducible first | exact HB.out | apply below_alloc | apply pw_below_drewN | apply below_drew1) | exact HB.out)) hb); clear HO225; clear HO229; clear HB; have HO225 := n0_; have HO229 := n1_; have HB := n2_; clear n0_ n1_ n2_; (try clear hb); (try clear hb2); (try clear hk); (try clear hi)) | (go_at_call 18; (with_reducible refine (tapearchiveref19_Pattern.calls k a0 t233 _ A12.out).mono ?_); rintro e w42 ⟨rfl, hb⟩; have n0_ := Aside0.mk (Kd.R_below (by (with_reducible repeat (first | apply Kd.R_alloc | apply Kd.R_drewN | apply Kd.R_drew)); exact HO225.out) hb); have n1_ := Aside0.mk (Kd.R_below (by (with_reducible repeat (first | apply Kd.R_alloc | apply Kd.R_drewN | apply Kd.R_drew)); exact HO229.out) hb); have n2_ := Aside0.mk (below_step (by repeat (first | (with_reducible first | exact HB.out | apply below_alloc | apply pw_below_drewN | apply below_drew1) | exact HB.out)) hb); clear HO225; clear HO229; clear HB; have HO225 := n0_; have HO229 := n1_; have HB := n2_; clear n0_ n1_ n2_; (try clear hb); (try clear hb2); (try clear hk); (try clear hi)) | (go_at_call 12; (with_reducible refine (tapearchivelaw19_awake.calls k  t236 _ ?side1 A35.out).mono ?_); (case side1 => exact Go.Proofs.YtlcgepmacgbciaaDoorX.Glob.below hG (by repeat (first | (with_reducible first | exact HB.out | apply below_alloc | apply pw_below_drewN | apply below_drew1) | exact HB.out))); rintro e w43 ⟨rfl, hb⟩; have n0_ := Aside0.mk (Kd.R_below (by (with_reducible repeat (first | apply Kd.R_alloc | apply Kd.R_drewN | apply Kd.R_drew)); exact HO225.out) hb); have n1_ := Aside0.mk (Kd.R_below (by (with_reducible repeat (first | apply Kd.R_alloc | apply Kd.R_drewN | apply Kd.R_drew)); exact HO229.out) hb); have n2_ := Aside0.mk (below_step (by repeat (first | (with_reducible first | exact HB.out | apply below_alloc | apply pw_below_drewN | apply below_drew1) | exact HB.out)) hb); clear HO225; clear HO229; clear HB; have HO225 := n0_; have HO229 := n1_; have HB := n2_; clear n0_ n1_ n2_; (try clear hb); (try clear hb2); (try clear hk); (try clear hi)))
              go_ret
              exact ⟨by first | rfl | (simp [errW_none, errW_some] <;> rfl) | (simp [*, errW_none, errW_some] <;> rfl), by repeat (first | (with_reducible first | exact HB.out | apply below_alloc | apply pw_below_drewN | apply below_drew1) | exact HB.out)⟩
          · rw [if_neg c13] at H
            have c13b0 : (t232 == t233) = false := by simpa using c13
            (try (have c13b1 : decide (t232 = t233) = false := by simpa using c13))
            (try (have c13b2 : (t232 == t233) = false := by simpa using c13))
            (try (have c13b3 : ¬ (t232 = t233) := by simpa using c13))
            clear c13
            obtain rfl := Option.some.inj H
            go_enter Tryd.func3, Tryd.ntmps3
            go_wp2_with (first | ((with_reducible refine gate_callee (f := 11) rfl ?_); refine goesL_ (some 8) rfl rfl Tryd.func11 (by kernel_rfl) rfl #[.string a0] rfl (by (try simp only [List.map_toArray, List.map_cons, List.map_nil]); first | done | rfl | (simp only [List.length_drop, List.length_take]; rfl)) ?_; (with_reducible refine (tapearchivelaw19_few.calls a0 true _ A2.out).mono ?_); rintro e w' ⟨rfl, ⟨nd, rfl⟩⟩; refine ⟨_, rfl, ?_⟩) | ((with_reducible refine gate_callee (f := 13) rfl ?_); refine goesL_ (some 13) rfl rfl Tryd.func13 (by kernel_rfl) rfl #[.string a0] rfl (by (try simp only [List.map_toArray, List.map_cons, List.map_nil]); first | done | rfl | (simp only [List.length_drop, List.length_take]; rfl)) ?_; (with_reducible refine (path_Parse.calls k a0 t222 t223 _ ?side1 A4.out).mono ?_); (case side1 => exact Go.Proofs.YtlcgepmacgbciaaDoorX.Glob.below hG (by repeat (first | (with_reducible first | exact HB.out | apply below_alloc | apply pw_below_drewN | apply below_drew1) | exact HB.out))); rintro e w44 ⟨v224, rfl, ho0, hb⟩; refine ⟨_, rfl, ?_⟩; have n0_ := Aside0.mk (Kd.R_lower ho0 (below_size (by repeat (first | (with_reducible first | exact HB.out | apply below_alloc | apply pw_below_drewN | apply below_drew1) | exact HB.out)))); have n1_ := Aside0.mk (below_step (by repeat (first | (with_reducible first | exact HB.out | apply below_alloc | apply pw_below_drewN | apply below_drew1) | exact HB.out)) hb); clear HB; have HO225 := n0_; have HB := n1_; clear n0_ n1_; (try clear hb); (try clear hb2); (try clear hk); (try clear hi); (try clear ho0)) | ((with_reducible refine gate_callee (f := 14) rfl ?_); refine goesL_ (some 18) rfl rfl Tryd.func14 (by kernel_rfl) rfl #[.string a0] rfl (by (try simp only [List.map_toArray, List.map_cons, List.map_nil]); first | done | rfl | (simp only [List.length_drop, List.length_take]; rfl)) ?_; (with_reducible refine (tapearchiveref19_Parse.calls k a0 t226 t227 _ A5.out).mono ?_); rintro e w45 ⟨v228, rfl, ho0, hb⟩; refine ⟨_, rfl, ?_⟩; have n0_ := Aside0.mk (Kd.R_elder' (by (with_reducible repeat (first | apply Kd.R_alloc | apply Kd.R_drewN | apply Kd.R_drew)); exact HO225.out) (Kd.R_base ho0) hb); have n1_ := Aside0.mk (Kd.R_lower (Kd.R_new' ho0 (Kd.R_lt (by (with_reducible repeat (first | apply Kd.R_alloc | apply Kd.R_drewN | apply Kd.R_drew)); exact HO225.out))) (below_size (by repeat (first | (with_reducible first | exact HB.out | apply below_alloc | apply pw_below_drewN | apply below_drew1) | exact HB.out)))); have n2_ := Aside0.mk (below_step (by repeat (first | (with_reducible first | exact HB.out | apply below_alloc | apply pw_below_drewN | apply below_drew1) | exact HB.out)) hb); clear HO225; clear HB; have HO225 := n0_; have HO229 := n1_; have HB := n2_; clear n0_ n1_ n2_; (try clear hb); (try clear hb2); (try clear hk); (try clear hi); (try clear ho0); obtain ⟨Ao46, co46, eo46⟩ := Kd.R_slice HO225.out; subst eo46; obtain ⟨Ao47, co47, eo47⟩ := Kd.R_slice HO229.out; subst eo47) | (go_at_call 15; (with_reducible refine (tapearchivelaw19_same.calls k _ _ t222 _ _ t226 true _ ?side1 ?side2 ?side3 ?side4 A7.out).mono ?_); (case side1 => repeat (first | exact (Kd.R_reads' HO225.out).2.2 | (with_reducible refine Kd.C_alloc ?_ _) | (with_reducible refine Kd.C_drewN ?_ _) | (with_reducible refine Kd.C_drew ?_))); (case side2 => exact (Kd.R_reads' HO225.out).2.1); (case side3 => repeat (first | exact (Kd.R_reads' HO229.out).2.2 | (with_reducible refine Kd.C_alloc ?_ _) | (with_reducible refine Kd.C_drewN ?_ _) | (with_reducible refine Kd.C_drew ?_))); (case side4 => exact (Kd.R_reads' HO229.out).2.1); rintro e w' ⟨rfl, ⟨nd, rfl⟩⟩) | (go_at_call 16; (with_reducible refine (path_Valid.calls k a0 t231 _ ?side1 A9.out).mono ?_); (case side1 => exact Go.Proofs.YtlcgepmacgbciaaDoorX.Glob.below hG (by repeat (first | (with_reducible first | exact HB.out | apply below_alloc | apply pw_below_drewN | apply below_drew1) | exact HB.out))); rintro e w48 ⟨rfl, hb⟩; have n0_ := Aside0.mk (Kd.R_below (by (with_reducible repeat (first | apply Kd.R_alloc | apply Kd.R_drewN | apply Kd.R_drew)); exact HO225.out) hb); have n1_ := Aside0.mk (Kd.R_below (by (with_reducible repeat (first | apply Kd.R_alloc | apply Kd.R_drewN | apply Kd.R_drew)); exact HO229.out) hb); have n2_ := Aside0.mk (below_step (by repeat (first | (with_reducible first | exact HB.out | apply below_alloc | apply pw_below_drewN | apply below_drew1) | exact HB.out)) hb); clear HO225; clear HO229; clear HB; have HO225 := n0_; have HO229 := n1_; have HB := n2_; clear n0_ n1_ n2_; (try clear hb); (try clear hb2); (try clear hk); (try clear hi)) | (go_at_call 17; (with_reducible refine (path_Pattern.calls k a0 t232 _ ?side1 A11.out).mono ?_); (case side1 => exact Go.Proofs.YtlcgepmacgbciaaDoorX.Glob.below hG (by repeat (first | (with_reducible first | exact HB.out | apply below_alloc | apply pw_below_drewN | apply below_drew1) | exact HB.out))); rintro e w49 ⟨rfl, hb⟩; have n0_ := Aside0.mk (Kd.R_below (by (with_reducible repeat (first | apply Kd.R_alloc | apply Kd.R_drewN | apply Kd.R_drew)); exact HO225.out) hb); have n1_ := Aside0.mk (Kd.R_below (by (with_reducible repeat (first | apply Kd.R_alloc | apply Kd.R_drewN | apply Kd.R_drew)); exact HO229.out) hb); have n2_ := Aside0.mk (below_step (by repeat (first | (with_reducible first | exact HB.out | apply below_alloc | apply pw_below_drewN | apply below_drew1) | exact HB.out)) hb); clear HO225; clear HO229; clear HB; have HO225 := n0_; have HO229 := n1_; have HB := n2_; clear n0_ n1_ n2_; (try clear hb); (try clear hb2); (try clear hk); (try clear hi)) | (go_at_call 18; (with_reducible refine (tapearchiveref19_Pattern.calls k a0 t233 _ A12.out).mono ?_); rintro e w50 ⟨rfl, hb⟩; have n0_ := Aside0.mk (Kd.R_below (by (with_reducible repeat (first | apply Kd.R_alloc | apply Kd.R_drewN | apply Kd.R_drew)); exact HO225.out) hb); have n1_ := Aside0.mk (Kd.R_below (by (with_reducible repeat (first | apply Kd.R_alloc | apply Kd.R_drewN | apply Kd.R_drew)); exact HO229.out) hb); have n2_ := Aside0.mk (below_step (by repeat (first | (with_reducible first | exact HB.out | apply below_alloc | apply pw_below_drewN | apply below_drew1) | exact HB.out)) hb); clear HO225; clear HO229; clear HB; have HO225 := n0_; have HO229 := n1_; have HB := n2_; clear n0_ n1_ n2_; (try clear hb); (try clear hb2); (try clear hk); (try clear hi)))
            go_ret
            exact ⟨by first | rfl | (simp [errW_none, errW_some] <;> rfl) | (simp [*, errW_none, errW_some] <;> rfl), by repeat (first | (with_reducible first | exact HB.out | apply below_alloc | apply pw_below_drewN | apply below_drew1) | exact HB.out)⟩
        · rw [if_neg c10] at H
          have c10b0 : (t231 == (t227 == 0)) = false := by simpa using c10
          (try (have c10b1 : decide (t231 = (t227 == 0)) = false := by simpa using c10))
          (try (have c10b2 : (t231 == (t227 == 0)) = false := by simpa using c10))
          (try (have c10b3 : ¬ (t231 = (t227 == 0)) := by simpa using c10))
          clear c10
          obtain rfl := Option.some.inj H
          go_enter Tryd.func3, Tryd.ntmps3
          go_wp2_with (first | ((with_reducible refine gate_callee (f := 11) rfl ?_); refine goesL_ (some 8) rfl rfl Tryd.func11 (by kernel_rfl) rfl #[.string a0] rfl (by (try simp only [List.map_toArray, List.map_cons, List.map_nil]); first | done | rfl | (simp only [List.length_drop, List.length_take]; rfl)) ?_; (with_reducible refine (tapearchivelaw19_few.calls a0 true _ A2.out).mono ?_); rintro e w' ⟨rfl, ⟨nd, rfl⟩⟩; refine ⟨_, rfl, ?_⟩) | ((with_reducible refine gate_callee (f := 13) rfl ?_); refine goesL_ (some 13) rfl rfl Tryd.func13 (by kernel_rfl) rfl #[.string a0] rfl (by (try simp only [List.map_toArray, List.map_cons, List.map_nil]); first | done | rfl | (simp only [List.length_drop, List.length_take]; rfl)) ?_; (with_reducible refine (path_Parse.calls k a0 t222 t223 _ ?side1 A4.out).mono ?_); (case side1 => exact Go.Proofs.YtlcgepmacgbciaaDoorX.Glob.below hG (by repeat (first | (with_reducible first | exact HB.out | apply below_alloc | apply pw_below_drewN | apply below_drew1) | exact HB.out))); rintro e w51 ⟨v224, rfl, ho0, hb⟩; refine ⟨_, rfl, ?_⟩; have n0_ := Aside0.mk (Kd.R_lower ho0 (below_size (by repeat (first | (with_reducible first | exact HB.out | apply below_alloc | apply pw_below_drewN | apply below_drew1) | exact HB.out)))); have n1_ := Aside0.mk (below_step (by repeat (first | (with_reducible first | exact HB.out | apply below_alloc | apply pw_below_drewN | apply below_drew1) | exact HB.out)) hb); clear HB; have HO225 := n0_; have HB := n1_; clear n0_ n1_; (try clear hb); (try clear hb2); (try clear hk); (try clear hi); (try clear ho0)) | ((with_reducible refine gate_callee (f := 14) rfl ?_); refine goesL_ (some 18) rfl rfl Tryd.func14 (by kernel_rfl) rfl #[.string a0] rfl (by (try simp only [List.map_toArray, List.map_cons, List.map_nil]); first | done | rfl | (simp only [List.length_drop, List.length_take]; rfl)) ?_; (with_reducible refine (tapearchiveref19_Parse.calls k a0 t226 t227 _ A5.out).mono ?_); rintro e w52 ⟨v228, rfl, ho0, hb⟩; refine ⟨_, rfl, ?_⟩; have n0_ := Aside0.mk (Kd.R_elder' (by (with_reducible repeat (first | apply Kd.R_alloc | apply Kd.R_drewN | apply Kd.R_drew)); exact HO225.out) (Kd.R_base ho0) hb); have n1_ := Aside0.mk (Kd.R_lower (Kd.R_new' ho0 (Kd.R_lt (by (with_reducible repeat (first | apply Kd.R_alloc | apply Kd.R_drewN | apply Kd.R_drew)); exact HO225.out))) (below_size (by repeat (first | (with_reducible first | exact HB.out | apply below_alloc | apply pw_below_drewN | apply below_drew1) | exact HB.out)))); have n2_ := Aside0.mk (below_step (by repeat (first | (with_reducible first | exact HB.out | apply below_alloc | apply pw_below_drewN | apply below_drew1) | exact HB.out)) hb); clear HO225; clear HB; have HO225 := n0_; have HO229 := n1_; have HB := n2_; clear n0_ n1_ n2_; (try clear hb); (try clear hb2); (try clear hk); (try clear hi); (try clear ho0); obtain ⟨Ao53, co53, eo53⟩ := Kd.R_slice HO225.out; subst eo53; obtain ⟨Ao54, co54, eo54⟩ := Kd.R_slice HO229.out; subst eo54) | (go_at_call 15; (with_reducible refine (tapearchivelaw19_same.calls k _ _ t222 _ _ t226 true _ ?side1 ?side2 ?side3 ?side4 A7.out).mono ?_); (case side1 => repeat (first | exact (Kd.R_reads' HO225.out).2.2 | (with_reducible refine Kd.C_alloc ?_ _) | (with_reducible refine Kd.C_drewN ?_ _) | (with_reducible refine Kd.C_drew ?_))); (case side2 => exact (Kd.R_reads' HO225.out).2.1); (case side3 => repeat (first | exact (Kd.R_reads' HO229.out).2.2 | (with_reducible refine Kd.C_alloc ?_ _) | (with_reducible refine Kd.C_drewN ?_ _) | (with_reducible refine Kd.C_drew ?_))); (case side4 => exact (Kd.R_reads' HO229.out).2.1); rintro e w' ⟨rfl, ⟨nd, rfl⟩⟩) | (go_at_call 16; (with_reducible refine (path_Valid.calls k a0 t231 _ ?side1 A9.out).mono ?_); (case side1 => exact Go.Proofs.YtlcgepmacgbciaaDoorX.Glob.below hG (by repeat (first | (with_reducible first | exact HB.out | apply below_alloc | apply pw_below_drewN | apply below_drew1) | exact HB.out))); rintro e w55 ⟨rfl, hb⟩; have n0_ := Aside0.mk (Kd.R_below (by (with_reducible repeat (first | apply Kd.R_alloc | apply Kd.R_drewN | apply Kd.R_drew)); exact HO225.out) hb); have n1_ := Aside0.mk (Kd.R_below (by (with_reducible repeat (first | apply Kd.R_alloc | apply Kd.R_drewN | apply Kd.R_drew)); exact HO229.out) hb); have n2_ := Aside0.mk (below_step (by repeat (first | (with_reducible first | exact HB.out | apply below_alloc | apply pw_below_drewN | apply below_drew1) | exact HB.out)) hb); clear HO225; clear HO229; clear HB; have HO225 := n0_; have HO229 := n1_; have HB := n2_; clear n0_ n1_ n2_; (try clear hb); (try clear hb2); (try clear hk); (try clear hi)))
          go_ret
          exact ⟨by first | rfl | (simp [errW_none, errW_some] <;> rfl) | (simp [*, errW_none, errW_some] <;> rfl), by repeat (first | (with_reducible first | exact HB.out | apply below_alloc | apply pw_below_drewN | apply below_drew1) | exact HB.out)⟩
      · replace c8 := Bool.eq_false_iff.mpr c8
        subst c8
        have H1 : (some false) = some r := by rw [if_neg (show ¬ (false = true) by decide)] at H; exact H
        clear H
        have H := H1
        clear H1
        obtain rfl := Option.some.inj H
        go_enter Tryd.func3, Tryd.ntmps3
        go_wp2_with (first | ((with_reducible refine gate_callee (f := 11) rfl ?_); refine goesL_ (some 8) rfl rfl Tryd.func11 (by kernel_rfl) rfl #[.string a0] rfl (by (try simp only [List.map_toArray, List.map_cons, List.map_nil]); first | done | rfl | (simp only [List.length_drop, List.length_take]; rfl)) ?_; (with_reducible refine (tapearchivelaw19_few.calls a0 true _ A2.out).mono ?_); rintro e w' ⟨rfl, ⟨nd, rfl⟩⟩; refine ⟨_, rfl, ?_⟩) | ((with_reducible refine gate_callee (f := 13) rfl ?_); refine goesL_ (some 13) rfl rfl Tryd.func13 (by kernel_rfl) rfl #[.string a0] rfl (by (try simp only [List.map_toArray, List.map_cons, List.map_nil]); first | done | rfl | (simp only [List.length_drop, List.length_take]; rfl)) ?_; (with_reducible refine (path_Parse.calls k a0 t222 t223 _ ?side1 A4.out).mono ?_); (case side1 => exact Go.Proofs.YtlcgepmacgbciaaDoorX.Glob.below hG (by repeat (first | (with_reducible first | exact HB.out | apply below_alloc | apply pw_below_drewN | apply below_drew1) | exact HB.out))); rintro e w56 ⟨v224, rfl, ho0, hb⟩; refine ⟨_, rfl, ?_⟩; have n0_ := Aside0.mk (Kd.R_lower ho0 (below_size (by repeat (first | (with_reducible first | exact HB.out | apply below_alloc | apply pw_below_drewN | apply below_drew1) | exact HB.out)))); have n1_ := Aside0.mk (below_step (by repeat (first | (with_reducible first | exact HB.out | apply below_alloc | apply pw_below_drewN | apply below_drew1) | exact HB.out)) hb); clear HB; have HO225 := n0_; have HB := n1_; clear n0_ n1_; (try clear hb); (try clear hb2); (try clear hk); (try clear hi); (try clear ho0)) | ((with_reducible refine gate_callee (f := 14) rfl ?_); refine goesL_ (some 18) rfl rfl Tryd.func14 (by kernel_rfl) rfl #[.string a0] rfl (by (try simp only [List.map_toArray, List.map_cons, List.map_nil]); first | done | rfl | (simp only [List.length_drop, List.length_take]; rfl)) ?_; (with_reducible refine (tapearchiveref19_Parse.calls k a0 t226 t227 _ A5.out).mono ?_); rintro e w57 ⟨v228, rfl, ho0, hb⟩; refine ⟨_, rfl, ?_⟩; have n0_ := Aside0.mk (Kd.R_elder' (by (with_reducible repeat (first | apply Kd.R_alloc | apply Kd.R_drewN | apply Kd.R_drew)); exact HO225.out) (Kd.R_base ho0) hb); have n1_ := Aside0.mk (Kd.R_lower (Kd.R_new' ho0 (Kd.R_lt (by (with_reducible repeat (first | apply Kd.R_alloc | apply Kd.R_drewN | apply Kd.R_drew)); exact HO225.out))) (below_size (by repeat (first | (with_reducible first | exact HB.out | apply below_alloc | apply pw_below_drewN | apply below_drew1) | exact HB.out)))); have n2_ := Aside0.mk (below_step (by repeat (first | (with_reducible first | exact HB.out | apply below_alloc | apply pw_below_drewN | apply below_drew1) | exact HB.out)) hb); clear HO225; clear HB; have HO225 := n0_; have HO229 := n1_; have HB := n2_; clear n0_ n1_ n2_; (try clear hb); (try clear hb2); (try clear hk); (try clear hi); (try clear ho0); obtain ⟨Ao58, co58, eo58⟩ := Kd.R_slice HO225.out; subst eo58; obtain ⟨Ao59, co59, eo59⟩ := Kd.R_slice HO229.out; subst eo59) | (go_at_call 15; (with_reducible refine (tapearchivelaw19_same.calls k _ _ t222 _ _ t226 false _ ?side1 ?side2 ?side3 ?side4 A7.out).mono ?_); (case side1 => repeat (first | exact (Kd.R_reads' HO225.out).2.2 | (with_reducible refine Kd.C_alloc ?_ _) | (with_reducible refine Kd.C_drewN ?_ _) | (with_reducible refine Kd.C_drew ?_))); (case side2 => exact (Kd.R_reads' HO225.out).2.1); (case side3 => repeat (first | exact (Kd.R_reads' HO229.out).2.2 | (with_reducible refine Kd.C_alloc ?_ _) | (with_reducible refine Kd.C_drewN ?_ _) | (with_reducible refine Kd.C_drew ?_))); (case side4 => exact (Kd.R_reads' HO229.out).2.1); rintro e w' ⟨rfl, ⟨nd, rfl⟩⟩))
        go_ret
        exact ⟨by first | rfl | (simp [errW_none, errW_some] <;> rfl) | (simp [*, errW_none, errW_some] <;> rfl), by repeat (first | (with_reducible first | exact HB.out | apply below_alloc | apply pw_below_drewN | apply below_drew1) | exact HB.out)⟩
    · rw [if_neg c6] at H
      have c6b0 : (t223 == t227) = false := beq_eq_false_iff_ne.mpr c6
      have c6b1 : (t223 != t227) = true := bne_iff_ne.mpr c6
      obtain rfl := Option.some.inj H
      go_enter Tryd.func3, Tryd.ntmps3
      go_wp2_with (first | ((with_reducible refine gate_callee (f := 11) rfl ?_); refine goesL_ (some 8) rfl rfl Tryd.func11 (by kernel_rfl) rfl #[.string a0] rfl (by (try simp only [List.map_toArray, List.map_cons, List.map_nil]); first | done | rfl | (simp only [List.length_drop, List.length_take]; rfl)) ?_; (with_reducible refine (tapearchivelaw19_few.calls a0 true _ A2.out).mono ?_); rintro e w' ⟨rfl, ⟨nd, rfl⟩⟩; refine ⟨_, rfl, ?_⟩) | ((with_reducible refine gate_callee (f := 13) rfl ?_); refine goesL_ (some 13) rfl rfl Tryd.func13 (by kernel_rfl) rfl #[.string a0] rfl (by (try simp only [List.map_toArray, List.map_cons, List.map_nil]); first | done | rfl | (simp only [List.length_drop, List.length_take]; rfl)) ?_; (with_reducible refine (path_Parse.calls k a0 t222 t223 _ ?side1 A4.out).mono ?_); (case side1 => exact Go.Proofs.YtlcgepmacgbciaaDoorX.Glob.below hG (by repeat (first | (with_reducible first | exact HB.out | apply below_alloc | apply pw_below_drewN | apply below_drew1) | exact HB.out))); rintro e w60 ⟨v224, rfl, ho0, hb⟩; refine ⟨_, rfl, ?_⟩; have n0_ := Aside0.mk (Kd.R_lower ho0 (below_size (by repeat (first | (with_reducible first | exact HB.out | apply below_alloc | apply pw_below_drewN | apply below_drew1) | exact HB.out)))); have n1_ := Aside0.mk (below_step (by repeat (first | (with_reducible first | exact HB.out | apply below_alloc | apply pw_below_drewN | apply below_drew1) | exact HB.out)) hb); clear HB; have HO225 := n0_; have HB := n1_; clear n0_ n1_; (try clear hb); (try clear hb2); (try clear hk); (try clear hi); (try clear ho0)) | ((with_reducible refine gate_callee (f := 14) rfl ?_); refine goesL_ (some 18) rfl rfl Tryd.func14 (by kernel_rfl) rfl #[.string a0] rfl (by (try simp only [List.map_toArray, List.map_cons, List.map_nil]); first | done | rfl | (simp only [List.length_drop, List.length_take]; rfl)) ?_; (with_reducible refine (tapearchiveref19_Parse.calls k a0 t226 t227 _ A5.out).mono ?_); rintro e w61 ⟨v228, rfl, ho0, hb⟩; refine ⟨_, rfl, ?_⟩; have n0_ := Aside0.mk (Kd.R_elder' (by (with_reducible repeat (first | apply Kd.R_alloc | apply Kd.R_drewN | apply Kd.R_drew)); exact HO225.out) (Kd.R_base ho0) hb); have n1_ := Aside0.mk (Kd.R_lower (Kd.R_new' ho0 (Kd.R_lt (by (with_reducible repeat (first | apply Kd.R_alloc | apply Kd.R_drewN | apply Kd.R_drew)); exact HO225.out))) (below_size (by repeat (first | (with_reducible first | exact HB.out | apply below_alloc | apply pw_below_drewN | apply below_drew1) | exact HB.out)))); have n2_ := Aside0.mk (below_step (by repeat (first | (with_reducible first | exact HB.out | apply below_alloc | apply pw_below_drewN | apply below_drew1) | exact HB.out)) hb); clear HO225; clear HB; have HO225 := n0_; have HO229 := n1_; have HB := n2_; clear n0_ n1_ n2_; (try clear hb); (try clear hb2); (try clear hk); (try clear hi); (try clear ho0)))
      go_ret
      exact ⟨by first | rfl | (simp [errW_none, errW_some] <;> rfl) | (simp [*, errW_none, errW_some] <;> rfl), by repeat (first | (with_reducible first | exact HB.out | apply below_alloc | apply pw_below_drewN | apply below_drew1) | exact HB.out)⟩
  · replace c3 := Bool.eq_false_iff.mpr c3
    subst c3
    have H1 : ((tapearchivelaw19_awake.f k).bind fun t221 => (some t221)) = some r := by rw [if_neg (show ¬ (false = true) by decide)] at H; exact H
    clear H
    have H := H1
    clear H1
    replace H := Option.bind_eq_some_iff.mp H
    obtain ⟨t221, A620, H⟩ := H
    replace H : (some t221) = some r := H
    have A62 := Aside0.mk A620
    clear A620
    obtain rfl := Option.some.inj H
    go_enter Tryd.func3, Tryd.ntmps3
    go_wp2_with (first | ((with_reducible refine gate_callee (f := 11) rfl ?_); refine goesL_ (some 8) rfl rfl Tryd.func11 (by kernel_rfl) rfl #[.string a0] rfl (by (try simp only [List.map_toArray, List.map_cons, List.map_nil]); first | done | rfl | (simp only [List.length_drop, List.length_take]; rfl)) ?_; (with_reducible refine (tapearchivelaw19_few.calls a0 false _ A2.out).mono ?_); rintro e w' ⟨rfl, ⟨nd, rfl⟩⟩; refine ⟨_, rfl, ?_⟩) | ((with_reducible refine gate_callee (f := 12) rfl ?_); refine goesL_ (some 10) rfl rfl Tryd.func12 (by kernel_rfl) rfl #[] rfl (by (try simp only [List.map_toArray, List.map_cons, List.map_nil]); first | done | rfl | (simp only [List.length_drop, List.length_take]; rfl)) ?_; (with_reducible refine (tapearchivelaw19_awake.calls k  t221 _ ?side1 A62.out).mono ?_); (case side1 => exact Go.Proofs.YtlcgepmacgbciaaDoorX.Glob.below hG (by repeat (first | (with_reducible first | exact HB.out | apply below_alloc | apply pw_below_drewN | apply below_drew1) | exact HB.out))); rintro e w63 ⟨rfl, hb⟩; refine ⟨_, rfl, ?_⟩; have n0_ := Aside0.mk (below_step (by repeat (first | (with_reducible first | exact HB.out | apply below_alloc | apply pw_below_drewN | apply below_drew1) | exact HB.out)) hb); clear HB; have HB := n0_; clear n0_; (try clear hb); (try clear hb2); (try clear hk); (try clear hi)))
    go_ret
    exact ⟨by first | rfl | (simp [errW_none, errW_some] <;> rfl) | (simp [*, errW_none, errW_some] <;> rfl), by repeat (first | (with_reducible first | exact HB.out | apply below_alloc | apply pw_below_drewN | apply below_drew1) | exact HB.out)⟩
end Go.Proofs.YtlcgepmacgbciaaDoor.Q
end
section
namespace Go.Proofs.YtlcgepmacgbciaaDoor.SPathParses
open Go.RowKit Go.Proofs.YtlcgepmacgbciaaDoor.Q Go.Proofs.YtlcgepmacgbciaaDoorW.PrintWords Go.Proofs.YtlcgepmacgbciaaDoorW.PrintLast Go.Proofs.YtlcgepmacgbciaaDoorW.Opens Go.Proofs.YtlcgepmacgbciaaDoorW
set_option linter.unusedVariables false
def Pure : Prop := ∀ (x0 : ByteArray), x0.size ≤ 140737488351232 → ∃ k, tapearchivelaw19_PathParses.f k x0 = some true
end Go.Proofs.YtlcgepmacgbciaaDoor.SPathParses
end
section
namespace Go.Proofs.YtlcgepmacgbciaaDoor.Pth
variable {α β : Type} (st : α → Bool) (mt : α → β → Bool)
def glob : List α → List β → Bool
  | [], l => l.isEmpty
  | c :: p, l => if st c = true then (List.range (l.length + 1)).any fun i => glob p (l.drop i) else match l with
    | [] => false
    | x :: r => mt c x && glob p r
def lit (p : List α) (l : List β) : Prop := p.length = l.length ∧ (∀ c ∈ p, st c = false) ∧ ∀ (i : Nat) (h : i < p.length) (h' : i < l.length), mt p[i] l[i] = true
end Go.Proofs.YtlcgepmacgbciaaDoor.Pth
end
section
namespace Go.Proofs.YtlcgepmacgbciaaDoor.Pth
open Go.RowKit Go.Proofs.YtlcgepmacgbciaaDoorW.PrintWords Go.Proofs.YtlcgepmacgbciaaDoorW.EvMore
abbrev B := List UInt8
def mk (l : B) : ByteArray := ⟨l.toArray⟩
theorem bs_of_mk (l : B) : bs (mk l) = l := rfl
theorem mk_of_bs (s : ByteArray) : mk (bs s) = s := bs_inj rfl
theorem mk_size (l : B) : (mk l).size = l.length := rfl
theorem mk_toList (l : B) : (mk l).toList = l := toList_bs _
def pmtN (pat : Bool) (n : Nat) : Bool :=
  (decide (97 ≤ n) && decide (n ≤ 122)) || (decide (65 ≤ n) && decide (n ≤ 90)) || (decide (48 ≤ n) && decide (n ≤ 57)) || decide (n = 46) || decide (n = 95) || decide (n = 45) || (pat && (decide (n = 42) || decide (n = 63)))
def pmt (pat : Bool) (c : UInt8) : Bool := pmtN pat c.toNat
def nm (pat : Bool) (l : B) : Bool := !(l == []) && !(l == [46]) && !(l == [46, 46]) && l.all (pmt pat)
def pieces : B → List B
  | [] => [[]]
  | c :: r => if c = 47 then [] :: pieces r else match pieces r with
    | [] => [[c]]
    | p :: ps => (c :: p) :: ps
def parseS (pat : Bool) (l : B) : List B × Int :=
  if 200 < l.length then ([], 6)
  else match l with
    | [] => ([], 1)
    | c :: r => if c = 47 then
        if (pieces r).all (nm pat) = true then (if (pieces r).any (fun x => decide (24 < x.length)) = true ∨ 8 < (pieces r).length then ([], 6) else (pieces r, 0)) else ([], 1)
      else ([], 1)
def outS (p : List B × Int) : List ByteArray × Int := (p.1.map mk, p.2)
def cat (l : List B) : B := (l.map fun x => 47 :: x).flatten
theorem pieces_ne : ∀ l : B, pieces l ≠ []
  | [] => by simp [pieces]
  | c :: r => by
    unfold pieces
    split
    · simp
    · split <;> simp
theorem pieces_no : ∀ {l : B}, 47 ∉ l → pieces l = [l]
  | [], _ => rfl
  | c :: r, h => by
    have h1 : c ≠ 47 := fun e => h (by simp [e])
    have h2 := pieces_no (l := r) fun e => h (by simp [e])
    unfold pieces
    rw [if_neg h1, h2]
theorem pieces_cut : ∀ {a b : B}, 47 ∉ a → pieces (a ++ 47 :: b) = a :: pieces b
  | [], b, _ => by simp [pieces]
  | c :: r, b, h => by
    have h1 : c ≠ 47 := fun e => h (by simp [e])
    have h2 := pieces_cut (a := r) (b := b) fun e => h (by simp [e])
    rw [List.cons_append]
    conv => lhs; unfold pieces
    rw [if_neg h1, h2]
theorem pieces_pre : ∀ {a b : B}, 47 ∉ a → ∃ p ps, pieces b = p :: ps ∧ pieces (a ++ b) = (a ++ p) :: ps
  | [], b, _ => by
    cases h : pieces b with
    | nil => exact absurd h (pieces_ne b)
    | cons p ps => exact ⟨p, ps, rfl, by simpa using h⟩
  | c :: r, b, h => by
    have h1 : c ≠ 47 := fun e => h (by simp [e])
    obtain ⟨p, ps, h2, h3⟩ := pieces_pre (a := r) (b := b) fun e => h (by simp [e])
    refine ⟨p, ps, h2, ?_⟩
    rw [List.cons_append]
    conv => lhs; unfold pieces
    rw [if_neg h1, h3]
    rfl
theorem cut_cases (l : B) : 47 ∉ l ∨ ∃ a b, l = a ++ 47 :: b ∧ 47 ∉ a := by
  induction l with
  | nil => left; simp
  | cons c r ih =>
    by_cases hc : c = 47
    · right; exact ⟨[], r, by simp [hc], by simp⟩
    · rcases ih with h | ⟨a, b, h1, h2⟩
      · left; simp [h]; exact fun e => hc e.symm
      · right; exact ⟨c :: a, b, by simp [h1], by simp [h2]; exact fun e => hc e.symm⟩
theorem pieces_len : ∀ l : B, (pieces l).length ≤ l.length + 1
  | [] => by simp [pieces]
  | c :: r => by
    have ih := pieces_len r
    unfold pieces
    split
    · simp; omega
    · split
      · simp
      · rename_i p ps h; rw [h] at ih; simp at ih ⊢; omega
theorem pieces_join : ∀ (l : B), cat (pieces l) = 47 :: l
  | [] => rfl
  | c :: r => by
    have ih := pieces_join r
    unfold pieces
    split
    · rename_i hc
      subst hc
      simp only [cat, List.map_cons, List.flatten_cons, List.cons_append, List.nil_append] at ih ⊢
      rw [ih]
    · split
      · rename_i e; exact absurd e (pieces_ne r)
      · rename_i q qs e
        rw [e] at ih
        simp only [cat, List.map_cons, List.flatten_cons, List.cons_append] at ih ⊢
        rw [List.cons.injEq] at ih
        rw [ih.2]
theorem parseS_ok {pat : Bool} {l : B} (h : (parseS pat l).2 = 0) : ∃ r, l = 47 :: r ∧ l.length ≤ 200 ∧ (parseS pat l).1 = pieces r ∧ (pieces r).all (nm pat) = true ∧ (∀ x ∈ pieces r, x.length ≤ 24) ∧ (pieces r).length ≤ 8 := by
  unfold parseS at h ⊢
  split at h
  · simp at h
  rename_i h200
  rw [if_neg h200]
  split at h
  · simp at h
  · rename_i c r
    split at h
    · rename_i hc
      split at h
      · rename_i ha
        split at h
        · simp at h
        · rename_i hb
          rw [not_or] at hb
          refine ⟨r, by rw [hc], by omega, ?_, ha, ?_, by omega⟩
          · simp only [if_pos hc, if_pos ha]
            rw [if_neg (by rw [not_or]; exact hb)]
          · intro x hx
            have := hb.1
            simp at this
            exact this x hx
      · simp at h
    · simp at h
theorem parseS_none {pat : Bool} {l : B} (h : (parseS pat l).2 ≠ 0) : (parseS pat l).1 = [] := by
  unfold parseS at h ⊢
  split
  · rfl
  · rename_i h200
    rw [if_neg h200] at h
    cases l with
    | nil => rfl
    | cons c r =>
      simp only at h ⊢
      split
      · rename_i hc
        rw [if_pos hc] at h
        split
        · rename_i ha
          rw [if_pos ha] at h
          split
          · rfl
          · rename_i hb; rw [if_neg hb] at h; simp at h
        · rfl
      · rfl
theorem pmt_mono {c : UInt8} (h : pmt false c = true) : pmt true c = true := by
  unfold pmt pmtN at h ⊢
  simp only [Bool.false_and, Bool.or_false] at h
  rw [h]; simp
theorem parseS_cat {pat : Bool} {l : B} (h : (parseS pat l).2 = 0) : cat (parseS pat l).1 = l := by
  obtain ⟨r, h1, h2, h3, h4, h5, h6⟩ := parseS_ok h
  rw [h3, pieces_join, h1]
def textS (l : List B) : B := if parseS false (cat l) = (l, 0) then cat l else []
theorem textS_parse {l : B} (h : (parseS false l).2 = 0) : textS (parseS false l).1 = l := by
  unfold textS
  rw [if_pos, parseS_cat h]
  rw [parseS_cat h]
  exact Prod.ext rfl h
end Go.Proofs.YtlcgepmacgbciaaDoor.Pth
end
section
namespace Go.Proofs.YtlcgepmacgbciaaDoor.Q
open Go.RowKit Go.Proofs.YtlcgepmacgbciaaDoorW.PrintWords Go.Proofs.YtlcgepmacgbciaaDoorW.PrintLast Go.Proofs.YtlcgepmacgbciaaDoorW.PrintMore
attribute [local go_sem] max2_int min2_int max_two min_two max_three min_three max_four min_four
attribute [local go_sem ↓] isSome_setCell
attribute [local go_sem] string_gtr
set_option linter.unusedVariables false
set_option linter.unusedSimpArgs false
end Go.Proofs.YtlcgepmacgbciaaDoor.Q
end
section
namespace Go.Proofs.YtlcgepmacgbciaaDoor.Q
open Go.RowKit Go.Proofs.YtlcgepmacgbciaaDoorW.PrintWords Go.Proofs.YtlcgepmacgbciaaDoorW.PrintLast Go.Proofs.YtlcgepmacgbciaaDoorW.PrintMore
attribute [local go_sem] max2_int min2_int max_two min_two max_three min_three max_four min_four
attribute [local go_sem ↓] isSome_setCell
attribute [local go_sem] string_gtr
set_option linter.unusedVariables false
set_option linter.unusedSimpArgs false
end Go.Proofs.YtlcgepmacgbciaaDoor.Q
end
section
namespace Go.Proofs.YtlcgepmacgbciaaDoor.Q
open Go.RowKit Go.Proofs.YtlcgepmacgbciaaDoorW.PrintWords Go.Proofs.YtlcgepmacgbciaaDoorW.PrintLast Go.Proofs.YtlcgepmacgbciaaDoorW.PrintMore
attribute [local go_sem] max2_int min2_int max_two min_two max_three min_three max_four min_four
attribute [local go_sem ↓] isSome_setCell
attribute [local go_sem] string_gtr
set_option linter.unusedVariables false
set_option linter.unusedSimpArgs false
end Go.Proofs.YtlcgepmacgbciaaDoor.Q
end
section
namespace Go.Proofs.YtlcgepmacgbciaaDoor.Q
open Go.RowKit Go.Proofs.YtlcgepmacgbciaaDoorW.PrintWords Go.Proofs.YtlcgepmacgbciaaDoorW.PrintLast Go.Proofs.YtlcgepmacgbciaaDoorW.PrintMore
attribute [local go_sem] max2_int min2_int max_two min_two max_three min_three max_four min_four
attribute [local go_sem ↓] isSome_setCell
attribute [local go_sem] string_gtr
set_option linter.unusedVariables false
set_option linter.unusedSimpArgs false
end Go.Proofs.YtlcgepmacgbciaaDoor.Q
end
section
namespace Go.Proofs.YtlcgepmacgbciaaDoor.Q
open Go.RowKit Go.Proofs.YtlcgepmacgbciaaDoorW.PrintWords Go.Proofs.YtlcgepmacgbciaaDoorW.PrintLast Go.Proofs.YtlcgepmacgbciaaDoorW.PrintMore
attribute [local go_sem] max2_int min2_int max_two min_two max_three min_three max_four min_four
attribute [local go_sem ↓] isSome_setCell
attribute [local go_sem] string_gtr
set_option linter.unusedVariables false
set_option linter.unusedSimpArgs false
end Go.Proofs.YtlcgepmacgbciaaDoor.Q
end
section
namespace Go.Proofs.YtlcgepmacgbciaaDoor.Q
open Go.RowKit Go.Proofs.YtlcgepmacgbciaaDoorW.PrintWords Go.Proofs.YtlcgepmacgbciaaDoorW.PrintLast Go.Proofs.YtlcgepmacgbciaaDoorW.PrintMore
attribute [local go_sem] max2_int min2_int max_two min_two max_three min_three max_four min_four
attribute [local go_sem ↓] isSome_setCell
attribute [local go_sem] string_gtr
set_option linter.unusedVariables false
set_option linter.unusedSimpArgs false
end Go.Proofs.YtlcgepmacgbciaaDoor.Q
end
section
namespace Go.Proofs.YtlcgepmacgbciaaDoor.Pth
open Go.RowKit Go.Proofs.YtlcgepmacgbciaaDoor.Q Go.Proofs.YtlcgepmacgbciaaDoorW.PrintWords Go.Proofs.YtlcgepmacgbciaaDoorW.PrintMore Go.Proofs.YtlcgepmacgbciaaDoorW.EvMore
theorem permitted_ev (c : UInt8) (pat : Bool) : Ev (fun k => path_permitted.f k (c.toNat : Int) pat) (pmt pat c) := by
  refine Ev.of (fun k => path_permitted.mono _ _ k) (k := 3) ?_
  have key : ∀ n : Fin 256, ∀ pat : Bool, path_permitted.f 3 (n.val : Int) pat = some (pmtN pat n.val) := by decide +kernel
  exact key ⟨c.toNat, c.toNat_lt⟩ pat
theorem plain_f (c : UInt8) : tapearchiveref19_plain.f (c.toNat : Int) = some (pmt false c) := by
  have key : ∀ n : Fin 256, tapearchiveref19_plain.f (n.val : Int) = some (pmtN false n.val) := by decide +kernel
  exact key ⟨c.toNat, c.toNat_lt⟩
theorem name_loop (s : ByteArray) (pat : Bool) (hs : s.size ≤ 4611686018427387904) : ∀ (d i : Nat), i + d = s.size → Ev (fun k => path_name.l0 k s pat (s.size : Int) (i : Int)) (((bs s).drop i).all (pmt pat)) := by
  intro d
  induction d with
  | zero =>
    intro i hi
    refine Ev.next (fun k => by rw [path_name.l0]) ?_
    refine Ev.neg (by omega) ?_
    rw [List.drop_of_length_le (by rw [bs_length]; omega)]
    exact Ev.done fun _ => rfl
  | succ d ih =>
    intro i hi
    have hl : i < (bs s).length := by rw [bs_length]; omega
    refine Ev.next (fun k => by rw [path_name.l0]) ?_
    refine Ev.pos (by omega) (Ev.pos (by omega) (Ev.pos (by omega) ?_))
    rw [bt_get s i _ (List.getElem?_eq_getElem hl), List.drop_eq_getElem_cons hl, List.all_cons]
    refine Ev.both (permitted_ev _ pat) ?_
    have ih := ih (i + 1) (by omega)
    cases h : pmt pat (bs s)[i] with
    | true =>
      refine Ev.pos rfl ?_
      rw [wrap_in (by omega) (by omega), show (i : Int) + 1 = ((i + 1 : Nat) : Int) from rfl, Bool.true_and]
      exact ih
    | false => exact Ev.neg (by simp) (Ev.done fun _ => rfl)
theorem name_ev (s : ByteArray) (pat : Bool) (hs : s.size ≤ 4611686018427387904) : Ev (fun k => path_name.f k s pat) (nm pat (bs s)) := by
  have hall := name_loop s pat hs s.size 0 (by omega)
  rw [List.drop_zero] at hall
  unfold path_name.f nm
  rw [toList_bs]
  have bad : Ev (fun k => path_name.j0 k s pat true) false := Ev.next (fun k => by rw [path_name.j0]) (Ev.pos rfl (Ev.done fun _ => rfl))
  by_cases h0 : bs s = []
  · refine Ev.pos h0 ?_
    rw [h0]
    exact bad
  refine Ev.neg h0 ?_
  by_cases h1 : bs s = [46]
  · refine Ev.pos h1 ?_
    rw [h1]
    exact bad
  refine Ev.neg h1 ?_
  rw [beq_false_of_ne h0, beq_false_of_ne h1]
  cases h2 : bs s == [46, 46] with
  | true => exact bad
  | false => exact Ev.next (fun k => by rw [path_name.j0]) (Ev.neg (by simp) (by simpa using hall))
theorem occ_one (c : UInt8) (l : B) (h : c ∉ l) : Lib.indexByte l c = -1 := by
  have hg := Lib.indexByte_ge l c
  by_cases h1 : Lib.indexByte l c = -1
  · exact h1
  · obtain ⟨o, ho⟩ : ∃ o : Nat, Lib.indexByte l c = o := ⟨(Lib.indexByte l c).toNat, by omega⟩
    exact absurd (List.mem_of_getElem? (Lib.indexByte_some ho).1) h
theorem cut_none {l : B} (h : 47 ∉ l) : Lib.cut l [47] = (l, [], false) := by
  unfold Lib.cut
  rw [Lib.index_one, occ_one 47 l h]
  rfl
theorem cut_some {a b : B} (h : 47 ∉ a) : Lib.cut (a ++ 47 :: b) [47] = (a, b, true) := by
  have e : Lib.indexByte (a ++ 47 :: b) 47 = (a.length : Int) := by
    cases ho : Lib.indexByte (a ++ 47 :: b) 47 with
    | ofNat o =>
      obtain ⟨h1, h2⟩ := Lib.indexByte_some (o := o) ho
      by_cases h3 : o < a.length
      · rw [List.getElem?_append_left h3] at h1
        exact absurd (List.mem_of_getElem? h1) h
      · by_cases h4 : a.length < o
        · exact absurd (by simp) (h2 a.length h4)
        · show (o : Int) = _
          omega
    | negSucc n =>
      have hg := Lib.indexByte_ge (a ++ 47 :: b) 47
      have e : Lib.indexByte (a ++ 47 :: b) 47 = -1 := by rw [ho] at hg ⊢; omega
      exact absurd (by simp) (Lib.indexByte_none e a.length)
  unfold Lib.cut
  rw [Lib.index_one, e, if_pos (by omega)]
  simp
def finS (pat : Bool) (l : B) (names : List ByteArray) (long : Bool) : List ByteArray × Int :=
  if (pieces l).all (nm pat) = true then (if long = true ∨ (pieces l).any (fun x => decide (24 < x.length)) = true ∨ 8 < names.length + (pieces l).length then ([], 6) else (names ++ (pieces l).map mk, 0)) else ([], 1)
theorem parse_loop (pat : Bool) : ∀ (n : Nat) (s : ByteArray) (names : List ByteArray) (long : Bool), s.size ≤ n → s.size + names.length ≤ 2000000000 → Ev (fun k => path_parse.l0 k pat s names long) (finS pat (bs s) names long) := by
  intro n
  induction n with
  | zero =>
    intro s names long h0 hs
    refine Ev.next (fun k => by rw [path_parse.l0]) ?_
    have hb : bs s = [] := List.length_eq_zero_iff.1 (by rw [bs_length]; omega)
    have hc : strings_Cut.f s ⟨#[47]⟩ = some (mk [], mk [], false) := by
      unfold strings_Cut.f
      rw [if_pos (by omega), show s.data.toList = bs s from rfl, hb]
      rfl
    refine Ev.bindS hc (Ev.both (name_ev (mk []) pat (by rw [mk_size]; simp)) (Ev.neg (by simp [bs_of_mk, nm]) (Ev.done fun _ => ?_)))
    unfold finS
    rw [if_neg]
    rw [hb]
    simp [pieces, nm]
  | succ n ih =>
    intro s names long h0 hs
    refine Ev.next (fun k => by rw [path_parse.l0]) ?_
    have fin1 : ∀ (a : B) (more : Bool) (b : B), bs s = (if more = true then a ++ 47 :: b else a) → strings_Cut.f s ⟨#[47]⟩ = some (mk a, mk b, more) → 47 ∉ a → Ev (fun k => (strings_Cut.f s ⟨#[47]⟩).bind fun bt104 => ((path_name.f k bt104.1 pat).bind fun t107 => (if t107 = true then (if (bt104.1.size : Int) > 24 then (if names.length < 8796093022208 then (if bt104.2.2 = true then (path_parse.l0 k pat bt104.2.1 (names ++ [bt104.1]) true) else (some (([] : List ByteArray), (6 : Int)))) else (none)) else (if names.length < 8796093022208 then ((some (names ++ [bt104.1] : List ByteArray)).bind fun y111 => (if bt104.2.2 = true then (path_parse.l0 k pat bt104.2.1 y111 long) else (if long = true then (some (([] : List ByteArray), (6 : Int))) else (if (y111.length : Int) > 8 then (some (([] : List ByteArray), (6 : Int))) else (some (y111, (0 : Int))))))) else (none))) else (some (([] : List ByteArray), (1 : Int)))))) (finS pat (bs s) names long) := by
      intro a more b hbs hcut ha
      have hlen : (bs s).length = s.size := bs_length s
      have hal : a.length ≤ s.size := by
        rw [hbs] at hlen
        split at hlen
        · simp at hlen; omega
        · omega
      refine Ev.bindS hcut (Ev.both (name_ev (mk a) pat (by rw [mk_size]; omega)) ?_)
      rw [bs_of_mk]
      have hP : pieces (bs s) = if more = true then a :: pieces b else [a] := by
        rw [hbs]
        split
        · exact pieces_cut ha
        · exact pieces_no ha
      have hne := List.length_pos_iff.2 (pieces_ne b)
      unfold finS
      rw [hP]
      by_cases hn : nm pat a = true
      · refine Ev.pos hn ?_
        have rest : ∀ L : Bool, more = true → Ev (fun k => path_parse.l0 k pat (mk b) (names ++ [mk a]) L) (if (pieces b).all (nm pat) = true then (if L = true ∨ (pieces b).any (fun x => decide (24 < x.length)) = true ∨ 8 < names.length + 1 + (pieces b).length then ([], 6) else (names ++ (a :: pieces b).map mk, 0)) else ([], 1)) := by
          intro L hm
          have hbl : a.length + (b.length + 1) = s.size := by
            rw [hbs, if_pos hm] at hlen
            simpa using hlen
          have := ih (mk b) (names ++ [mk a]) L (by rw [mk_size]; omega) (by rw [mk_size, List.length_append, List.length_singleton]; omega)
          unfold finS at this
          rw [bs_of_mk, List.length_append, List.length_singleton, List.append_assoc, List.singleton_append] at this
          exact this
        by_cases h24 : 24 < a.length
        · refine Ev.pos (by rw [mk_size]; omega) (Ev.pos (by omega) ?_)
          cases hm : more with
          | true =>
            refine Ev.pos rfl ?_
            have := rest true hm
            simp only [true_or, if_true] at this ⊢
            simp only [List.all_cons, hn, Bool.true_and, List.any_cons, h24, decide_true, Bool.true_or, true_or, or_true, if_true]
            exact this
          | false =>
            refine Ev.neg (by simp) (Ev.done fun _ => ?_)
            simp [hn, h24]
        · refine Ev.neg (by rw [mk_size]; omega) (Ev.pos (by omega) (Ev.bindS rfl ?_))
          cases hm : more with
          | true =>
            refine Ev.pos rfl ?_
            have := rest long hm
            simp only [if_true, List.all_cons, hn, Bool.true_and, List.any_cons, h24, decide_false, Bool.false_or, List.length_cons] at this ⊢
            rw [show names.length + ((pieces b).length + 1) = names.length + 1 + (pieces b).length from by omega]
            exact this
          | false =>
            refine Ev.neg (by simp) ?_
            simp only [Bool.false_eq_true, if_false, List.all_cons, List.all_nil, Bool.and_true, hn, if_true, List.any_cons, List.any_nil, Bool.or_false, h24, decide_false, false_or, List.length_singleton, List.map_cons, List.map_nil]
            by_cases hL : long = true
            · refine Ev.pos hL (Ev.done fun _ => ?_)
              rw [if_pos (Or.inl hL)]
            · refine Ev.neg hL ?_
              by_cases h8 : 8 < names.length + 1
              · refine Ev.pos (by rw [List.length_append, List.length_singleton]; omega) (Ev.done fun _ => ?_)
                rw [if_pos (Or.inr h8)]
              · refine Ev.neg (by rw [List.length_append, List.length_singleton]; omega) (Ev.done fun _ => ?_)
                rw [if_neg (by rw [not_or]; exact ⟨hL, h8⟩)]
      · refine Ev.neg hn (Ev.done fun _ => ?_)
        rw [if_neg]
        cases more <;> simp [hn]
    rcases cut_cases (bs s) with h | ⟨a, b, h, ha⟩
    · refine fin1 (bs s) false [] (by simp) ?_ h
      unfold strings_Cut.f
      rw [if_pos (by omega), show s.data.toList = bs s from rfl, show (⟨#[47]⟩ : ByteArray).data.toList = [47] from rfl, cut_none h]
      rfl
    · refine fin1 a true b (by simpa using h) ?_ ha
      unfold strings_Cut.f
      rw [if_pos (by omega), show s.data.toList = bs s from rfl, show (⟨#[47]⟩ : ByteArray).data.toList = [47] from rfl, h, cut_some ha]
      rfl
theorem parse_ev (s : ByteArray) (pat : Bool) : Ev (fun k => path_parse.f k s pat) (outS (parseS pat (bs s))) := by
  unfold path_parse.f parseS
  rw [bs_length]
  by_cases h : 200 < s.size
  · refine Ev.pos (by omega) (Ev.done fun _ => ?_)
    rw [if_pos h]
    rfl
  refine Ev.neg (by omega) ?_
  rw [if_neg h]
  have hp : strings_CutPrefix.f s ⟨#[47]⟩ = some (match bs s with | [] => (mk [], false) | c :: r => if c = 47 then (mk r, true) else (mk (c :: r), false)) := by
    unfold strings_CutPrefix.f Lib.trimPrefix Lib.hasPrefix
    rw [show s.data.toList = bs s from rfl, show (⟨#[47]⟩ : ByteArray).data.toList = [47] from rfl]
    cases bs s with
    | nil => rfl
    | cons c r =>
      by_cases hc : c = 47
      · subst hc; simp [mk]
      · have hc2 : ((47 : UInt8) == c) = false := beq_false_of_ne fun e => hc e.symm
        simp [hc, mk, List.isPrefixOf]
        exact fun e => hc e.symm
  refine Ev.bindS hp ?_
  cases hs : bs s with
  | nil => exact Ev.neg (by simp) (Ev.done fun _ => rfl)
  | cons c r =>
    have hl : r.length + 1 = s.size := by rw [← bs_length s, hs]; rfl
    by_cases hc : c = 47
    · simp only [if_pos hc]
      refine Ev.pos trivial ?_
      have := parse_loop pat r.length (mk r) [] false (by rw [mk_size]; omega) (by rw [mk_size]; simp; omega)
      unfold finS at this
      rw [bs_of_mk] at this
      simp only [Bool.false_eq_true, false_or, List.length_nil, Nat.zero_add, List.nil_append] at this
      refine Ev.congr (fun k => rfl) ?_
      have e : outS (if (pieces r).all (nm pat) = true then (if (pieces r).any (fun x => decide (24 < x.length)) = true ∨ 8 < (pieces r).length then ([], 6) else (pieces r, 0)) else ([], 1)) = (if (pieces r).all (nm pat) = true then (if (pieces r).any (fun x => decide (24 < x.length)) = true ∨ 8 < (pieces r).length then ([], 6) else ((pieces r).map mk, 0)) else ([], 1)) := by
        split
        · split <;> rfl
        · rfl
      rw [e]
      exact this
    · simp only [if_neg hc]
      exact Ev.neg (by simp) (Ev.done fun _ => rfl)
theorem Parse_ev (s : ByteArray) : Ev (fun k => path_Parse.f k s) (outS (parseS false (bs s))) := by
  unfold path_Parse.f
  exact Ev.both (parse_ev s false) (Ev.done fun _ => rfl)
theorem bad_mid {pat : Bool} {cur : B} {c : UInt8} {r : B} (h : 47 ∉ cur) (hc : c ≠ 47) (hp : pmt pat c = false) : ¬ (pieces (cur ++ c :: r)).all (nm pat) = true := by
  have h2 : 47 ∉ cur ++ [c] := by simp [h]; exact fun e => hc e.symm
  obtain ⟨p, ps, h3, h4⟩ := pieces_pre (a := cur ++ [c]) (b := r) h2
  rw [List.append_assoc, List.singleton_append] at h4
  rw [h4, List.all_cons]
  intro h5
  rw [Bool.and_eq_true] at h5
  have h6 := h5.1
  unfold nm at h6
  rw [Bool.and_eq_true] at h6
  have := List.all_eq_true.1 h6.2 c (by simp)
  rw [hp] at this
  cases this
def refS (pat : Bool) (out : List ByteArray) (l : B) : List ByteArray × Bool := if (pieces l).all (nm pat) = true then (out ++ (pieces l).map mk, true) else ([], false)
theorem nm_of_all {pat : Bool} {l : B} (h : ∀ c ∈ l, pmt pat c = true) : nm pat l = (!(l == []) && !(l == [46]) && !(l == [46, 46])) := by
  unfold nm
  rw [List.all_eq_true.2 h, Bool.and_true]
theorem names_loop (s : ByteArray) (pat : Bool) (hs : s.size ≤ 1000000000) : ∀ (d i from_ : Nat) (out : List ByteArray), i + d = s.size → from_ ≤ i → out.length ≤ i → 47 ∉ ((bs s).drop from_).take (i - from_) → (∀ c ∈ ((bs s).drop from_).take (i - from_), pmt pat c = true) →
    Ev (fun k => tapearchiveref19_names.l0 k s pat out (from_ : Int) (i : Int)) (refS pat out ((bs s).drop from_)) := by
  intro d
  induction d with
  | zero =>
    intro i from_ out hi hf ho h47 hall
    have e : ((bs s).drop from_).take (i - from_) = (bs s).drop from_ := List.take_of_length_le (by rw [List.length_drop, bs_length]; omega)
    rw [e] at h47 hall
    refine Ev.next (fun k => by rw [tapearchiveref19_names.l0]) ?_
    refine Ev.pos (by omega) (Ev.neg (by omega) (Ev.next (fun k => by rw [tapearchiveref19_names.j2]) ?_))
    have ee : (s.extract (from_ : Int).toNat (i : Int).toNat) = mk ((bs s).drop from_) := by
      apply bs_inj
      rw [bs_extract, Int.toNat_natCast, Int.toNat_natCast, e, bs_of_mk]
    refine Ev.neg (by simp) (Ev.pos (by omega) (Ev.pos (by omega) (Ev.pos (by omega) ?_)))
    rw [ee, mk_toList]
    unfold refS
    rw [pieces_no h47, List.all_cons, List.all_nil, Bool.and_true, nm_of_all hall]
    generalize (bs s).drop from_ = cur at *
    by_cases h1 : cur = []
    · exact Ev.pos h1 (Ev.done fun _ => by rw [if_neg (by simp [h1])])
    refine Ev.neg h1 ?_
    by_cases h2 : cur = [46]
    · exact Ev.pos h2 (Ev.done fun _ => by rw [if_neg (by simp [h2])])
    refine Ev.neg h2 ?_
    by_cases h3 : cur = [46, 46]
    · exact Ev.pos h3 (Ev.done fun _ => by rw [if_neg (by simp [h3])])
    refine Ev.neg h3 (Ev.pos (by omega) ?_)
    rw [if_pos (by simp [h1, h2, h3])]
    refine Ev.next (fun k => by rw [tapearchiveref19_names.l0]) ?_
    rw [wrap_in (by omega) (by omega)]
    exact Ev.neg (by omega) (Ev.done fun _ => rfl)
  | succ d ih =>
    intro i from_ out hi hf ho h47 hall
    have hl : i < (bs s).length := by rw [bs_length]; omega
    have hbt := bt_get s i _ (List.getElem?_eq_getElem hl)
    have hd : (bs s).drop i = (bs s)[i] :: (bs s).drop (i + 1) := List.drop_eq_getElem_cons hl
    have hsplit : (bs s).drop from_ = ((bs s).drop from_).take (i - from_) ++ (bs s)[i] :: (bs s).drop (i + 1) := by
      rw [← hd]
      conv => lhs; rw [← List.take_append_drop (i - from_) ((bs s).drop from_)]
      rw [List.drop_drop, show from_ + (i - from_) = i from by omega]
    have hsn : ((bs s).drop from_).take (i + 1 - from_) = ((bs s).drop from_).take (i - from_) ++ [(bs s)[i]] := by
      rw [show i + 1 - from_ = (i - from_) + 1 from by omega, List.take_succ_eq_append_getElem (by rw [List.length_drop]; omega)]
      congr 1
      rw [List.getElem_drop]
      congr 2
      omega
    have ih1 := ih (i + 1) from_ out (by omega) (by omega) (by omega)
    have ih2 := fun o => ih (i + 1) (i + 1) o (by omega) (by omega)
    rw [hsn] at ih1
    generalize (bs s)[i] = c at *
    refine Ev.next (fun k => by rw [tapearchiveref19_names.l0]) ?_
    refine Ev.pos (by omega) (Ev.pos (by omega) (Ev.pos (by omega) ?_))
    rw [hbt]
    refine Ev.next (fun k => by rw [tapearchiveref19_names.j2]) ?_
    have h47b : ((c.toNat : Int) != 47) = !(c == 47) := by
      rw [Bool.eq_iff_iff]
      simp only [bne_iff_ne, ne_eq, Bool.not_eq_true', beq_eq_false_iff_ne]
      constructor
      · intro h e; subst e; exact h rfl
      · intro h e; apply h; apply UInt8.toNat_inj.1; have : c.toNat = 47 := by omega
        rw [this]; rfl
    by_cases hc : c = 47
    · subst hc
      refine Ev.neg (by simp) (Ev.pos (by omega) (Ev.pos (by omega) (Ev.pos (by omega) ?_)))
      have ee : (s.extract (from_ : Int).toNat (i : Int).toNat) = mk (((bs s).drop from_).take (i - from_)) := by
        apply bs_inj
        rw [bs_extract, Int.toNat_natCast, Int.toNat_natCast, bs_of_mk]
      rw [ee, mk_toList]
      unfold refS
      have hP := pieces_cut (b := (bs s).drop (i + 1)) h47
      rw [← hsplit] at hP
      rw [hP, List.all_cons, nm_of_all hall]
      generalize ((bs s).drop from_).take (i - from_) = cur at *
      by_cases h1 : cur = []
      · exact Ev.pos h1 (Ev.done fun _ => by rw [if_neg (by simp [h1])])
      refine Ev.neg h1 ?_
      by_cases h2 : cur = [46]
      · exact Ev.pos h2 (Ev.done fun _ => by rw [if_neg (by simp [h2])])
      refine Ev.neg h2 ?_
      by_cases h3 : cur = [46, 46]
      · exact Ev.pos h3 (Ev.done fun _ => by rw [if_neg (by simp [h3])])
      refine Ev.neg h3 (Ev.pos (by omega) ?_)
      rw [wrap_in (by omega) (by omega), show (i : Int) + 1 = ((i + 1 : Nat) : Int) from rfl]
      have := ih2 (out ++ [mk cur]) (by simp; omega) (by simp) (by simp)
      unfold refS at this
      rw [beq_false_of_ne h1, beq_false_of_ne h2, beq_false_of_ne h3]
      simpa using this
    · rw [h47b, beq_false_of_ne hc]
      refine Ev.pos rfl (Ev.pos (by omega) (Ev.pos (by omega) ?_))
      have hg : pmt pat c = true → Ev (fun k => tapearchiveref19_names.j3 k s pat out (from_ : Int) (i : Int) false) (refS pat out ((bs s).drop from_)) := by
        intro hp
        refine Ev.next (fun k => by rw [tapearchiveref19_names.j3]) (Ev.neg (by simp) ?_)
        rw [wrap_in (by omega) (by omega), show (i : Int) + 1 = ((i + 1 : Nat) : Int) from rfl]
        refine ih1 (by simp only [List.mem_append, List.mem_singleton, not_or]; exact ⟨h47, fun e => hc e.symm⟩) ?_
        intro x hx
        rcases List.mem_append.1 hx with hx | hx
        · exact hall x hx
        · obtain rfl := List.mem_singleton.1 hx; exact hp
      have hbad : pmt pat c = false → Ev (fun k => tapearchiveref19_names.j3 k s pat out (from_ : Int) (i : Int) true) (refS pat out ((bs s).drop from_)) := by
        intro hp
        refine Ev.next (fun k => by rw [tapearchiveref19_names.j3]) (Ev.pos rfl (Ev.done fun _ => ?_))
        unfold refS
        rw [hsplit, if_neg (bad_mid h47 hc hp)]
      rw [hbt]
      refine Ev.bindS (plain_f c) ?_
      cases hp : pmt false c with
      | true =>
        refine Ev.pos rfl (hg ?_)
        cases pat
        · exact hp
        · exact pmt_mono hp
      | false =>
        refine Ev.neg (by simp) ?_
        have hpat : pmt true c = (pmt false c || (decide (c.toNat = 42) || decide (c.toNat = 63))) := by
          unfold pmt pmtN; simp
        rw [hp, Bool.false_or] at hpat
        cases pat with
        | true =>
          refine Ev.pos rfl ?_
          by_cases h42 : c.toNat = 42
          · refine Ev.pos (by omega) (hg (by rw [hpat]; simp [h42]))
          · refine Ev.neg (by omega) ?_
            by_cases h63 : c.toNat = 63
            · have e : ((c.toNat : Int) == 63) = true := by rw [beq_iff_eq]; omega
              rw [e]
              exact hg (by rw [hpat]; simp [h63])
            · have e : ((c.toNat : Int) == 63) = false := by rw [beq_eq_false_iff_ne]; omega
              rw [e]
              exact hbad (by rw [hpat]; simp [h42, h63])
        | false => exact Ev.neg (by simp) (hbad hp)
theorem names_ev (s : ByteArray) (pat : Bool) (hs : s.size ≤ 1000000000) : Ev (fun k => tapearchiveref19_names.f k s pat) (match bs s with | [] => ([], false) | c :: r => if c = 47 then refS pat [] r else ([], false)) := by
  unfold tapearchiveref19_names.f
  have bad : Ev (fun k => tapearchiveref19_names.j0 k s pat true) ([], false) := Ev.next (fun k => by rw [tapearchiveref19_names.j0]) (Ev.pos rfl (Ev.done fun _ => rfl))
  have hlen := bs_length s
  cases hb : bs s with
  | nil =>
    rw [hb] at hlen
    exact Ev.pos (by simp at hlen; omega) bad
  | cons c r =>
    have h0 : (bs s)[0]? = some c := by rw [hb]; rfl
    have hbt := bt_get s 0 c h0
    rw [hb] at hlen
    simp only [List.length_cons] at hlen
    refine Ev.neg (by omega) (Ev.pos (by omega) ?_)
    rw [show ((0 : Nat) : Int) = 0 from rfl] at hbt
    rw [hbt]
    by_cases hc : c = 47
    · simp only [if_pos hc]
      subst hc
      refine Ev.next (fun k => by rw [tapearchiveref19_names.j0]) (Ev.neg (by simp) ?_)
      have := names_loop s pat hs (s.size - 1) 1 1 [] (by omega) (Nat.le_refl _) (by simp) (by simp) (by simp)
      rw [hb, List.drop_one, List.tail_cons] at this
      exact this
    · simp only [if_neg hc]
      have e : ((c.toNat : Int) != 47) = true := by
        rw [bne_iff_ne]
        intro e
        apply hc
        apply UInt8.toNat_inj.1
        have : c.toNat = 47 := by omega
        rw [this]; rfl
      rw [e]
      exact bad
theorem rd_nat {l : List ByteArray} {i : Nat} (h : i < l.length) : rdOf ByteArray.empty l (i : Int) = l[i] := by
  unfold rdOf
  rw [Int.toNat_natCast, List.getD_eq_getElem?_getD, List.getElem?_eq_getElem h]
  rfl
theorem limits_ev (l : List ByteArray) (hl : l.length ≤ 4611686018427387904) : Ev (fun k => tapearchiveref19_limits.f k l) (if l.any (fun x => decide (24 < x.size)) = true ∨ 8 < l.length then 6 else 0) := by
  unfold tapearchiveref19_limits.f
  have go : ∀ (d i : Nat), i + d = l.length → Ev (fun k => tapearchiveref19_limits.l0 k l (i : Int)) (if (l.drop i).any (fun x => decide (24 < x.size)) = true ∨ 8 < l.length then 6 else 0) := by
    intro d
    induction d with
    | zero =>
      intro i hi
      refine Ev.next (fun k => by rw [tapearchiveref19_limits.l0]) (Ev.neg (by omega) ?_)
      rw [List.drop_of_length_le (by omega)]
      simp only [List.any_nil, Bool.false_eq_true, false_or]
      by_cases h : 8 < l.length
      · exact Ev.pos (by omega) (Ev.done fun _ => by rw [if_pos h])
      · exact Ev.neg (by omega) (Ev.done fun _ => by rw [if_neg h])
    | succ d ih =>
      intro i hi
      have hlt : i < l.length := by omega
      refine Ev.next (fun k => by rw [tapearchiveref19_limits.l0]) (Ev.pos (by omega) (Ev.pos (by omega) ?_))
      rw [rd_nat hlt, List.drop_eq_getElem_cons hlt, List.any_cons]
      by_cases h : 24 < l[i].size
      · exact Ev.pos (by omega) (Ev.done fun _ => by rw [if_pos]; simp [h])
      · refine Ev.neg (by omega) ?_
        rw [wrap_in (by omega) (by omega), show (i : Int) + 1 = ((i + 1 : Nat) : Int) from rfl]
        simp only [h, decide_false, Bool.false_or]
        exact ih (i + 1) (by omega)
  have := go l.length 0 (by omega)
  rw [List.drop_zero] at this
  exact this
theorem rparse_ev (s : ByteArray) (pat : Bool) : Ev (fun k => tapearchiveref19_parse.f k s pat) (outS (parseS pat (bs s))) := by
  unfold tapearchiveref19_parse.f parseS
  rw [bs_length]
  by_cases h : 200 < s.size
  · refine Ev.pos (by omega) (Ev.done fun _ => ?_)
    rw [if_pos h]
    rfl
  refine Ev.neg (by omega) ?_
  rw [if_neg h]
  refine Ev.both (names_ev s pat (by omega)) ?_
  have hlen := bs_length s
  cases hs : bs s with
  | nil => exact Ev.neg (by simp) (Ev.done fun _ => rfl)
  | cons c r =>
    rw [hs] at hlen
    simp only [List.length_cons] at hlen
    by_cases hc : c = 47
    · simp only [if_pos hc]
      unfold refS
      by_cases ha : (pieces r).all (nm pat) = true
      · rw [if_pos ha, if_pos ha]
        have hpl := pieces_len r
        refine Ev.pos rfl (Ev.both (limits_ev _ (by simp; omega)) ?_)
        have e : (((([] : List ByteArray) ++ (pieces r).map mk)).any (fun x => decide (24 < x.size)) = true ∨ 8 < (([] : List ByteArray) ++ (pieces r).map mk).length) ↔ ((pieces r).any (fun x => decide (24 < x.length)) = true ∨ 8 < (pieces r).length) := by
          rw [List.nil_append, List.any_map, List.length_map]
          exact Iff.rfl
        by_cases hb : (pieces r).any (fun x => decide (24 < x.length)) = true ∨ 8 < (pieces r).length
        · rw [if_pos hb, if_pos (e.2 hb)]
          exact Ev.neg (by simp) (Ev.done fun _ => rfl)
        · rw [if_neg hb, if_neg (fun x => hb (e.1 x))]
          exact Ev.pos rfl (Ev.done fun _ => rfl)
      · rw [if_neg ha, if_neg ha]
        exact Ev.neg (by simp) (Ev.done fun _ => rfl)
    · simp only [if_neg hc]
      exact Ev.neg (by simp) (Ev.done fun _ => rfl)
theorem rParse_ev (s : ByteArray) : Ev (fun k => tapearchiveref19_Parse.f k s) (outS (parseS false (bs s))) := by
  unfold tapearchiveref19_Parse.f
  exact Ev.both (rparse_ev s false) (Ev.done fun _ => rfl)
end Go.Proofs.YtlcgepmacgbciaaDoor.Pth
end
section
namespace Go.Proofs.YtlcgepmacgbciaaDoor.Pth
open Go.RowKit Go.Proofs.YtlcgepmacgbciaaDoor.Q Go.Proofs.YtlcgepmacgbciaaDoorW.PrintWords Go.Proofs.YtlcgepmacgbciaaDoorW.PrintMore Go.Proofs.YtlcgepmacgbciaaDoorW.EvMore
section
variable (p s : ByteArray) (hp : p.size ≤ 2000000000) (hs : s.size ≤ 2000000000)
include hp hs
end
theorem map_bs_mk (l : List B) : (l.map mk).map bs = l := by
  rw [List.map_map]
  conv => rhs; rw [← List.map_id l]
  exact List.map_congr_left fun x _ => rfl
section
end
end Go.Proofs.YtlcgepmacgbciaaDoor.Pth
end
section
namespace Go.Proofs.YtlcgepmacgbciaaDoor.Pth
open Go.RowKit Go.Proofs.YtlcgepmacgbciaaDoor.Q Go.Proofs.YtlcgepmacgbciaaDoorW.PrintWords Go.Proofs.YtlcgepmacgbciaaDoorW.PrintMore Go.Proofs.YtlcgepmacgbciaaDoorW.EvMore
theorem Valid_ev (s : ByteArray) : Ev (fun k => path_Valid.f k s) (decide ((parseS false (bs s)).2 = 0)) := by
  unfold path_Valid.f
  exact Ev.both (Parse_ev s) (Ev.done fun _ => rfl)
theorem Pattern_ev (s : ByteArray) : Ev (fun k => path_Pattern.f k s) (decide ((parseS true (bs s)).2 = 0)) := by
  unfold path_Pattern.f
  exact Ev.both (parse_ev s true) (Ev.done fun _ => rfl)
theorem rPattern_ev (s : ByteArray) : Ev (fun k => tapearchiveref19_Pattern.f k s) (decide ((parseS true (bs s)).2 = 0)) := by
  unfold tapearchiveref19_Pattern.f
  exact Ev.both (rparse_ev s true) (Ev.done fun _ => rfl)
theorem map_bs_inj {l m : List ByteArray} (h : l.map bs = m.map bs) : l = m := by
  have e : ∀ l : List ByteArray, (l.map bs).map mk = l := fun l => by
    rw [List.map_map]
    conv => rhs; rw [← List.map_id l]
    exact List.map_congr_left fun x _ => mk_of_bs x
  rw [← e l, ← e m, h]
theorem map_mk_bs (l : List ByteArray) : (l.map bs).map mk = l := map_bs_inj (map_bs_mk _)
theorem tcat_eq (l : List ByteArray) : path_Text.cat l = cat (l.map bs) := by
  unfold path_Text.cat cat
  rw [List.map_map]
  rfl
theorem Text_ev (l : List ByteArray) (h1 : l.length ≤ 140737488355328) (h2 : (cat (l.map bs)).length ≤ 140737488355328) : Ev (fun k => path_Text.f k l) (mk (textS (l.map bs))) := by
  unfold path_Text.f
  rw [tcat_eq]
  refine Ev.pos ⟨h1, h2⟩ (Ev.both (Parse_ev (mk (cat (l.map bs)))) ?_)
  rw [bs_of_mk]
  unfold textS outS
  by_cases h3 : (parseS false (cat (l.map bs))).2 = 0
  · refine Ev.pos h3 ?_
    have hlen : (parseS false (cat (l.map bs))).1.length ≤ 8 := by
      obtain ⟨r, _, _, e3, _, _, e6⟩ := parseS_ok h3
      rw [e3]; exact e6
    refine Ev.pos (by rw [List.length_map]; omega) ?_
    by_cases h4 : (parseS false (cat (l.map bs))).1 = l.map bs
    · have e1 : ((parseS false (cat (l.map bs))).1.map mk) = l := by rw [h4, map_mk_bs]
      refine Ev.pos e1 (Ev.done fun _ => ?_)
      rw [if_pos (Prod.ext h4 h3)]
      rfl
    · refine Ev.neg (fun e => h4 ?_) (Ev.done fun _ => ?_)
      · have := congrArg (List.map bs) e
        rw [map_bs_mk] at this
        exact this
      · rw [if_neg (fun e => h4 (congrArg Prod.fst e))]
        rfl
  · refine Ev.neg h3 (Ev.done fun _ => ?_)
    rw [if_neg (fun e => h3 (congrArg Prod.snd e))]
    rfl
end Go.Proofs.YtlcgepmacgbciaaDoor.Pth
end
section
namespace Go.Proofs.YtlcgepmacgbciaaDoor.Pth
open Go.RowKit Go.Proofs.YtlcgepmacgbciaaDoor.Q Go.Proofs.YtlcgepmacgbciaaDoorW.PrintWords Go.Proofs.YtlcgepmacgbciaaDoorW.PrintMore Go.Proofs.YtlcgepmacgbciaaDoorW.EvMore
theorem awake_ev : Ev (fun k => tapearchivelaw19_awake.f k) true := by
  refine Ev.of (fun k => tapearchivelaw19_awake.mono k) (k := 60) ?_
  kernel_rfl
theorem few_f (s : ByteArray) : tapearchivelaw19_few.f s = some (decide (s.size ≤ 500)) := by
  unfold tapearchivelaw19_few.f
  congr 1
  rw [Bool.eq_iff_iff, decide_eq_true_eq, decide_eq_true_eq]
  omega
theorem same_ev (l m : List ByteArray) (hl : l.length ≤ 1000) : Ev (fun k => tapearchivelaw19_same.f k l m) (decide (l = m)) := by
  unfold tapearchivelaw19_same.f
  by_cases h : l.length = m.length
  · refine Ev.pos (by omega) ?_
    have go : ∀ (d i : Nat), i + d = l.length → Ev (fun k => tapearchivelaw19_same.l0 k l m (i : Int)) (decide (l.drop i = m.drop i)) := by
      intro d
      induction d with
      | zero =>
        intro i hi
        refine Ev.next (fun k => by rw [tapearchivelaw19_same.l0]) (Ev.neg (by omega) (Ev.done fun _ => ?_))
        rw [List.drop_of_length_le (by omega : l.length ≤ i), List.drop_of_length_le (by omega : m.length ≤ i)]
        rfl
      | succ d ih =>
        intro i hi
        have h1 : i < l.length := by omega
        have h2 : i < m.length := by omega
        refine Ev.next (fun k => by rw [tapearchivelaw19_same.l0]) (Ev.pos (by omega) (Ev.pos (by omega) (Ev.pos (by omega) ?_)))
        rw [rd_nat h1, rd_nat h2, toList_bs, toList_bs, List.drop_eq_getElem_cons h1, List.drop_eq_getElem_cons h2]
        by_cases e : l[i] = m[i]
        · refine Ev.pos (congrArg bs e) ?_
          rw [wrap_in (by omega) (by omega), e]
          have := ih (i + 1) (by omega)
          rw [show (decide (m[i] :: l.drop (i + 1) = m[i] :: m.drop (i + 1))) = decide (l.drop (i + 1) = m.drop (i + 1)) from by
            rw [Bool.eq_iff_iff, decide_eq_true_eq, decide_eq_true_eq]
            exact ⟨fun x => (List.cons.inj x).2, fun x => by rw [x]⟩]
          exact this
        · refine Ev.neg (fun x => e (bs_inj x)) (Ev.done fun _ => ?_)
          rw [decide_eq_false]
          intro x
          exact e (List.cons.inj x).1
    have := go l.length 0 (by omega)
    rw [List.drop_zero, List.drop_zero] at this
    exact this
  · refine Ev.neg (by omega) (Ev.done fun _ => ?_)
    rw [decide_eq_false]
    intro e
    exact h (congrArg List.length e)
end Go.Proofs.YtlcgepmacgbciaaDoor.Pth
end
