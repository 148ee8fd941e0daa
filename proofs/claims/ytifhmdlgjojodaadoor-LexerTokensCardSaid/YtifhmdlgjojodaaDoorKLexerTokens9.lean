import Derived.Test.YtifhmdlgjojodaaDoorKLexerTokens8
set_option linter.unusedVariables false
set_option linter.unusedSimpArgs false
section
namespace Go.Proofs.YtifhmdlgjojodaaDoor.Q
open Go.RowKit Go.Proofs.YtifhmdlgjojodaaDoorW.PrintWords Go.Proofs.YtifhmdlgjojodaaDoorW.PrintLast Go.Proofs.YtifhmdlgjojodaaDoorW.PrintMore
attribute [local go_sem] max2_int min2_int max_two min_two max_three min_three max_four min_four
attribute [local go_sem ↓] isSome_setCell
set_option linter.unusedVariables false
set_option linter.unusedSimpArgs false
def tapearchivelaw28_small.l0 : Nat → List (S36) → Int → Int → Option (Bool)
  | 0, _, _, _ => none
  | k + 1, x0, x3, x4 => if x4 < (x0.length : Int) then (if 0 ≤ x4 then (if (wrap64 (x3 + (((rd_T36 x0 x4).f1).size : Int))) > 32768 then (some false) else (tapearchivelaw28_small.l0 k x0 (wrap64 (x3 + (((rd_T36 x0 x4).f1).size : Int))) (wrap64 (x4 + 1)))) else (none)) else (some true)
def tapearchivelaw28_small.f (k : Nat) (l0 : List (S36)) : Option (Bool) := if (l0.length : Int) > 400 then (some false) else (tapearchivelaw28_small.l0 k l0 0 0)
set_option maxHeartbeats 8000000 in
set_option maxRecDepth 100000 in
theorem tapearchivelaw28_small.calls (k : Nat) (A0 : Option Addr) (c0 : Nat) (l0 : List (S36)) (r : Bool) (w : World) (hr0 : Kd.C k36 w A0 l0.length l0) (hc0 : l0.length ≤ c0) (h : tapearchivelaw28_small.f k l0 = some r) :
    Calls Tryd.prog 13 #[.slice A0 l0.length c0] w fun e w' => e = .returned (.bool r) ∧ Drawn0 w w' := by
  have HR0 := Aside0.mk hr0
  have HC0 := Aside0.mk hc0
  clear hr0 hc0
  have H : (if (l0.length : Int) > 400 then (some false) else (tapearchivelaw28_small.l0 k l0 0 0)) = some r := h
  clear h
  by_cases c2 : (l0.length : Int) > 400
  · rw [if_pos c2] at H
    have c2b0 : decide (400 < (l0.length : Int)) = true := decide_eq_true c2
    have c2b1 : decide (400 < l0.length) = true := decide_eq_true (by omega)
    clear c2
    obtain rfl := Option.some.inj H
    go_enter Tryd.func13, Tryd.ntmps13
    go_wp2
    go_ret
    exact ⟨by first | rfl | (simp; done) | (simp [*]; done), by repeat (first | exact Drawn0.refl _ | apply Drawn0.step)⟩
  · rw [if_neg c2] at H
    have c2b0 : decide (400 < (l0.length : Int)) = false := decide_eq_false c2
    have c2b1 : decide (400 < l0.length) = false := decide_eq_false (by omega)
    clear c2
    have H' := Aside0.mk H
    clear H
    go_enter Tryd.func13, Tryd.ntmps13
    go_wp2
    go_loopg [3, 4] k (fun kq v3 v4 w' => ∃ (x3_1 : Int) (x4_1 : Int), v3 = .int .i64 x3_1 ∧ v4 = .int .i64 x4_1 ∧ Aside0 (tapearchivelaw28_small.l0 kq l0 x3_1 x4_1 = some r) ∧ Aside0 (kq ≤ k) ∧ Drawn0 w w')
    case atStart => exact ⟨(0), (0), (by first | rfl | (simp; done) | (simp [*]; done)), (by first | rfl | (simp; done) | (simp [*]; done)), H', ⟨Nat.le_refl _⟩, by repeat (first | exact Drawn0.refl _ | apply Drawn0.step)⟩
    case round =>
      clear H'
      try clear c1
      try clear c2
      try clear c2b0
      try clear c2b1
      try clear p2
      obtain ⟨x3_1, x4_1, rfl, rfl, HA, HK1, ⟨m1, rfl⟩⟩ := hrel
      cases gk with
      | zero => exact absurd HA.out (by simp [tapearchivelaw28_small.l0])
      | succ k1 =>
        have H := HA.out
        clear HA
        simp only [tapearchivelaw28_small.l0] at H
        by_cases c3 : x4_1 < (l0.length : Int)
        · rw [if_pos c3] at H
          have c3b0 : decide (x4_1 < (l0.length : Int)) = true := decide_eq_true c3
          clear c3
          by_cases c4 : 0 ≤ x4_1
          · rw [if_pos c4] at H
            have c4b0 : decide (0 ≤ x4_1) = true := decide_eq_true c4
            clear c4
            by_cases c5 : (wrap64 (x3_1 + (((rd_T36 l0 x4_1).f1).size : Int))) > 32768
            · rw [if_pos c5] at H
              have c5b0 : decide (32768 < (wrap64 (x3_1 + (((rd_T36 l0 x4_1).f1).size : Int)))) = true := decide_eq_true c5
              clear c5
              obtain rfl := Option.some.inj H
              have p232 : 0 ≤ (x4_1 : Int) := of_decide_eq_true (by first | (with_reducible assumption) | assumption)
              have q232 : x4_1 < (l0.length : Int) := of_decide_eq_true (by first | (with_reducible assumption) | assumption)
              obtain ⟨ad232, e232, hx232_0, hx232_1, hx232_2, hx232_3⟩ := at_T36 HR0.out x4_1 p232 q232
              cases e232
              replace p232 := eq_true p232
              replace q232 := eq_true q232
              go_wp2
              go_ret
              exact ⟨by first | rfl | (simp; done) | (simp [*]; done), by repeat (first | exact Drawn0.refl _ | apply Drawn0.step)⟩
            · rw [if_neg c5] at H
              have c5b0 : decide (32768 < (wrap64 (x3_1 + (((rd_T36 l0 x4_1).f1).size : Int)))) = false := decide_eq_false c5
              clear c5
              have H' := Aside0.mk H
              clear H
              have p232 : 0 ≤ (x4_1 : Int) := of_decide_eq_true (by first | (with_reducible assumption) | assumption)
              have q232 : x4_1 < (l0.length : Int) := of_decide_eq_true (by first | (with_reducible assumption) | assumption)
              obtain ⟨ad232, e232, hx232_0, hx232_1, hx232_2, hx232_3⟩ := at_T36 HR0.out x4_1 p232 q232
              cases e232
              replace p232 := eq_true p232
              replace q232 := eq_true q232
              go_wp2
              go_roundg k1
              case measure => have := HK1.out; omega
              case rel => exact ⟨(wrap64 (x3_1 + (((rd_T36 l0 x4_1).f1).size : Int))), (wrap64 (x4_1 + 1)), (by first | rfl | (simp; done) | (simp [*]; done)), (by first | rfl | (simp; done) | (simp [*]; done)), H', ⟨by have := HK1.out; omega⟩, by repeat (first | exact Drawn0.refl _ | apply Drawn0.step)⟩
          · rw [if_neg c4] at H
            exact absurd H (by simp)
        · rw [if_neg c3] at H
          have c3b0 : decide (x4_1 < (l0.length : Int)) = false := decide_eq_false c3
          clear c3
          obtain rfl := Option.some.inj H
          go_wp2
          go_ret
          exact ⟨by first | rfl | (simp; done) | (simp [*]; done), by repeat (first | exact Drawn0.refl _ | apply Drawn0.step)⟩
end Go.Proofs.YtifhmdlgjojodaaDoor.Q
end
section
namespace Go.Proofs.YtifhmdlgjojodaaDoor.Q
open Go.RowKit Go.Proofs.YtifhmdlgjojodaaDoorW.PrintWords Go.Proofs.YtifhmdlgjojodaaDoorW.PrintLast Go.Proofs.YtifhmdlgjojodaaDoorW.PrintMore
attribute [local go_sem] max2_int min2_int max_two min_two max_three min_three max_four min_four
attribute [local go_sem ↓] isSome_setCell
set_option linter.unusedVariables false
set_option linter.unusedSimpArgs false
mutual
def tapearchivelaw28_LexerTokens.j0 : Nat → ByteArray → List (S36) → Bool → Option (Bool)
  | 0, _, _, _ => none
  | k + 1, x3, x4, x36 => if x36 = true then (some false) else (tapearchivelaw28_LexerTokens.l0 k x3 x4 0)
def tapearchivelaw28_LexerTokens.l0 : Nat → ByteArray → List (S36) → Int → Option (Bool)
  | 0, _, _, _ => none
  | k + 1, x3, x4, x7 => if x7 < (x4.length : Int) then (if 0 ≤ x7 then (if ((rd_T36 x4 x7).f3) < 0 then (some false) else (if ((rd_T36 x4 x7).f3) ≥ (x3.size : Int) then (some false) else (if x7 > 0 then (if 0 ≤ (wrap64 (x7 - 1)) then (if (wrap64 (x7 - 1)) < (x4.length : Int) then (if ((rd_T36 x4 x7).f3) ≤ ((rd_T36 x4 (wrap64 (x7 - 1))).f3) then (some false) else (tapearchivelaw28_LexerTokens.l0 k x3 x4 (wrap64 (x7 + 1)))) else (none)) else (none)) else (tapearchivelaw28_LexerTokens.l0 k x3 x4 (wrap64 (x7 + 1)))))) else (none)) else (some true)
end
def tapearchivelaw28_LexerTokens.f (k : Nat) (l0 : List (S36)) : Option (Bool) := (tapearchivelaw28_lives.f k).bind fun t264 => (if t264 = true then ((tapearchivelaw28_small.f k l0).bind fun t265 => (if t265 = true then ((some (([] : List (S36)) : List (S36))).bind fun y266 => (if y266.length + l0.length < 3518437208883 then ((lexer_Text.f k (y266 ++ l0)).bind fun t272 => (if t272.toList = ([] : List UInt8) then (some true) else ((lexer_Tokens.f k t272).bind fun bt273 => (if bt273.2.2 = 0 then (if bt273.2.1 = 0 then ((tapearchiveref28_Same.f k l0 bt273.1 false).bind fun t278 => (tapearchivelaw28_LexerTokens.j0 k t272 bt273.1 (!t278))) else (tapearchivelaw28_LexerTokens.j0 k t272 bt273.1 true)) else (tapearchivelaw28_LexerTokens.j0 k t272 bt273.1 true))))) else (none))) else (some true))) else (some false))
set_option maxHeartbeats 8000000 in
set_option maxRecDepth 100000 in
theorem tapearchivelaw28_LexerTokens.calls (k : Nat) (A0 : Option Addr) (c0 : Nat) (l0 : List (S36)) (r : Bool) (w : World) (hG : Go.Proofs.YtifhmdlgjojodaaDoorX.Glob w) (hr0 : Kd.C k36 w A0 l0.length l0) (hc0 : l0.length ≤ c0) (h : tapearchivelaw28_LexerTokens.f k l0 = some r) :
    Calls Tryd.prog 5 #[.slice A0 l0.length c0] w fun e w' => e = .returned (.bool r) ∧ Below w.heap.size w w' := by
  have HR0 := Aside0.mk hr0
  have HC0 := Aside0.mk hc0
  clear hr0 hc0
  have HB := Aside0.mk (Below.refl w.heap.size w)
  have H : ((tapearchivelaw28_lives.f k).bind fun t264 => (if t264 = true then ((tapearchivelaw28_small.f k l0).bind fun t265 => (if t265 = true then ((some (([] : List (S36)) : List (S36))).bind fun y266 => (if y266.length + l0.length < 3518437208883 then ((lexer_Text.f k (y266 ++ l0)).bind fun t272 => (if t272.toList = ([] : List UInt8) then (some true) else ((lexer_Tokens.f k t272).bind fun bt273 => (if bt273.2.2 = 0 then (if bt273.2.1 = 0 then ((tapearchiveref28_Same.f k l0 bt273.1 false).bind fun t278 => (tapearchivelaw28_LexerTokens.j0 k t272 bt273.1 (!t278))) else (tapearchivelaw28_LexerTokens.j0 k t272 bt273.1 true)) else (tapearchivelaw28_LexerTokens.j0 k t272 bt273.1 true))))) else (none))) else (some true))) else (some false))) = some r := h
  clear h
  replace H := Option.bind_eq_some_iff.mp H
  obtain ⟨t264, A20, H⟩ := H
  replace H : (if t264 = true then ((tapearchivelaw28_small.f k l0).bind fun t265 => (if t265 = true then ((some (([] : List (S36)) : List (S36))).bind fun y266 => (if y266.length + l0.length < 3518437208883 then ((lexer_Text.f k (y266 ++ l0)).bind fun t272 => (if t272.toList = ([] : List UInt8) then (some true) else ((lexer_Tokens.f k t272).bind fun bt273 => (if bt273.2.2 = 0 then (if bt273.2.1 = 0 then ((tapearchiveref28_Same.f k l0 bt273.1 false).bind fun t278 => (tapearchivelaw28_LexerTokens.j0 k t272 bt273.1 (!t278))) else (tapearchivelaw28_LexerTokens.j0 k t272 bt273.1 true)) else (tapearchivelaw28_LexerTokens.j0 k t272 bt273.1 true))))) else (none))) else (some true))) else (some false)) = some r := H
  have A2 := Aside0.mk A20
  clear A20
  by_cases c3 : t264 = true
  · subst c3
    have H1 : ((tapearchivelaw28_small.f k l0).bind fun t265 => (if t265 = true then ((some (([] : List (S36)) : List (S36))).bind fun y266 => (if y266.length + l0.length < 3518437208883 then ((lexer_Text.f k (y266 ++ l0)).bind fun t272 => (if t272.toList = ([] : List UInt8) then (some true) else ((lexer_Tokens.f k t272).bind fun bt273 => (if bt273.2.2 = 0 then (if bt273.2.1 = 0 then ((tapearchiveref28_Same.f k l0 bt273.1 false).bind fun t278 => (tapearchivelaw28_LexerTokens.j0 k t272 bt273.1 (!t278))) else (tapearchivelaw28_LexerTokens.j0 k t272 bt273.1 true)) else (tapearchivelaw28_LexerTokens.j0 k t272 bt273.1 true))))) else (none))) else (some true))) = some r := by rw [if_pos rfl] at H; exact H
    clear H
    have H := H1
    clear H1
    replace H := Option.bind_eq_some_iff.mp H
    obtain ⟨t265, A40, H⟩ := H
    replace H : (if t265 = true then ((some (([] : List (S36)) : List (S36))).bind fun y266 => (if y266.length + l0.length < 3518437208883 then ((lexer_Text.f k (y266 ++ l0)).bind fun t272 => (if t272.toList = ([] : List UInt8) then (some true) else ((lexer_Tokens.f k t272).bind fun bt273 => (if bt273.2.2 = 0 then (if bt273.2.1 = 0 then ((tapearchiveref28_Same.f k l0 bt273.1 false).bind fun t278 => (tapearchivelaw28_LexerTokens.j0 k t272 bt273.1 (!t278))) else (tapearchivelaw28_LexerTokens.j0 k t272 bt273.1 true)) else (tapearchivelaw28_LexerTokens.j0 k t272 bt273.1 true))))) else (none))) else (some true)) = some r := H
    have A4 := Aside0.mk A40
    clear A40
    by_cases c5 : t265 = true
    · subst c5
      have H1 : ((some (([] : List (S36)) : List (S36))).bind fun y266 => (if y266.length + l0.length < 3518437208883 then ((lexer_Text.f k (y266 ++ l0)).bind fun t272 => (if t272.toList = ([] : List UInt8) then (some true) else ((lexer_Tokens.f k t272).bind fun bt273 => (if bt273.2.2 = 0 then (if bt273.2.1 = 0 then ((tapearchiveref28_Same.f k l0 bt273.1 false).bind fun t278 => (tapearchivelaw28_LexerTokens.j0 k t272 bt273.1 (!t278))) else (tapearchivelaw28_LexerTokens.j0 k t272 bt273.1 true)) else (tapearchivelaw28_LexerTokens.j0 k t272 bt273.1 true))))) else (none))) = some r := by rw [if_pos rfl] at H; exact H
      clear H
      have H := H1
      clear H1
      obtain ⟨y266, hy266⟩ : ∃ y_ : List (S36), y_ = (([] : List (S36))) := ⟨_, rfl⟩
      replace H : (if y266.length + l0.length < 3518437208883 then ((lexer_Text.f k (y266 ++ l0)).bind fun t272 => (if t272.toList = ([] : List UInt8) then (some true) else ((lexer_Tokens.f k t272).bind fun bt273 => (if bt273.2.2 = 0 then (if bt273.2.1 = 0 then ((tapearchiveref28_Same.f k l0 bt273.1 false).bind fun t278 => (tapearchivelaw28_LexerTokens.j0 k t272 bt273.1 (!t278))) else (tapearchivelaw28_LexerTokens.j0 k t272 bt273.1 true)) else (tapearchivelaw28_LexerTokens.j0 k t272 bt273.1 true))))) else (none)) = some r := by first | (rw [hy266]; with_reducible exact H) | (have H2_ := (Option.bind_some _ _).symm.trans H; rw [hy266]; with_reducible exact H2_) | (have H2_ := (Option.bind_some _ _).symm.trans H; with_reducible exact H2_) | with_reducible exact H | (rw [hy266]; exact H) | exact H
      have Ny266 := Aside0.mk hy266
      clear hy266
      by_cases c6 : y266.length + l0.length < 3518437208883
      · rw [if_pos c6] at H
        have LMc6 := Aside0.mk c6
        clear c6
        obtain ⟨y269, hy269⟩ : ∃ y_ : List (S36), y_ = (y266 ++ l0) := ⟨_, rfl⟩
        replace H : ((lexer_Text.f k y269).bind fun t272 => (if t272.toList = ([] : List UInt8) then (some true) else ((lexer_Tokens.f k t272).bind fun bt273 => (if bt273.2.2 = 0 then (if bt273.2.1 = 0 then ((tapearchiveref28_Same.f k l0 bt273.1 false).bind fun t278 => (tapearchivelaw28_LexerTokens.j0 k t272 bt273.1 (!t278))) else (tapearchivelaw28_LexerTokens.j0 k t272 bt273.1 true)) else (tapearchivelaw28_LexerTokens.j0 k t272 bt273.1 true))))) = some r := by first | (rw [hy269]; with_reducible exact H) | (have H2_ := (Option.bind_some _ _).symm.trans H; rw [hy269]; with_reducible exact H2_) | (have H2_ := (Option.bind_some _ _).symm.trans H; with_reducible exact H2_) | with_reducible exact H | (rw [hy269]; exact H) | exact H
        have Ny269 := Aside0.mk hy269
        clear hy269
        replace H := Option.bind_eq_some_iff.mp H
        obtain ⟨t272, A70, H⟩ := H
        replace H : (if t272.toList = ([] : List UInt8) then (some true) else ((lexer_Tokens.f k t272).bind fun bt273 => (if bt273.2.2 = 0 then (if bt273.2.1 = 0 then ((tapearchiveref28_Same.f k l0 bt273.1 false).bind fun t278 => (tapearchivelaw28_LexerTokens.j0 k t272 bt273.1 (!t278))) else (tapearchivelaw28_LexerTokens.j0 k t272 bt273.1 true)) else (tapearchivelaw28_LexerTokens.j0 k t272 bt273.1 true)))) = some r := H
        have A7 := Aside0.mk A70
        clear A70
        by_cases c8 : t272.toList = ([] : List UInt8)
        · rw [if_pos c8] at H
          have c8b0 : (t272.toList == ([] : List UInt8)) = true := beq_iff_eq.mpr c8
          have c8b1 : (t272.toList != ([] : List UInt8)) = false := bne_eq_false_iff_eq.mpr c8
          have c8b2 : t272.toList.isEmpty = true := by rw [c8]; rfl
          clear c8
          obtain rfl := Option.some.inj H
          go_enter Tryd.func5, Tryd.ntmps5
          go_wp2_with (first | (go_at_call 9; (with_reducible refine (tapearchivelaw28_lives.calls k  true _ ?side1 A2.out).mono ?_); (case side1 => exact Go.Proofs.YtifhmdlgjojodaaDoorX.Glob.below hG (by repeat (first | (with_reducible first | exact HB.out | apply below_alloc | apply pw_below_drewN | apply below_drew1) | exact HB.out))); rintro e w9 ⟨rfl, hb⟩; have n0_ := Aside0.mk (below_step (by repeat (first | (with_reducible first | exact HB.out | apply below_alloc | apply pw_below_drewN | apply below_drew1) | exact HB.out)) hb); clear HB; have HB := n0_; clear n0_; (try clear hb); (try clear hb2); (try clear hk); (try clear hi)) | (go_at_call 13; (with_reducible refine (tapearchivelaw28_small.calls k _ _ l0 true _ ?side1 ?side2 A4.out).mono ?_); (case side1 => repeat (first | exact (Kd.C_below HR0.out HB.out) | (with_reducible refine Kd.C_alloc ?_ _) | (with_reducible refine Kd.C_drewN ?_ _) | (with_reducible refine Kd.C_drew ?_))); (case side2 => exact HC0.out); rintro e w' ⟨rfl, ⟨nd, rfl⟩⟩; (try first | exact ⟨rfl, _, World.drewN_drewN _ _ _⟩ | exact ⟨rfl, _, Eq.trans (World.drewN_drewN _ _ _) (congrArg (World.drewN _) (Nat.add_assoc _ _ _))⟩)) | ((with_reducible refine gate_dst (N := 13) rfl ?_); (try (refine gate_guard (by rfl) ?_; dsimp only)); refine Kd.R_lit k36 _ 36 ?hg (N := 13) ?hd (xs := ([] : List (S36))) (inner := []) (ok := fun _ => True) (okp := fun _ => True) ?hr ?hp (fun _ hk => hk) trivial (Below.refl _ _) (Nat.le_refl _) (by simp) ?_; (case hd => rfl); (case hg => rfl); (case hr => first | (go_simp; done) | (go_simp; rfl)); (case hp => exact (Reps.none _ _)); intro v267 w10 ho11 hb hg_ hnew_; clear hg_ hnew_; (first | rw [← Ny266.out] at ho11 | (simp only [Int.reduceToNat] at ho11; rw [← Ny266.out] at ho11)); have n0_ := Aside0.mk (Kd.R_lower ho11 (below_size (by repeat (first | (with_reducible first | exact HB.out | apply below_alloc | apply pw_below_drewN | apply below_drew1) | exact HB.out)))); have n1_ := Aside0.mk (below_step (by repeat (first | (with_reducible first | exact HB.out | apply below_alloc | apply pw_below_drewN | apply below_drew1) | exact HB.out)) hb); clear HB; have HO268 := n0_; have HB := n1_; clear n0_ n1_; clear hb ho11) | ((with_reducible refine gate_builtin (b := .append) (xs := #[.tmp 13, .tmp 14]) rfl ?_); (try (refine gate_guard (by rfl) ?_; dsimp only)); at_builtin; refine Kd.R_append_rows k36 (w0 := w) w.heap.size rfl (.tmp 13) (.tmp 14) 23 36 (.agg #[(.int .i64 0), (.string ⟨#[]⟩), (.int .i64 0), (.int .i64 0)]) 40 rfl Tryd.underlying23 info36 rfl (by decide) (by omega) v267 y266 l0 _ _ _ (fun _ => True) (fun _ => False) rfl rfl ?aO ?aR (fun _ _ h => h) (fun _ h => h.elim) ?aF ?aB ?aS ?aL ?_; (case aR => repeat (first | exact (Kd.C_below HR0.out HB.out) | (with_reducible refine Kd.C_alloc ?_ _) | (with_reducible refine Kd.C_drewN ?_ _) | (with_reducible refine Kd.C_drew ?_))); (case aB => exact (by repeat (first | (with_reducible first | exact HB.out | apply below_alloc | apply pw_below_drewN | apply below_drew1) | exact HB.out))); (case aF => exact (fun _ _ => trivial)); (case aO => exact (by (with_reducible repeat (first | apply Kd.R_alloc | apply Kd.R_drewN | apply Kd.R_drew)); exact HO268.out)); (case aS => exact (below_size (by repeat (first | (with_reducible first | exact HB.out | apply below_alloc | apply pw_below_drewN | apply below_drew1) | exact HB.out)))); (case aL => have := LMc6.out; omega); intro v270 w12 ho hb hg hat; rw [← Ny269.out] at ho; have n0_ := Aside0.mk (hb); have n1_ := Aside0.mk (ho); clear HB; clear HO268; have HB := n0_; have HO271 := n1_; clear n0_ n1_; clear ho hb hg hat; obtain ⟨Ao13, co13, eo13⟩ := Kd.R_slice HO271.out; subst eo13) | (go_at_call 16; (with_reducible refine (lexer_Text.calls k _ _ y269 t272 _ ?side3 ?side1 ?side2 A7.out).mono ?_); (case side1 => repeat (first | exact (Kd.R_reads' HO271.out).2.2 | (with_reducible refine Kd.C_alloc ?_ _) | (with_reducible refine Kd.C_drewN ?_ _) | (with_reducible refine Kd.C_drew ?_))); (case side2 => exact (Kd.R_reads' HO271.out).2.1); (case side3 => exact Go.Proofs.YtifhmdlgjojodaaDoorX.Glob.below hG (by repeat (first | (with_reducible first | exact HB.out | apply below_alloc | apply pw_below_drewN | apply below_drew1) | exact HB.out))); rintro e w14 ⟨rfl, hb⟩; have n0_ := Aside0.mk (Kd.R_below (by (with_reducible repeat (first | apply Kd.R_alloc | apply Kd.R_drewN | apply Kd.R_drew)); exact HO271.out) hb); have n1_ := Aside0.mk (below_step (by repeat (first | (with_reducible first | exact HB.out | apply below_alloc | apply pw_below_drewN | apply below_drew1) | exact HB.out)) hb); clear HO271; clear HB; have HO271 := n0_; have HB := n1_; clear n0_ n1_; (try clear hb); (try clear hb2); (try clear hk); (try clear hi)))
          repeat (go_quiet (first | (go_at_call 9; (with_reducible refine (tapearchivelaw28_lives.calls k  true _ ?side1 A2.out).mono ?_); (case side1 => exact Go.Proofs.YtifhmdlgjojodaaDoorX.Glob.below hG (by repeat (first | (with_reducible first | exact HB.out | apply below_alloc | apply pw_below_drewN | apply below_drew1) | exact HB.out))); rintro e w9 ⟨rfl, hb⟩; have n0_ := Aside0.mk (below_step (by repeat (first | (with_reducible first | exact HB.out | apply below_alloc | apply pw_below_drewN | apply below_drew1) | exact HB.out)) hb); clear HB; have HB := n0_; clear n0_; (try clear hb); (try clear hb2); (try clear hk); (try clear hi)) | (go_at_call 13; (with_reducible refine (tapearchivelaw28_small.calls k _ _ l0 true _ ?side1 ?side2 A4.out).mono ?_); (case side1 => repeat (first | exact (Kd.C_below HR0.out HB.out) | (with_reducible refine Kd.C_alloc ?_ _) | (with_reducible refine Kd.C_drewN ?_ _) | (with_reducible refine Kd.C_drew ?_))); (case side2 => exact HC0.out); rintro e w' ⟨rfl, ⟨nd, rfl⟩⟩; (try first | exact ⟨rfl, _, World.drewN_drewN _ _ _⟩ | exact ⟨rfl, _, Eq.trans (World.drewN_drewN _ _ _) (congrArg (World.drewN _) (Nat.add_assoc _ _ _))⟩)) | ((with_reducible refine gate_dst (N := 13) rfl ?_); (try (refine gate_guard (by rfl) ?_; dsimp only)); refine Kd.R_lit k36 _ 36 ?hg (N := 13) ?hd (xs := ([] : List (S36))) (inner := []) (ok := fun _ => True) (okp := fun _ => True) ?hr ?hp (fun _ hk => hk) trivial (Below.refl _ _) (Nat.le_refl _) (by simp) ?_; (case hd => rfl); (case hg => rfl); (case hr => first | (go_simp; done) | (go_simp; rfl)); (case hp => exact (Reps.none _ _)); intro v267 w10 ho11 hb hg_ hnew_; clear hg_ hnew_; (first | rw [← Ny266.out] at ho11 | (simp only [Int.reduceToNat] at ho11; rw [← Ny266.out] at ho11)); have n0_ := Aside0.mk (Kd.R_lower ho11 (below_size (by repeat (first | (with_reducible first | exact HB.out | apply below_alloc | apply pw_below_drewN | apply below_drew1) | exact HB.out)))); have n1_ := Aside0.mk (below_step (by repeat (first | (with_reducible first | exact HB.out | apply below_alloc | apply pw_below_drewN | apply below_drew1) | exact HB.out)) hb); clear HB; have HO268 := n0_; have HB := n1_; clear n0_ n1_; clear hb ho11) | ((with_reducible refine gate_builtin (b := .append) (xs := #[.tmp 13, .tmp 14]) rfl ?_); (try (refine gate_guard (by rfl) ?_; dsimp only)); at_builtin; refine Kd.R_append_rows k36 (w0 := w) w.heap.size rfl (.tmp 13) (.tmp 14) 23 36 (.agg #[(.int .i64 0), (.string ⟨#[]⟩), (.int .i64 0), (.int .i64 0)]) 40 rfl Tryd.underlying23 info36 rfl (by decide) (by omega) v267 y266 l0 _ _ _ (fun _ => True) (fun _ => False) rfl rfl ?aO ?aR (fun _ _ h => h) (fun _ h => h.elim) ?aF ?aB ?aS ?aL ?_; (case aR => repeat (first | exact (Kd.C_below HR0.out HB.out) | (with_reducible refine Kd.C_alloc ?_ _) | (with_reducible refine Kd.C_drewN ?_ _) | (with_reducible refine Kd.C_drew ?_))); (case aB => exact (by repeat (first | (with_reducible first | exact HB.out | apply below_alloc | apply pw_below_drewN | apply below_drew1) | exact HB.out))); (case aF => exact (fun _ _ => trivial)); (case aO => exact (by (with_reducible repeat (first | apply Kd.R_alloc | apply Kd.R_drewN | apply Kd.R_drew)); exact HO268.out)); (case aS => exact (below_size (by repeat (first | (with_reducible first | exact HB.out | apply below_alloc | apply pw_below_drewN | apply below_drew1) | exact HB.out)))); (case aL => have := LMc6.out; omega); intro v270 w12 ho hb hg hat; rw [← Ny269.out] at ho; have n0_ := Aside0.mk (hb); have n1_ := Aside0.mk (ho); clear HB; clear HO268; have HB := n0_; have HO271 := n1_; clear n0_ n1_; clear ho hb hg hat; obtain ⟨Ao13, co13, eo13⟩ := Kd.R_slice HO271.out; subst eo13) | (go_at_call 16; (with_reducible refine (lexer_Text.calls k _ _ y269 t272 _ ?side3 ?side1 ?side2 A7.out).mono ?_); (case side1 => repeat (first | exact (Kd.R_reads' HO271.out).2.2 | (with_reducible refine Kd.C_alloc ?_ _) | (with_reducible refine Kd.C_drewN ?_ _) | (with_reducible refine Kd.C_drew ?_))); (case side2 => exact (Kd.R_reads' HO271.out).2.1); (case side3 => exact Go.Proofs.YtifhmdlgjojodaaDoorX.Glob.below hG (by repeat (first | (with_reducible first | exact HB.out | apply below_alloc | apply pw_below_drewN | apply below_drew1) | exact HB.out))); rintro e w14 ⟨rfl, hb⟩; have n0_ := Aside0.mk (Kd.R_below (by (with_reducible repeat (first | apply Kd.R_alloc | apply Kd.R_drewN | apply Kd.R_drew)); exact HO271.out) hb); have n1_ := Aside0.mk (below_step (by repeat (first | (with_reducible first | exact HB.out | apply below_alloc | apply pw_below_drewN | apply below_drew1) | exact HB.out)) hb); clear HO271; clear HB; have HO271 := n0_; have HB := n1_; clear n0_ n1_; (try clear hb); (try clear hb2); (try clear hk); (try clear hi))); try go_wp2_with (first | (go_at_call 9; (with_reducible refine (tapearchivelaw28_lives.calls k  true _ ?side1 A2.out).mono ?_); (case side1 => exact Go.Proofs.YtifhmdlgjojodaaDoorX.Glob.below hG (by repeat (first | (with_reducible first | exact HB.out | apply below_alloc | apply pw_below_drewN | apply below_drew1) | exact HB.out))); rintro e w9 ⟨rfl, hb⟩; have n0_ := Aside0.mk (below_step (by repeat (first | (with_reducible first | exact HB.out | apply below_alloc | apply pw_below_drewN | apply below_drew1) | exact HB.out)) hb); clear HB; have HB := n0_; clear n0_; (try clear hb); (try clear hb2); (try clear hk); (try clear hi)) | (go_at_call 13; (with_reducible refine (tapearchivelaw28_small.calls k _ _ l0 true _ ?side1 ?side2 A4.out).mono ?_); (case side1 => repeat (first | exact (Kd.C_below HR0.out HB.out) | (with_reducible refine Kd.C_alloc ?_ _) | (with_reducible refine Kd.C_drewN ?_ _) | (with_reducible refine Kd.C_drew ?_))); (case side2 => exact HC0.out); rintro e w' ⟨rfl, ⟨nd, rfl⟩⟩; (try first | exact ⟨rfl, _, World.drewN_drewN _ _ _⟩ | exact ⟨rfl, _, Eq.trans (World.drewN_drewN _ _ _) (congrArg (World.drewN _) (Nat.add_assoc _ _ _))⟩)) | ((with_reducible refine gate_dst (N := 13) rfl ?_); (try (refine gate_guard (by rfl) ?_; dsimp only)); refine Kd.R_lit k36 _ 36 ?hg (N := 13) ?hd (xs := ([] : List (S36))) (inner := []) (ok := fun _ => True) (okp := fun _ => True) ?hr ?hp (fun _ hk => hk) trivial (Below.refl _ _) (Nat.le_refl _) (by simp) ?_; (case hd => rfl); (case hg => rfl); (case hr => first | (go_simp; done) | (go_simp; rfl)); (case hp => exact (Reps.none _ _)); intro v267 w10 ho11 hb hg_ hnew_; clear hg_ hnew_; (first | rw [← Ny266.out] at ho11 | (simp only [Int.reduceToNat] at ho11; rw [← Ny266.out] at ho11)); have n0_ := Aside0.mk (Kd.R_lower ho11 (below_size (by repeat (first | (with_reducible first | exact HB.out | apply below_alloc | apply pw_below_drewN | apply below_drew1) | exact HB.out)))); have n1_ := Aside0.mk (below_step (by repeat (first | (with_reducible first | exact HB.out | apply below_alloc | apply pw_below_drewN | apply below_drew1) | exact HB.out)) hb); clear HB; have HO268 := n0_; have HB := n1_; clear n0_ n1_; clear hb ho11) | ((with_reducible refine gate_builtin (b := .append) (xs := #[.tmp 13, .tmp 14]) rfl ?_); (try (refine gate_guard (by rfl) ?_; dsimp only)); at_builtin; refine Kd.R_append_rows k36 (w0 := w) w.heap.size rfl (.tmp 13) (.tmp 14) 23 36 (.agg #[(.int .i64 0), (.string ⟨#[]⟩), (.int .i64 0), (.int .i64 0)]) 40 rfl Tryd.underlying23 info36 rfl (by decide) (by omega) v267 y266 l0 _ _ _ (fun _ => True) (fun _ => False) rfl rfl ?aO ?aR (fun _ _ h => h) (fun _ h => h.elim) ?aF ?aB ?aS ?aL ?_; (case aR => repeat (first | exact (Kd.C_below HR0.out HB.out) | (with_reducible refine Kd.C_alloc ?_ _) | (with_reducible refine Kd.C_drewN ?_ _) | (with_reducible refine Kd.C_drew ?_))); (case aB => exact (by repeat (first | (with_reducible first | exact HB.out | apply below_alloc | apply pw_below_drewN | apply below_drew1) | exact HB.out))); (case aF => exact (fun _ _ => trivial)); (case aO => exact (by (with_reducible repeat (first | apply Kd.R_alloc | apply Kd.R_drewN | apply Kd.R_drew)); exact HO268.out)); (case aS => exact (below_size (by repeat (first | (with_reducible first | exact HB.out | apply below_alloc | apply pw_below_drewN | apply below_drew1) | exact HB.out)))); (case aL => have := LMc6.out; omega); intro v270 w12 ho hb hg hat; rw [← Ny269.out] at ho; have n0_ := Aside0.mk (hb); have n1_ := Aside0.mk (ho); clear HB; clear HO268; have HB := n0_; have HO271 := n1_; clear n0_ n1_; clear ho hb hg hat; obtain ⟨Ao13, co13, eo13⟩ := Kd.R_slice HO271.out; subst eo13) | (go_at_call 16; (with_reducible refine (lexer_Text.calls k _ _ y269 t272 _ ?side3 ?side1 ?side2 A7.out).mono ?_); (case side1 => repeat (first | exact (Kd.R_reads' HO271.out).2.2 | (with_reducible refine Kd.C_alloc ?_ _) | (with_reducible refine Kd.C_drewN ?_ _) | (with_reducible refine Kd.C_drew ?_))); (case side2 => exact (Kd.R_reads' HO271.out).2.1); (case side3 => exact Go.Proofs.YtifhmdlgjojodaaDoorX.Glob.below hG (by repeat (first | (with_reducible first | exact HB.out | apply below_alloc | apply pw_below_drewN | apply below_drew1) | exact HB.out))); rintro e w14 ⟨rfl, hb⟩; have n0_ := Aside0.mk (Kd.R_below (by (with_reducible repeat (first | apply Kd.R_alloc | apply Kd.R_drewN | apply Kd.R_drew)); exact HO271.out) hb); have n1_ := Aside0.mk (below_step (by repeat (first | (with_reducible first | exact HB.out | apply below_alloc | apply pw_below_drewN | apply below_drew1) | exact HB.out)) hb); clear HO271; clear HB; have HO271 := n0_; have HB := n1_; clear n0_ n1_; (try clear hb); (try clear hb2); (try clear hk); (try clear hi))))
          go_ret
          exact ⟨by first | rfl | (simp [errW_none, errW_some] <;> rfl) | (simp [*, errW_none, errW_some] <;> rfl), by repeat (first | (with_reducible first | exact HB.out | apply below_alloc | apply pw_below_drewN | apply below_drew1) | exact HB.out)⟩
        · rw [if_neg c8] at H
          have c8b0 : (t272.toList == ([] : List UInt8)) = false := beq_eq_false_iff_ne.mpr c8
          have c8b1 : (t272.toList != ([] : List UInt8)) = true := bne_iff_ne.mpr c8
          have c8b2 : t272.toList.isEmpty = false := by simpa using c8
          replace H := Option.bind_eq_some_iff.mp H
          obtain ⟨⟨t273, t274, t275⟩, A150, H⟩ := H
          replace H : (if t275 = 0 then (if t274 = 0 then ((tapearchiveref28_Same.f k l0 t273 false).bind fun t278 => (tapearchivelaw28_LexerTokens.j0 k t272 t273 (!t278))) else (tapearchivelaw28_LexerTokens.j0 k t272 t273 true)) else (tapearchivelaw28_LexerTokens.j0 k t272 t273 true)) = some r := H
          have A15 := Aside0.mk A150
          clear A150
          have HC16 := Aside0.mk H
          clear H
          go_enter Tryd.func5, Tryd.ntmps5
          go_upto_region 9 with (first | (go_at_call 9; (with_reducible refine (tapearchivelaw28_lives.calls k  true _ ?side1 A2.out).mono ?_); (case side1 => exact Go.Proofs.YtifhmdlgjojodaaDoorX.Glob.below hG (by repeat (first | (with_reducible first | exact HB.out | apply below_alloc | apply pw_below_drewN | apply below_drew1) | exact HB.out))); rintro e w17 ⟨rfl, hb⟩; have n0_ := Aside0.mk (below_step (by repeat (first | (with_reducible first | exact HB.out | apply below_alloc | apply pw_below_drewN | apply below_drew1) | exact HB.out)) hb); clear HB; have HB := n0_; clear n0_; (try clear hb); (try clear hb2); (try clear hk); (try clear hi)) | (go_at_call 13; (with_reducible refine (tapearchivelaw28_small.calls k _ _ l0 true _ ?side1 ?side2 A4.out).mono ?_); (case side1 => repeat (first | exact (Kd.C_below HR0.out HB.out) | (with_reducible refine Kd.C_alloc ?_ _) | (with_reducible refine Kd.C_drewN ?_ _) | (with_reducible refine Kd.C_drew ?_))); (case side2 => exact HC0.out); rintro e w' ⟨rfl, ⟨nd, rfl⟩⟩; (try first | exact ⟨rfl, _, World.drewN_drewN _ _ _⟩ | exact ⟨rfl, _, Eq.trans (World.drewN_drewN _ _ _) (congrArg (World.drewN _) (Nat.add_assoc _ _ _))⟩)) | ((with_reducible refine gate_dst (N := 13) rfl ?_); (try (refine gate_guard (by rfl) ?_; dsimp only)); refine Kd.R_lit k36 _ 36 ?hg (N := 13) ?hd (xs := ([] : List (S36))) (inner := []) (ok := fun _ => True) (okp := fun _ => True) ?hr ?hp (fun _ hk => hk) trivial (Below.refl _ _) (Nat.le_refl _) (by simp) ?_; (case hd => rfl); (case hg => rfl); (case hr => first | (go_simp; done) | (go_simp; rfl)); (case hp => exact (Reps.none _ _)); intro v267 w18 ho19 hb hg_ hnew_; clear hg_ hnew_; (first | rw [← Ny266.out] at ho19 | (simp only [Int.reduceToNat] at ho19; rw [← Ny266.out] at ho19)); have n0_ := Aside0.mk (Kd.R_lower ho19 (below_size (by repeat (first | (with_reducible first | exact HB.out | apply below_alloc | apply pw_below_drewN | apply below_drew1) | exact HB.out)))); have n1_ := Aside0.mk (below_step (by repeat (first | (with_reducible first | exact HB.out | apply below_alloc | apply pw_below_drewN | apply below_drew1) | exact HB.out)) hb); clear HB; have HO268 := n0_; have HB := n1_; clear n0_ n1_; clear hb ho19) | ((with_reducible refine gate_builtin (b := .append) (xs := #[.tmp 13, .tmp 14]) rfl ?_); (try (refine gate_guard (by rfl) ?_; dsimp only)); at_builtin; refine Kd.R_append_rows k36 (w0 := w) w.heap.size rfl (.tmp 13) (.tmp 14) 23 36 (.agg #[(.int .i64 0), (.string ⟨#[]⟩), (.int .i64 0), (.int .i64 0)]) 40 rfl Tryd.underlying23 info36 rfl (by decide) (by omega) v267 y266 l0 _ _ _ (fun _ => True) (fun _ => False) rfl rfl ?aO ?aR (fun _ _ h => h) (fun _ h => h.elim) ?aF ?aB ?aS ?aL ?_; (case aR => repeat (first | exact (Kd.C_below HR0.out HB.out) | (with_reducible refine Kd.C_alloc ?_ _) | (with_reducible refine Kd.C_drewN ?_ _) | (with_reducible refine Kd.C_drew ?_))); (case aB => exact (by repeat (first | (with_reducible first | exact HB.out | apply below_alloc | apply pw_below_drewN | apply below_drew1) | exact HB.out))); (case aF => exact (fun _ _ => trivial)); (case aO => exact (by (with_reducible repeat (first | apply Kd.R_alloc | apply Kd.R_drewN | apply Kd.R_drew)); exact HO268.out)); (case aS => exact (below_size (by repeat (first | (with_reducible first | exact HB.out | apply below_alloc | apply pw_below_drewN | apply below_drew1) | exact HB.out)))); (case aL => have := LMc6.out; omega); intro v270 w20 ho hb hg hat; rw [← Ny269.out] at ho; have n0_ := Aside0.mk (hb); have n1_ := Aside0.mk (ho); clear HB; clear HO268; have HB := n0_; have HO271 := n1_; clear n0_ n1_; clear ho hb hg hat; obtain ⟨Ao21, co21, eo21⟩ := Kd.R_slice HO271.out; subst eo21) | (go_at_call 16; (with_reducible refine (lexer_Text.calls k _ _ y269 t272 _ ?side3 ?side1 ?side2 A7.out).mono ?_); (case side1 => repeat (first | exact (Kd.R_reads' HO271.out).2.2 | (with_reducible refine Kd.C_alloc ?_ _) | (with_reducible refine Kd.C_drewN ?_ _) | (with_reducible refine Kd.C_drew ?_))); (case side2 => exact (Kd.R_reads' HO271.out).2.1); (case side3 => exact Go.Proofs.YtifhmdlgjojodaaDoorX.Glob.below hG (by repeat (first | (with_reducible first | exact HB.out | apply below_alloc | apply pw_below_drewN | apply below_drew1) | exact HB.out))); rintro e w22 ⟨rfl, hb⟩; have n0_ := Aside0.mk (Kd.R_below (by (with_reducible repeat (first | apply Kd.R_alloc | apply Kd.R_drewN | apply Kd.R_drew)); exact HO271.out) hb); have n1_ := Aside0.mk (below_step (by repeat (first | (with_reducible first | exact HB.out | apply below_alloc | apply pw_below_drewN | apply below_drew1) | exact HB.out)) hb); clear HO271; clear HB; have HO271 := n0_; have HB := n1_; clear n0_ n1_; (try clear hb); (try clear hb2); (try clear hk); (try clear hi)) | (go_at_call 10; (with_reducible refine (lexer_Tokens.calls k t272 t273 t274 t275 _ A15.out).mono ?_); rintro e w23 ⟨v276, rfl, ho0, hb⟩; have n0_ := Aside0.mk (Kd.R_elder' (by (with_reducible repeat (first | apply Kd.R_alloc | apply Kd.R_drewN | apply Kd.R_drew)); exact HO271.out) (Kd.R_base ho0) hb); have n1_ := Aside0.mk (Kd.R_lower (Kd.R_new' ho0 (Kd.R_lt (by (with_reducible repeat (first | apply Kd.R_alloc | apply Kd.R_drewN | apply Kd.R_drew)); exact HO271.out))) (below_size (by repeat (first | (with_reducible first | exact HB.out | apply below_alloc | apply pw_below_drewN | apply below_drew1) | exact HB.out)))); have n2_ := Aside0.mk (below_step (by repeat (first | (with_reducible first | exact HB.out | apply below_alloc | apply pw_below_drewN | apply below_drew1) | exact HB.out)) hb); clear HO271; clear HB; have HO271 := n0_; have HO277 := n1_; have HB := n2_; clear n0_ n1_ n2_; (try clear hb); (try clear hb2); (try clear hk); (try clear hi); (try clear ho0)))
          repeat (go_quiet (first | (go_at_call 9; (with_reducible refine (tapearchivelaw28_lives.calls k  true _ ?side1 A2.out).mono ?_); (case side1 => exact Go.Proofs.YtifhmdlgjojodaaDoorX.Glob.below hG (by repeat (first | (with_reducible first | exact HB.out | apply below_alloc | apply pw_below_drewN | apply below_drew1) | exact HB.out))); rintro e w17 ⟨rfl, hb⟩; have n0_ := Aside0.mk (below_step (by repeat (first | (with_reducible first | exact HB.out | apply below_alloc | apply pw_below_drewN | apply below_drew1) | exact HB.out)) hb); clear HB; have HB := n0_; clear n0_; (try clear hb); (try clear hb2); (try clear hk); (try clear hi)) | (go_at_call 13; (with_reducible refine (tapearchivelaw28_small.calls k _ _ l0 true _ ?side1 ?side2 A4.out).mono ?_); (case side1 => repeat (first | exact (Kd.C_below HR0.out HB.out) | (with_reducible refine Kd.C_alloc ?_ _) | (with_reducible refine Kd.C_drewN ?_ _) | (with_reducible refine Kd.C_drew ?_))); (case side2 => exact HC0.out); rintro e w' ⟨rfl, ⟨nd, rfl⟩⟩; (try first | exact ⟨rfl, _, World.drewN_drewN _ _ _⟩ | exact ⟨rfl, _, Eq.trans (World.drewN_drewN _ _ _) (congrArg (World.drewN _) (Nat.add_assoc _ _ _))⟩)) | ((with_reducible refine gate_dst (N := 13) rfl ?_); (try (refine gate_guard (by rfl) ?_; dsimp only)); refine Kd.R_lit k36 _ 36 ?hg (N := 13) ?hd (xs := ([] : List (S36))) (inner := []) (ok := fun _ => True) (okp := fun _ => True) ?hr ?hp (fun _ hk => hk) trivial (Below.refl _ _) (Nat.le_refl _) (by simp) ?_; (case hd => rfl); (case hg => rfl); (case hr => first | (go_simp; done) | (go_simp; rfl)); (case hp => exact (Reps.none _ _)); intro v267 w18 ho19 hb hg_ hnew_; clear hg_ hnew_; (first | rw [← Ny266.out] at ho19 | (simp only [Int.reduceToNat] at ho19; rw [← Ny266.out] at ho19)); have n0_ := Aside0.mk (Kd.R_lower ho19 (below_size (by repeat (first | (with_reducible first | exact HB.out | apply below_alloc | apply pw_below_drewN | apply below_drew1) | exact HB.out)))); have n1_ := Aside0.mk (below_step (by repeat (first | (with_reducible first | exact HB.out | apply below_alloc | apply pw_below_drewN | apply below_drew1) | exact HB.out)) hb); clear HB; have HO268 := n0_; have HB := n1_; clear n0_ n1_; clear hb ho19) | ((with_reducible refine gate_builtin (b := .append) (xs := #[.tmp 13, .tmp 14]) rfl ?_); (try (refine gate_guard (by rfl) ?_; dsimp only)); at_builtin; refine Kd.R_append_rows k36 (w0 := w) w.heap.size rfl (.tmp 13) (.tmp 14) 23 36 (.agg #[(.int .i64 0), (.string ⟨#[]⟩), (.int .i64 0), (.int .i64 0)]) 40 rfl Tryd.underlying23 info36 rfl (by decide) (by omega) v267 y266 l0 _ _ _ (fun _ => True) (fun _ => False) rfl rfl ?aO ?aR (fun _ _ h => h) (fun _ h => h.elim) ?aF ?aB ?aS ?aL ?_; (case aR => repeat (first | exact (Kd.C_below HR0.out HB.out) | (with_reducible refine Kd.C_alloc ?_ _) | (with_reducible refine Kd.C_drewN ?_ _) | (with_reducible refine Kd.C_drew ?_))); (case aB => exact (by repeat (first | (with_reducible first | exact HB.out | apply below_alloc | apply pw_below_drewN | apply below_drew1) | exact HB.out))); (case aF => exact (fun _ _ => trivial)); (case aO => exact (by (with_reducible repeat (first | apply Kd.R_alloc | apply Kd.R_drewN | apply Kd.R_drew)); exact HO268.out)); (case aS => exact (below_size (by repeat (first | (with_reducible first | exact HB.out | apply below_alloc | apply pw_below_drewN | apply below_drew1) | exact HB.out)))); (case aL => have := LMc6.out; omega); intro v270 w20 ho hb hg hat; rw [← Ny269.out] at ho; have n0_ := Aside0.mk (hb); have n1_ := Aside0.mk (ho); clear HB; clear HO268; have HB := n0_; have HO271 := n1_; clear n0_ n1_; clear ho hb hg hat; obtain ⟨Ao21, co21, eo21⟩ := Kd.R_slice HO271.out; subst eo21) | (go_at_call 16; (with_reducible refine (lexer_Text.calls k _ _ y269 t272 _ ?side3 ?side1 ?side2 A7.out).mono ?_); (case side1 => repeat (first | exact (Kd.R_reads' HO271.out).2.2 | (with_reducible refine Kd.C_alloc ?_ _) | (with_reducible refine Kd.C_drewN ?_ _) | (with_reducible refine Kd.C_drew ?_))); (case side2 => exact (Kd.R_reads' HO271.out).2.1); (case side3 => exact Go.Proofs.YtifhmdlgjojodaaDoorX.Glob.below hG (by repeat (first | (with_reducible first | exact HB.out | apply below_alloc | apply pw_below_drewN | apply below_drew1) | exact HB.out))); rintro e w22 ⟨rfl, hb⟩; have n0_ := Aside0.mk (Kd.R_below (by (with_reducible repeat (first | apply Kd.R_alloc | apply Kd.R_drewN | apply Kd.R_drew)); exact HO271.out) hb); have n1_ := Aside0.mk (below_step (by repeat (first | (with_reducible first | exact HB.out | apply below_alloc | apply pw_below_drewN | apply below_drew1) | exact HB.out)) hb); clear HO271; clear HB; have HO271 := n0_; have HB := n1_; clear n0_ n1_; (try clear hb); (try clear hb2); (try clear hk); (try clear hi)) | (go_at_call 10; (with_reducible refine (lexer_Tokens.calls k t272 t273 t274 t275 _ A15.out).mono ?_); rintro e w23 ⟨v276, rfl, ho0, hb⟩; have n0_ := Aside0.mk (Kd.R_elder' (by (with_reducible repeat (first | apply Kd.R_alloc | apply Kd.R_drewN | apply Kd.R_drew)); exact HO271.out) (Kd.R_base ho0) hb); have n1_ := Aside0.mk (Kd.R_lower (Kd.R_new' ho0 (Kd.R_lt (by (with_reducible repeat (first | apply Kd.R_alloc | apply Kd.R_drewN | apply Kd.R_drew)); exact HO271.out))) (below_size (by repeat (first | (with_reducible first | exact HB.out | apply below_alloc | apply pw_below_drewN | apply below_drew1) | exact HB.out)))); have n2_ := Aside0.mk (below_step (by repeat (first | (with_reducible first | exact HB.out | apply below_alloc | apply pw_below_drewN | apply below_drew1) | exact HB.out)) hb); clear HO271; clear HB; have HO271 := n0_; have HO277 := n1_; have HB := n2_; clear n0_ n1_ n2_; (try clear hb); (try clear hb2); (try clear hk); (try clear hi); (try clear ho0))); go_upto_region 9 with (first | (go_at_call 9; (with_reducible refine (tapearchivelaw28_lives.calls k  true _ ?side1 A2.out).mono ?_); (case side1 => exact Go.Proofs.YtifhmdlgjojodaaDoorX.Glob.below hG (by repeat (first | (with_reducible first | exact HB.out | apply below_alloc | apply pw_below_drewN | apply below_drew1) | exact HB.out))); rintro e w17 ⟨rfl, hb⟩; have n0_ := Aside0.mk (below_step (by repeat (first | (with_reducible first | exact HB.out | apply below_alloc | apply pw_below_drewN | apply below_drew1) | exact HB.out)) hb); clear HB; have HB := n0_; clear n0_; (try clear hb); (try clear hb2); (try clear hk); (try clear hi)) | (go_at_call 13; (with_reducible refine (tapearchivelaw28_small.calls k _ _ l0 true _ ?side1 ?side2 A4.out).mono ?_); (case side1 => repeat (first | exact (Kd.C_below HR0.out HB.out) | (with_reducible refine Kd.C_alloc ?_ _) | (with_reducible refine Kd.C_drewN ?_ _) | (with_reducible refine Kd.C_drew ?_))); (case side2 => exact HC0.out); rintro e w' ⟨rfl, ⟨nd, rfl⟩⟩; (try first | exact ⟨rfl, _, World.drewN_drewN _ _ _⟩ | exact ⟨rfl, _, Eq.trans (World.drewN_drewN _ _ _) (congrArg (World.drewN _) (Nat.add_assoc _ _ _))⟩)) | ((with_reducible refine gate_dst (N := 13) rfl ?_); (try (refine gate_guard (by rfl) ?_; dsimp only)); refine Kd.R_lit k36 _ 36 ?hg (N := 13) ?hd (xs := ([] : List (S36))) (inner := []) (ok := fun _ => True) (okp := fun _ => True) ?hr ?hp (fun _ hk => hk) trivial (Below.refl _ _) (Nat.le_refl _) (by simp) ?_; (case hd => rfl); (case hg => rfl); (case hr => first | (go_simp; done) | (go_simp; rfl)); (case hp => exact (Reps.none _ _)); intro v267 w18 ho19 hb hg_ hnew_; clear hg_ hnew_; (first | rw [← Ny266.out] at ho19 | (simp only [Int.reduceToNat] at ho19; rw [← Ny266.out] at ho19)); have n0_ := Aside0.mk (Kd.R_lower ho19 (below_size (by repeat (first | (with_reducible first | exact HB.out | apply below_alloc | apply pw_below_drewN | apply below_drew1) | exact HB.out)))); have n1_ := Aside0.mk (below_step (by repeat (first | (with_reducible first | exact HB.out | apply below_alloc | apply pw_below_drewN | apply below_drew1) | exact HB.out)) hb); clear HB; have HO268 := n0_; have HB := n1_; clear n0_ n1_; clear hb ho19) | ((with_reducible refine gate_builtin (b := .append) (xs := #[.tmp 13, .tmp 14]) rfl ?_); (try (refine gate_guard (by rfl) ?_; dsimp only)); at_builtin; refine Kd.R_append_rows k36 (w0 := w) w.heap.size rfl (.tmp 13) (.tmp 14) 23 36 (.agg #[(.int .i64 0), (.string ⟨#[]⟩), (.int .i64 0), (.int .i64 0)]) 40 rfl Tryd.underlying23 info36 rfl (by decide) (by omega) v267 y266 l0 _ _ _ (fun _ => True) (fun _ => False) rfl rfl ?aO ?aR (fun _ _ h => h) (fun _ h => h.elim) ?aF ?aB ?aS ?aL ?_; (case aR => repeat (first | exact (Kd.C_below HR0.out HB.out) | (with_reducible refine Kd.C_alloc ?_ _) | (with_reducible refine Kd.C_drewN ?_ _) | (with_reducible refine Kd.C_drew ?_))); (case aB => exact (by repeat (first | (with_reducible first | exact HB.out | apply below_alloc | apply pw_below_drewN | apply below_drew1) | exact HB.out))); (case aF => exact (fun _ _ => trivial)); (case aO => exact (by (with_reducible repeat (first | apply Kd.R_alloc | apply Kd.R_drewN | apply Kd.R_drew)); exact HO268.out)); (case aS => exact (below_size (by repeat (first | (with_reducible first | exact HB.out | apply below_alloc | apply pw_below_drewN | apply below_drew1) | exact HB.out)))); (case aL => have := LMc6.out; omega); intro v270 w20 ho hb hg hat; rw [← Ny269.out] at ho; have n0_ := Aside0.mk (hb); have n1_ := Aside0.mk (ho); clear HB; clear HO268; have HB := n0_; have HO271 := n1_; clear n0_ n1_; clear ho hb hg hat; obtain ⟨Ao21, co21, eo21⟩ := Kd.R_slice HO271.out; subst eo21) | (go_at_call 16; (with_reducible refine (lexer_Text.calls k _ _ y269 t272 _ ?side3 ?side1 ?side2 A7.out).mono ?_); (case side1 => repeat (first | exact (Kd.R_reads' HO271.out).2.2 | (with_reducible refine Kd.C_alloc ?_ _) | (with_reducible refine Kd.C_drewN ?_ _) | (with_reducible refine Kd.C_drew ?_))); (case side2 => exact (Kd.R_reads' HO271.out).2.1); (case side3 => exact Go.Proofs.YtifhmdlgjojodaaDoorX.Glob.below hG (by repeat (first | (with_reducible first | exact HB.out | apply below_alloc | apply pw_below_drewN | apply below_drew1) | exact HB.out))); rintro e w22 ⟨rfl, hb⟩; have n0_ := Aside0.mk (Kd.R_below (by (with_reducible repeat (first | apply Kd.R_alloc | apply Kd.R_drewN | apply Kd.R_drew)); exact HO271.out) hb); have n1_ := Aside0.mk (below_step (by repeat (first | (with_reducible first | exact HB.out | apply below_alloc | apply pw_below_drewN | apply below_drew1) | exact HB.out)) hb); clear HO271; clear HB; have HO271 := n0_; have HB := n1_; clear n0_ n1_; (try clear hb); (try clear hb2); (try clear hk); (try clear hi)) | (go_at_call 10; (with_reducible refine (lexer_Tokens.calls k t272 t273 t274 t275 _ A15.out).mono ?_); rintro e w23 ⟨v276, rfl, ho0, hb⟩; have n0_ := Aside0.mk (Kd.R_elder' (by (with_reducible repeat (first | apply Kd.R_alloc | apply Kd.R_drewN | apply Kd.R_drew)); exact HO271.out) (Kd.R_base ho0) hb); have n1_ := Aside0.mk (Kd.R_lower (Kd.R_new' ho0 (Kd.R_lt (by (with_reducible repeat (first | apply Kd.R_alloc | apply Kd.R_drewN | apply Kd.R_drew)); exact HO271.out))) (below_size (by repeat (first | (with_reducible first | exact HB.out | apply below_alloc | apply pw_below_drewN | apply below_drew1) | exact HB.out)))); have n2_ := Aside0.mk (below_step (by repeat (first | (with_reducible first | exact HB.out | apply below_alloc | apply pw_below_drewN | apply below_drew1) | exact HB.out)) hb); clear HO271; clear HB; have HO271 := n0_; have HO277 := n1_; have HB := n2_; clear n0_ n1_ n2_; (try clear hb); (try clear hb2); (try clear hk); (try clear hi); (try clear ho0))))
          (try simp only [Act.put, List.setIfInBounds_toArray, List.set_cons_zero, List.set_cons_succ])
          go_cut [36] (fun v36 wc => ∃ (kq : Nat) (x36_15 : Bool), v36 = .bool x36_15 ∧ Aside0 (tapearchivelaw28_LexerTokens.j0 kq t272 t273 x36_15 = some r) ∧ Aside0 (kq ≤ k) ∧ Aside0 (Kd.R k36 36 wc w.heap.size (fun _ => True) v276 t273) ∧ Aside0 (Below w.heap.size w wc))
          case first =>
            have H := HC16.out
            clear HC16
            by_cases c24 : t275 = 0
            · rw [if_pos c24] at H
              have c24b0 : (t275 == 0) = true := beq_iff_eq.mpr c24
              have c24b1 : (t275 != 0) = false := bne_eq_false_iff_eq.mpr c24
              clear c24
              (first | rw [c24b0] | (simp only [i64_w, i32_w]; rw [c24b0]) | rw [c24b2] | skip)
              by_cases c25 : t274 = 0
              · rw [if_pos c25] at H
                have c25b0 : (t274 == 0) = true := beq_iff_eq.mpr c25
                have c25b1 : (t274 != 0) = false := bne_eq_false_iff_eq.mpr c25
                clear c25
                replace H := Option.bind_eq_some_iff.mp H
                obtain ⟨t278, A260, H⟩ := H
                replace H : (tapearchivelaw28_LexerTokens.j0 k t272 t273 (!t278)) = some r := H
                have A26 := Aside0.mk A260
                clear A260
                have H' := Aside0.mk H
                clear H
                obtain ⟨Ao27, co27, eo27⟩ := Kd.R_slice HO277.out
                subst eo27
                go_wp2_with (first | (go_at_call 12; (with_reducible refine (tapearchiveref28_Same.calls k _ _ l0 _ _ t273 false t278 _ ?side1 ?side2 ?side3 ?side4 A26.out).mono ?_); (case side1 => repeat (first | exact (Kd.C_below HR0.out HB.out) | (with_reducible refine Kd.C_alloc ?_ _) | (with_reducible refine Kd.C_drewN ?_ _) | (with_reducible refine Kd.C_drew ?_))); (case side2 => exact HC0.out); (case side3 => repeat (first | exact (Kd.R_reads' HO277.out).2.2 | (with_reducible refine Kd.C_alloc ?_ _) | (with_reducible refine Kd.C_drewN ?_ _) | (with_reducible refine Kd.C_drew ?_))); (case side4 => exact (Kd.R_reads' HO277.out).2.1); rintro e w28 ⟨rfl, hb⟩; have n0_ := Aside0.mk (Kd.R_below (by (with_reducible repeat (first | apply Kd.R_alloc | apply Kd.R_drewN | apply Kd.R_drew)); exact HO271.out) hb); have n1_ := Aside0.mk (Kd.R_below (by (with_reducible repeat (first | apply Kd.R_alloc | apply Kd.R_drewN | apply Kd.R_drew)); exact HO277.out) hb); have n2_ := Aside0.mk (below_step (by repeat (first | (with_reducible first | exact HB.out | apply below_alloc | apply pw_below_drewN | apply below_drew1) | exact HB.out)) hb); clear HO271; clear HO277; clear HB; have HO271 := n0_; have HO277 := n1_; have HB := n2_; clear n0_ n1_ n2_; (try clear hb); (try clear hb2); (try clear hk); (try clear hi)))
                repeat (go_quiet (first | (go_at_call 12; (with_reducible refine (tapearchiveref28_Same.calls k _ _ l0 _ _ t273 false t278 _ ?side1 ?side2 ?side3 ?side4 A26.out).mono ?_); (case side1 => repeat (first | exact (Kd.C_below HR0.out HB.out) | (with_reducible refine Kd.C_alloc ?_ _) | (with_reducible refine Kd.C_drewN ?_ _) | (with_reducible refine Kd.C_drew ?_))); (case side2 => exact HC0.out); (case side3 => repeat (first | exact (Kd.R_reads' HO277.out).2.2 | (with_reducible refine Kd.C_alloc ?_ _) | (with_reducible refine Kd.C_drewN ?_ _) | (with_reducible refine Kd.C_drew ?_))); (case side4 => exact (Kd.R_reads' HO277.out).2.1); rintro e w28 ⟨rfl, hb⟩; have n0_ := Aside0.mk (Kd.R_below (by (with_reducible repeat (first | apply Kd.R_alloc | apply Kd.R_drewN | apply Kd.R_drew)); exact HO271.out) hb); have n1_ := Aside0.mk (Kd.R_below (by (with_reducible repeat (first | apply Kd.R_alloc | apply Kd.R_drewN | apply Kd.R_drew)); exact HO277.out) hb); have n2_ := Aside0.mk (below_step (by repeat (first | (with_reducible first | exact HB.out | apply below_alloc | apply pw_below_drewN | apply below_drew1) | exact HB.out)) hb); clear HO271; clear HO277; clear HB; have HO271 := n0_; have HO277 := n1_; have HB := n2_; clear n0_ n1_ n2_; (try clear hb); (try clear hb2); (try clear hk); (try clear hi))); try go_wp2_with (first | (go_at_call 12; (with_reducible refine (tapearchiveref28_Same.calls k _ _ l0 _ _ t273 false t278 _ ?side1 ?side2 ?side3 ?side4 A26.out).mono ?_); (case side1 => repeat (first | exact (Kd.C_below HR0.out HB.out) | (with_reducible refine Kd.C_alloc ?_ _) | (with_reducible refine Kd.C_drewN ?_ _) | (with_reducible refine Kd.C_drew ?_))); (case side2 => exact HC0.out); (case side3 => repeat (first | exact (Kd.R_reads' HO277.out).2.2 | (with_reducible refine Kd.C_alloc ?_ _) | (with_reducible refine Kd.C_drewN ?_ _) | (with_reducible refine Kd.C_drew ?_))); (case side4 => exact (Kd.R_reads' HO277.out).2.1); rintro e w28 ⟨rfl, hb⟩; have n0_ := Aside0.mk (Kd.R_below (by (with_reducible repeat (first | apply Kd.R_alloc | apply Kd.R_drewN | apply Kd.R_drew)); exact HO271.out) hb); have n1_ := Aside0.mk (Kd.R_below (by (with_reducible repeat (first | apply Kd.R_alloc | apply Kd.R_drewN | apply Kd.R_drew)); exact HO277.out) hb); have n2_ := Aside0.mk (below_step (by repeat (first | (with_reducible first | exact HB.out | apply below_alloc | apply pw_below_drewN | apply below_drew1) | exact HB.out)) hb); clear HO271; clear HO277; clear HB; have HO271 := n0_; have HO277 := n1_; have HB := n2_; clear n0_ n1_ n2_; (try clear hb); (try clear hb2); (try clear hk); (try clear hi))))
                go_meet
                case rel => exact ⟨_, (!t278), (by first | rfl | (simp; done) | (simp [*]; done)), H', ⟨by first | omega | exact Nat.le_refl _⟩, ⟨by (with_reducible repeat (first | apply Kd.R_alloc | apply Kd.R_drewN | apply Kd.R_drew)); exact Kd.R_mono HO277.out (fun _ hk => trivial)⟩, ⟨by repeat (first | (with_reducible first | exact HB.out | apply below_alloc | apply pw_below_drewN | apply below_drew1) | exact HB.out)⟩⟩
              · rw [if_neg c25] at H
                have c25b0 : (t274 == 0) = false := beq_eq_false_iff_ne.mpr c25
                have c25b1 : (t274 != 0) = true := bne_iff_ne.mpr c25
                have H' := Aside0.mk H
                clear H
                go_wp2
                repeat (go_quiet (fail); try go_wp2)
                go_meet
                case rel => exact ⟨_, (true), (by first | rfl | (simp; done) | (simp [*]; done)), H', ⟨by first | omega | exact Nat.le_refl _⟩, ⟨by (with_reducible repeat (first | apply Kd.R_alloc | apply Kd.R_drewN | apply Kd.R_drew)); exact Kd.R_mono HO277.out (fun _ hk => trivial)⟩, ⟨by repeat (first | (with_reducible first | exact HB.out | apply below_alloc | apply pw_below_drewN | apply below_drew1) | exact HB.out)⟩⟩
            · rw [if_neg c24] at H
              have c24b0 : (t275 == 0) = false := beq_eq_false_iff_ne.mpr c24
              have c24b1 : (t275 != 0) = true := bne_iff_ne.mpr c24
              (first | rw [c24b0] | (simp only [i64_w, i32_w]; rw [c24b0]) | rw [c24b2] | skip)
              have H' := Aside0.mk H
              clear H
              go_wp2
              repeat (go_quiet (fail); try go_wp2)
              go_meet
              case rel => exact ⟨_, (true), (by first | rfl | (simp; done) | (simp [*]; done)), H', ⟨by first | omega | exact Nat.le_refl _⟩, ⟨by (with_reducible repeat (first | apply Kd.R_alloc | apply Kd.R_drewN | apply Kd.R_drew)); exact Kd.R_mono HO277.out (fun _ hk => trivial)⟩, ⟨by repeat (first | (with_reducible first | exact HB.out | apply below_alloc | apply pw_below_drewN | apply below_drew1) | exact HB.out)⟩⟩
          case rest =>
            clear HC16
            try clear c2
            try clear p2
            try clear c3
            try clear c5
            try clear c6
            try clear c8
            try clear c8b0
            try clear c8b1
            try clear c8b2
            try clear c24
            try clear c24b0
            try clear c24b1
            try clear c24b2
            try clear c25
            try clear c25b0
            try clear c25b1
            obtain ⟨kq, x36_15, rfl, HA, HJ15, HO_4, HB⟩ := hcut
            cases kq with
            | zero => exact absurd HA.out (by simp [tapearchivelaw28_LexerTokens.j0])
            | succ kj15 =>
              have H := HA.out
              clear HA
              simp only [tapearchivelaw28_LexerTokens.j0] at H
              by_cases c29 : x36_15 = true
              · subst c29
                have H1 : (some false) = some r := by rw [if_pos rfl] at H; exact H
                clear H
                have H := H1
                clear H1
                obtain rfl := Option.some.inj H
                go_wp2
                repeat (go_quiet (fail); try go_wp2)
                go_ret
                exact ⟨by first | rfl | (simp [errW_none, errW_some] <;> rfl) | (simp [*, errW_none, errW_some] <;> rfl), by repeat (first | (with_reducible first | exact HB.out | apply below_alloc | apply pw_below_drewN | apply below_drew1) | exact HB.out)⟩
              · replace c29 := Bool.eq_false_iff.mpr c29
                subst c29
                have H1 : (tapearchivelaw28_LexerTokens.l0 kj15 t272 t273 0) = some r := by rw [if_neg (show ¬ (false = true) by decide)] at H; exact H
                clear H
                have H := H1
                clear H1
                have H' := Aside0.mk H
                clear H
                go_wp2
                repeat (go_quiet (fail); try go_wp2)
                go_loopg [7] kj15 (fun kq v7 w' => ∃ (x7_2 : Int), v7 = .int .i64 x7_2 ∧ Aside0 (tapearchivelaw28_LexerTokens.l0 kq t272 t273 x7_2 = some r) ∧ Aside0 (kq ≤ kj15) ∧ Aside0 (Kd.R k36 36 w' w.heap.size (fun _ => True) v276 t273) ∧ Aside0 (Below w.heap.size w w'))
                case atStart => exact ⟨(0), (by first | rfl | (simp; done) | (simp [*]; done)), H', ⟨Nat.le_refl _⟩, ⟨by (with_reducible repeat (first | apply Kd.R_alloc | apply Kd.R_drewN | apply Kd.R_drew)); exact HO_4.out⟩, ⟨by repeat (first | (with_reducible first | exact HB.out | apply below_alloc | apply pw_below_drewN | apply below_drew1) | exact HB.out)⟩⟩
                case round =>
                  clear H'
                  try clear c2
                  try clear p2
                  try clear c3
                  try clear c5
                  try clear c6
                  try clear c8
                  try clear c8b0
                  try clear c8b1
                  try clear c8b2
                  try clear c24
                  try clear c24b0
                  try clear c24b1
                  try clear c24b2
                  try clear c25
                  try clear c25b0
                  try clear c25b1
                  try clear c29
                  try clear p2
                  obtain ⟨x7_2, rfl, HA, HK2, HO_4, HB⟩ := hrel
                  cases gk with
                  | zero => exact absurd HA.out (by simp [tapearchivelaw28_LexerTokens.l0])
                  | succ k2 =>
                    have H := HA.out
                    clear HA
                    simp only [tapearchivelaw28_LexerTokens.l0] at H
                    by_cases c30 : x7_2 < (t273.length : Int)
                    · rw [if_pos c30] at H
                      have c30b0 : decide (x7_2 < (t273.length : Int)) = true := decide_eq_true c30
                      clear c30
                      by_cases c31 : 0 ≤ x7_2
                      · rw [if_pos c31] at H
                        have c31b0 : decide (0 ≤ x7_2) = true := decide_eq_true c31
                        clear c31
                        by_cases c32 : ((rd_T36 t273 x7_2).f3) < 0
                        · rw [if_pos c32] at H
                          have c32b0 : decide (((rd_T36 t273 x7_2).f3) < 0) = true := decide_eq_true c32
                          clear c32
                          obtain rfl := Option.some.inj H
                          obtain ⟨Ao33, co33, eo33⟩ := Kd.R_slice HO_4.out
                          subst eo33
                          have p279 : 0 ≤ (x7_2 : Int) := of_decide_eq_true (by first | (with_reducible assumption) | assumption)
                          have q279 : x7_2 < (t273.length : Int) := of_decide_eq_true (by first | (with_reducible assumption) | assumption)
                          obtain ⟨ad279, e279, hx279_0, hx279_1, hx279_2, hx279_3⟩ := at_T36 (Kd.R_reads' HO_4.out).2.2 x7_2 p279 q279
                          cases e279
                          replace p279 := eq_true p279
                          replace q279 := eq_true q279
                          go_wp2
                          repeat (go_quiet (fail); try go_wp2)
                          go_ret
                          exact ⟨by first | rfl | (simp [errW_none, errW_some] <;> rfl) | (simp [*, errW_none, errW_some] <;> rfl), by repeat (first | (with_reducible first | exact HB.out | apply below_alloc | apply pw_below_drewN | apply below_drew1) | exact HB.out)⟩
                        · rw [if_neg c32] at H
                          have c32b0 : decide (((rd_T36 t273 x7_2).f3) < 0) = false := decide_eq_false c32
                          clear c32
                          by_cases c34 : ((rd_T36 t273 x7_2).f3) ≥ (t272.size : Int)
                          · rw [if_pos c34] at H
                            have c34b0 : decide ((t272.size : Int) ≤ ((rd_T36 t273 x7_2).f3)) = true := decide_eq_true c34
                            clear c34
                            obtain rfl := Option.some.inj H
                            obtain ⟨Ao35, co35, eo35⟩ := Kd.R_slice HO_4.out
                            subst eo35
                            have p279 : 0 ≤ (x7_2 : Int) := of_decide_eq_true (by first | (with_reducible assumption) | assumption)
                            have q279 : x7_2 < (t273.length : Int) := of_decide_eq_true (by first | (with_reducible assumption) | assumption)
                            obtain ⟨ad279, e279, hx279_0, hx279_1, hx279_2, hx279_3⟩ := at_T36 (Kd.R_reads' HO_4.out).2.2 x7_2 p279 q279
                            cases e279
                            replace p279 := eq_true p279
                            replace q279 := eq_true q279
                            have p280 : 0 ≤ (x7_2 : Int) := of_decide_eq_true (by first | (with_reducible assumption) | assumption)
                            have q280 : x7_2 < (t273.length : Int) := of_decide_eq_true (by first | (with_reducible assumption) | assumption)
                            obtain ⟨ad280, e280, hx280_0, hx280_1, hx280_2, hx280_3⟩ := at_T36 (Kd.R_reads' HO_4.out).2.2 x7_2 p280 q280
                            obtain rfl : ad279 = ad280 := (by injection e280)
                            replace p280 := eq_true p280
                            replace q280 := eq_true q280
                            go_wp2
                            repeat (go_quiet (fail); try go_wp2)
                            go_ret
                            exact ⟨by first | rfl | (simp [errW_none, errW_some] <;> rfl) | (simp [*, errW_none, errW_some] <;> rfl), by repeat (first | (with_reducible first | exact HB.out | apply below_alloc | apply pw_below_drewN | apply below_drew1) | exact HB.out)⟩
                          · rw [if_neg c34] at H
                            have c34b0 : decide ((t272.size : Int) ≤ ((rd_T36 t273 x7_2).f3)) = false := decide_eq_false c34
                            clear c34
                            by_cases c36 : x7_2 > 0
                            · rw [if_pos c36] at H
                              have c36b0 : decide (0 < x7_2) = true := decide_eq_true c36
                              clear c36
                              obtain ⟨ji37, hji37⟩ : ∃ j_ : Int, (wrap64 (x7_2 - 1)) = j_ := ⟨_, rfl⟩
                              replace H : (if 0 ≤ (ji37) then (if (ji37) < (t273.length : Int) then (if ((rd_T36 t273 x7_2).f3) ≤ ((rd_T36 t273 (ji37)).f3) then (some false) else (tapearchivelaw28_LexerTokens.l0 k2 t272 t273 (wrap64 (x7_2 + 1)))) else (none)) else (none)) = some r := by first | (rw [hji37] at H; exact H) | (simp only [hji37] at H ⊢; exact H)
                              have hji37w : (IntKind.i64.wrap (x7_2 - 1)) = ji37 := (i64_w _).trans hji37
                              by_cases c38 : 0 ≤ (ji37)
                              · rw [if_pos c38] at H
                                have c38b0 : decide (0 ≤ (ji37)) = true := decide_eq_true c38
                                clear c38
                                by_cases c39 : (ji37) < (t273.length : Int)
                                · rw [if_pos c39] at H
                                  have c39b0 : decide ((ji37) < (t273.length : Int)) = true := decide_eq_true c39
                                  clear c39
                                  by_cases c40 : ((rd_T36 t273 x7_2).f3) ≤ ((rd_T36 t273 (ji37)).f3)
                                  · rw [if_pos c40] at H
                                    have c40b0 : decide (((rd_T36 t273 x7_2).f3) ≤ ((rd_T36 t273 (ji37)).f3)) = true := decide_eq_true c40
                                    clear c40
                                    obtain rfl := Option.some.inj H
                                    obtain ⟨Ao41, co41, eo41⟩ := Kd.R_slice HO_4.out
                                    subst eo41
                                    have p279 : 0 ≤ (x7_2 : Int) := of_decide_eq_true (by first | (with_reducible assumption) | assumption)
                                    have q279 : x7_2 < (t273.length : Int) := of_decide_eq_true (by first | (with_reducible assumption) | assumption)
                                    obtain ⟨ad279, e279, hx279_0, hx279_1, hx279_2, hx279_3⟩ := at_T36 (Kd.R_reads' HO_4.out).2.2 x7_2 p279 q279
                                    cases e279
                                    replace p279 := eq_true p279
                                    replace q279 := eq_true q279
                                    have p280 : 0 ≤ (x7_2 : Int) := of_decide_eq_true (by first | (with_reducible assumption) | assumption)
                                    have q280 : x7_2 < (t273.length : Int) := of_decide_eq_true (by first | (with_reducible assumption) | assumption)
                                    obtain ⟨ad280, e280, hx280_0, hx280_1, hx280_2, hx280_3⟩ := at_T36 (Kd.R_reads' HO_4.out).2.2 x7_2 p280 q280
                                    obtain rfl : ad279 = ad280 := (by injection e280)
                                    replace p280 := eq_true p280
                                    replace q280 := eq_true q280
                                    have p281 : 0 ≤ (x7_2 : Int) := of_decide_eq_true (by first | (with_reducible assumption) | assumption)
                                    have q281 : x7_2 < (t273.length : Int) := of_decide_eq_true (by first | (with_reducible assumption) | assumption)
                                    obtain ⟨ad281, e281, hx281_0, hx281_1, hx281_2, hx281_3⟩ := at_T36 (Kd.R_reads' HO_4.out).2.2 x7_2 p281 q281
                                    obtain rfl : ad279 = ad281 := (by injection e281)
                                    replace p281 := eq_true p281
                                    replace q281 := eq_true q281
                                    have p282 : 0 ≤ ((ji37) : Int) := of_decide_eq_true (by first | (with_reducible assumption) | assumption)
                                    have q282 : (ji37) < (t273.length : Int) := of_decide_eq_true (by first | (with_reducible assumption) | assumption)
                                    obtain ⟨ad282, e282, hx282_0, hx282_1, hx282_2, hx282_3⟩ := at_T36 (Kd.R_reads' HO_4.out).2.2 (ji37) p282 q282
                                    obtain rfl : ad279 = ad282 := (by injection e282)
                                    replace p282 := eq_true p282
                                    replace q282 := eq_true q282
                                    go_wp2
                                    repeat (go_quiet (fail); try go_wp2)
                                    go_ret
                                    exact ⟨by first | rfl | (simp [errW_none, errW_some] <;> rfl) | (simp only [← hji37]; first | rfl | (simp [errW_none, errW_some] <;> rfl)) | (simp [*, errW_none, errW_some] <;> rfl), by repeat (first | (with_reducible first | exact HB.out | apply below_alloc | apply pw_below_drewN | apply below_drew1) | exact HB.out)⟩
                                  · rw [if_neg c40] at H
                                    have c40b0 : decide (((rd_T36 t273 x7_2).f3) ≤ ((rd_T36 t273 (ji37)).f3)) = false := decide_eq_false c40
                                    clear c40
                                    have H' := Aside0.mk H
                                    clear H
                                    obtain ⟨Ao42, co42, eo42⟩ := Kd.R_slice HO_4.out
                                    subst eo42
                                    have p279 : 0 ≤ (x7_2 : Int) := of_decide_eq_true (by first | (with_reducible assumption) | assumption)
                                    have q279 : x7_2 < (t273.length : Int) := of_decide_eq_true (by first | (with_reducible assumption) | assumption)
                                    obtain ⟨ad279, e279, hx279_0, hx279_1, hx279_2, hx279_3⟩ := at_T36 (Kd.R_reads' HO_4.out).2.2 x7_2 p279 q279
                                    cases e279
                                    replace p279 := eq_true p279
                                    replace q279 := eq_true q279
                                    have p280 : 0 ≤ (x7_2 : Int) := of_decide_eq_true (by first | (with_reducible assumption) | assumption)
                                    have q280 : x7_2 < (t273.length : Int) := of_decide_eq_true (by first | (with_reducible assumption) | assumption)
                                    obtain ⟨ad280, e280, hx280_0, hx280_1, hx280_2, hx280_3⟩ := at_T36 (Kd.R_reads' HO_4.out).2.2 x7_2 p280 q280
                                    obtain rfl : ad279 = ad280 := (by injection e280)
                                    replace p280 := eq_true p280
                                    replace q280 := eq_true q280
                                    have p281 : 0 ≤ (x7_2 : Int) := of_decide_eq_true (by first | (with_reducible assumption) | assumption)
                                    have q281 : x7_2 < (t273.length : Int) := of_decide_eq_true (by first | (with_reducible assumption) | assumption)
                                    obtain ⟨ad281, e281, hx281_0, hx281_1, hx281_2, hx281_3⟩ := at_T36 (Kd.R_reads' HO_4.out).2.2 x7_2 p281 q281
                                    obtain rfl : ad279 = ad281 := (by injection e281)
                                    replace p281 := eq_true p281
                                    replace q281 := eq_true q281
                                    have p282 : 0 ≤ ((ji37) : Int) := of_decide_eq_true (by first | (with_reducible assumption) | assumption)
                                    have q282 : (ji37) < (t273.length : Int) := of_decide_eq_true (by first | (with_reducible assumption) | assumption)
                                    obtain ⟨ad282, e282, hx282_0, hx282_1, hx282_2, hx282_3⟩ := at_T36 (Kd.R_reads' HO_4.out).2.2 (ji37) p282 q282
                                    obtain rfl : ad279 = ad282 := (by injection e282)
                                    replace p282 := eq_true p282
                                    replace q282 := eq_true q282
                                    go_wp2
                                    repeat (go_quiet (fail); try go_wp2)
                                    go_roundg k2
                                    case measure => have := HJ15.out; have := HK2.out; omega
                                    case rel => exact ⟨(wrap64 (x7_2 + 1)), (by first | rfl | (simp; done) | (simp [*]; done)), H', ⟨by have := HJ15.out; have := HK2.out; omega⟩, ⟨by (with_reducible repeat (first | apply Kd.R_alloc | apply Kd.R_drewN | apply Kd.R_drew)); exact HO_4.out⟩, ⟨by repeat (first | (with_reducible first | exact HB.out | apply below_alloc | apply pw_below_drewN | apply below_drew1) | exact HB.out)⟩⟩
                                · rw [if_neg c39] at H
                                  exact absurd H (by simp)
                              · rw [if_neg c38] at H
                                exact absurd H (by simp)
                            · rw [if_neg c36] at H
                              have c36b0 : decide (0 < x7_2) = false := decide_eq_false c36
                              clear c36
                              have H' := Aside0.mk H
                              clear H
                              obtain ⟨Ao43, co43, eo43⟩ := Kd.R_slice HO_4.out
                              subst eo43
                              have p279 : 0 ≤ (x7_2 : Int) := of_decide_eq_true (by first | (with_reducible assumption) | assumption)
                              have q279 : x7_2 < (t273.length : Int) := of_decide_eq_true (by first | (with_reducible assumption) | assumption)
                              obtain ⟨ad279, e279, hx279_0, hx279_1, hx279_2, hx279_3⟩ := at_T36 (Kd.R_reads' HO_4.out).2.2 x7_2 p279 q279
                              cases e279
                              replace p279 := eq_true p279
                              replace q279 := eq_true q279
                              have p280 : 0 ≤ (x7_2 : Int) := of_decide_eq_true (by first | (with_reducible assumption) | assumption)
                              have q280 : x7_2 < (t273.length : Int) := of_decide_eq_true (by first | (with_reducible assumption) | assumption)
                              obtain ⟨ad280, e280, hx280_0, hx280_1, hx280_2, hx280_3⟩ := at_T36 (Kd.R_reads' HO_4.out).2.2 x7_2 p280 q280
                              obtain rfl : ad279 = ad280 := (by injection e280)
                              replace p280 := eq_true p280
                              replace q280 := eq_true q280
                              go_wp2
                              repeat (go_quiet (fail); try go_wp2)
                              go_roundg k2
                              case measure => have := HJ15.out; have := HK2.out; omega
                              case rel => exact ⟨(wrap64 (x7_2 + 1)), (by first | rfl | (simp; done) | (simp [*]; done)), H', ⟨by have := HJ15.out; have := HK2.out; omega⟩, ⟨by (with_reducible repeat (first | apply Kd.R_alloc | apply Kd.R_drewN | apply Kd.R_drew)); exact HO_4.out⟩, ⟨by repeat (first | (with_reducible first | exact HB.out | apply below_alloc | apply pw_below_drewN | apply below_drew1) | exact HB.out)⟩⟩
                      · rw [if_neg c31] at H
                        exact absurd H (by simp)
                    · rw [if_neg c30] at H
                      have c30b0 : decide (x7_2 < (t273.length : Int)) = false := decide_eq_false c30
                      clear c30
                      obtain rfl := Option.some.inj H
                      obtain ⟨Ao44, co44, eo44⟩ := Kd.R_slice HO_4.out
                      subst eo44
                      go_wp2
                      repeat (go_quiet (fail); try go_wp2)
                      go_ret
                      exact ⟨by first | rfl | (simp [errW_none, errW_some] <;> rfl) | (simp [*, errW_none, errW_some] <;> rfl), by repeat (first | (with_reducible first | exact HB.out | apply below_alloc | apply pw_below_drewN | apply below_drew1) | exact HB.out)⟩
      · rw [if_neg c6] at H
        exact absurd H (by simp)
    · replace c5 := Bool.eq_false_iff.mpr c5
      subst c5
      have H1 : (some true) = some r := by rw [if_neg (show ¬ (false = true) by decide)] at H; exact H
      clear H
      have H := H1
      clear H1
      obtain rfl := Option.some.inj H
      go_enter Tryd.func5, Tryd.ntmps5
      go_wp2_with (first | (go_at_call 9; (with_reducible refine (tapearchivelaw28_lives.calls k  true _ ?side1 A2.out).mono ?_); (case side1 => exact Go.Proofs.YtifhmdlgjojodaaDoorX.Glob.below hG (by repeat (first | (with_reducible first | exact HB.out | apply below_alloc | apply pw_below_drewN | apply below_drew1) | exact HB.out))); rintro e w45 ⟨rfl, hb⟩; have n0_ := Aside0.mk (below_step (by repeat (first | (with_reducible first | exact HB.out | apply below_alloc | apply pw_below_drewN | apply below_drew1) | exact HB.out)) hb); clear HB; have HB := n0_; clear n0_; (try clear hb); (try clear hb2); (try clear hk); (try clear hi)) | (go_at_call 13; (with_reducible refine (tapearchivelaw28_small.calls k _ _ l0 false _ ?side1 ?side2 A4.out).mono ?_); (case side1 => repeat (first | exact (Kd.C_below HR0.out HB.out) | (with_reducible refine Kd.C_alloc ?_ _) | (with_reducible refine Kd.C_drewN ?_ _) | (with_reducible refine Kd.C_drew ?_))); (case side2 => exact HC0.out); rintro e w' ⟨rfl, ⟨nd, rfl⟩⟩; (try first | exact ⟨rfl, _, World.drewN_drewN _ _ _⟩ | exact ⟨rfl, _, Eq.trans (World.drewN_drewN _ _ _) (congrArg (World.drewN _) (Nat.add_assoc _ _ _))⟩)))
      repeat (go_quiet (first | (go_at_call 9; (with_reducible refine (tapearchivelaw28_lives.calls k  true _ ?side1 A2.out).mono ?_); (case side1 => exact Go.Proofs.YtifhmdlgjojodaaDoorX.Glob.below hG (by repeat (first | (with_reducible first | exact HB.out | apply below_alloc | apply pw_below_drewN | apply below_drew1) | exact HB.out))); rintro e w45 ⟨rfl, hb⟩; have n0_ := Aside0.mk (below_step (by repeat (first | (with_reducible first | exact HB.out | apply below_alloc | apply pw_below_drewN | apply below_drew1) | exact HB.out)) hb); clear HB; have HB := n0_; clear n0_; (try clear hb); (try clear hb2); (try clear hk); (try clear hi)) | (go_at_call 13; (with_reducible refine (tapearchivelaw28_small.calls k _ _ l0 false _ ?side1 ?side2 A4.out).mono ?_); (case side1 => repeat (first | exact (Kd.C_below HR0.out HB.out) | (with_reducible refine Kd.C_alloc ?_ _) | (with_reducible refine Kd.C_drewN ?_ _) | (with_reducible refine Kd.C_drew ?_))); (case side2 => exact HC0.out); rintro e w' ⟨rfl, ⟨nd, rfl⟩⟩; (try first | exact ⟨rfl, _, World.drewN_drewN _ _ _⟩ | exact ⟨rfl, _, Eq.trans (World.drewN_drewN _ _ _) (congrArg (World.drewN _) (Nat.add_assoc _ _ _))⟩))); try go_wp2_with (first | (go_at_call 9; (with_reducible refine (tapearchivelaw28_lives.calls k  true _ ?side1 A2.out).mono ?_); (case side1 => exact Go.Proofs.YtifhmdlgjojodaaDoorX.Glob.below hG (by repeat (first | (with_reducible first | exact HB.out | apply below_alloc | apply pw_below_drewN | apply below_drew1) | exact HB.out))); rintro e w45 ⟨rfl, hb⟩; have n0_ := Aside0.mk (below_step (by repeat (first | (with_reducible first | exact HB.out | apply below_alloc | apply pw_below_drewN | apply below_drew1) | exact HB.out)) hb); clear HB; have HB := n0_; clear n0_; (try clear hb); (try clear hb2); (try clear hk); (try clear hi)) | (go_at_call 13; (with_reducible refine (tapearchivelaw28_small.calls k _ _ l0 false _ ?side1 ?side2 A4.out).mono ?_); (case side1 => repeat (first | exact (Kd.C_below HR0.out HB.out) | (with_reducible refine Kd.C_alloc ?_ _) | (with_reducible refine Kd.C_drewN ?_ _) | (with_reducible refine Kd.C_drew ?_))); (case side2 => exact HC0.out); rintro e w' ⟨rfl, ⟨nd, rfl⟩⟩; (try first | exact ⟨rfl, _, World.drewN_drewN _ _ _⟩ | exact ⟨rfl, _, Eq.trans (World.drewN_drewN _ _ _) (congrArg (World.drewN _) (Nat.add_assoc _ _ _))⟩))))
      go_ret
      exact ⟨by first | rfl | (simp [errW_none, errW_some] <;> rfl) | (simp [*, errW_none, errW_some] <;> rfl), by repeat (first | (with_reducible first | exact HB.out | apply below_alloc | apply pw_below_drewN | apply below_drew1) | exact HB.out)⟩
  · replace c3 := Bool.eq_false_iff.mpr c3
    subst c3
    have H1 : (some false) = some r := by rw [if_neg (show ¬ (false = true) by decide)] at H; exact H
    clear H
    have H := H1
    clear H1
    obtain rfl := Option.some.inj H
    go_enter Tryd.func5, Tryd.ntmps5
    go_wp2_with (first | (go_at_call 9; (with_reducible refine (tapearchivelaw28_lives.calls k  false _ ?side1 A2.out).mono ?_); (case side1 => exact Go.Proofs.YtifhmdlgjojodaaDoorX.Glob.below hG (by repeat (first | (with_reducible first | exact HB.out | apply below_alloc | apply pw_below_drewN | apply below_drew1) | exact HB.out))); rintro e w46 ⟨rfl, hb⟩; have n0_ := Aside0.mk (below_step (by repeat (first | (with_reducible first | exact HB.out | apply below_alloc | apply pw_below_drewN | apply below_drew1) | exact HB.out)) hb); clear HB; have HB := n0_; clear n0_; (try clear hb); (try clear hb2); (try clear hk); (try clear hi)))
    repeat (go_quiet (first | (go_at_call 9; (with_reducible refine (tapearchivelaw28_lives.calls k  false _ ?side1 A2.out).mono ?_); (case side1 => exact Go.Proofs.YtifhmdlgjojodaaDoorX.Glob.below hG (by repeat (first | (with_reducible first | exact HB.out | apply below_alloc | apply pw_below_drewN | apply below_drew1) | exact HB.out))); rintro e w46 ⟨rfl, hb⟩; have n0_ := Aside0.mk (below_step (by repeat (first | (with_reducible first | exact HB.out | apply below_alloc | apply pw_below_drewN | apply below_drew1) | exact HB.out)) hb); clear HB; have HB := n0_; clear n0_; (try clear hb); (try clear hb2); (try clear hk); (try clear hi))); try go_wp2_with (first | (go_at_call 9; (with_reducible refine (tapearchivelaw28_lives.calls k  false _ ?side1 A2.out).mono ?_); (case side1 => exact Go.Proofs.YtifhmdlgjojodaaDoorX.Glob.below hG (by repeat (first | (with_reducible first | exact HB.out | apply below_alloc | apply pw_below_drewN | apply below_drew1) | exact HB.out))); rintro e w46 ⟨rfl, hb⟩; have n0_ := Aside0.mk (below_step (by repeat (first | (with_reducible first | exact HB.out | apply below_alloc | apply pw_below_drewN | apply below_drew1) | exact HB.out)) hb); clear HB; have HB := n0_; clear n0_; (try clear hb); (try clear hb2); (try clear hk); (try clear hi))))
    go_ret
    exact ⟨by first | rfl | (simp [errW_none, errW_some] <;> rfl) | (simp [*, errW_none, errW_some] <;> rfl), by repeat (first | (with_reducible first | exact HB.out | apply below_alloc | apply pw_below_drewN | apply below_drew1) | exact HB.out)⟩
end Go.Proofs.YtifhmdlgjojodaaDoor.Q
end
section
namespace Go.Proofs.YtifhmdlgjojodaaDoor.SLexerTokens
open Go.RowKit Go.Proofs.YtifhmdlgjojodaaDoor.Q Go.Proofs.YtifhmdlgjojodaaDoorW.PrintWords Go.Proofs.YtifhmdlgjojodaaDoorW.PrintLast Go.Proofs.YtifhmdlgjojodaaDoorW.Opens Go.Proofs.YtifhmdlgjojodaaDoorW
set_option linter.unusedVariables false
def Wf_t35 (x : S36) : Prop := (Lit.int .i64 x.f0).wf = true ∧ x.f1.size ≤ 140737488351232 ∧ (Lit.int .i64 x.f2).wf = true ∧ (Lit.int .i64 x.f3).wf = true
theorem open_t36 (n : Nat) : OpensN Tryd.prog n 36 k36 Wf_t35 :=
  Opens.opens_le (Opens.opens_struct (n := n) Tryd.underlying36 (by kernel_rfl) (fun y => ⟨⟨y.1, y.2.1, y.2.2.1, y.2.2.2⟩, rfl⟩) (Opens.opensF_cons rfl (by kernel_rfl) (Opens.opens_int n Tryd.underlying3) (Opens.opensF_cons rfl (by kernel_rfl) (Opens.opens_string n Tryd.underlying9) (Opens.opensF_cons rfl (by kernel_rfl) (Opens.opens_int n Tryd.underlying3) (Opens.opensF_one rfl (by kernel_rfl) (Opens.opens_int n Tryd.underlying3)))))) (Nat.le_succ n)
def Pure : Prop := ∀ (x0 : List (S36)), (x0.length ≤ maxLen ∧ x0.length * 40 ≤ 140737488351232 ∧ ∀ y ∈ x0, Wf_t35 y) → ∃ k, tapearchivelaw28_LexerTokens.f k x0 = some true
end Go.Proofs.YtifhmdlgjojodaaDoor.SLexerTokens
end
section
namespace Go.Proofs.YtifhmdlgjojodaaDoor.Lex
open Go.RowKit Go.Proofs.YtifhmdlgjojodaaDoorW.PrintWords Go.Proofs.YtifhmdlgjojodaaDoorW.EvMore
def dig (c : UInt8) : Bool := decide (48 ≤ c.toNat) && decide (c.toNat ≤ 57)
def alp (c : UInt8) : Bool := (decide (97 ≤ c.toNat) && decide (c.toNat ≤ 122)) || (decide (65 ≤ c.toNat) && decide (c.toNat ≤ 90))
def nam (c : UInt8) : Bool := alp c || dig c || c == 95 || c == 45 || c == 46 || c == 47 || c == 42 || c == 63
def pln (c : UInt8) : Bool := decide (32 ≤ c.toNat) && decide (c.toNat ≤ 126) && c != 34
def sym (c : UInt8) : Bool := c == 40 || c == 41 || c == 123 || c == 125 || c == 60 || c == 61 || c == 33 || c == 59 || c == 44 || c == 58
def symT (l : List UInt8) : Bool := l == [62, 61] || (match l with | [c] => sym c | _ => false)
def unit (l : List UInt8) : Nat × Bool :=
  if l = [75] then (1024, true) else if l = [77] then (1048576, true) else if l = [115] then (1, true) else if l = [109] then (60, true) else if l = [104] then (3600, true) else if l = [100] then (86400, true) else (0, false)
def val (l : List UInt8) : Nat := l.foldl (fun n c => 10 * n + (c.toNat - 48)) 0
abbrev Tk := Int × List UInt8 × Int × Nat × Int
def bad (e : Int) : Tk := (0, [], 0, 0, e)
def numFin (ds rs : List UInt8) (f : Nat) : Tk :=
  if 1 < ds.length ∧ ds.head? = some 48 then bad 1
  else if 1125899906842624 / f < val ds then bad 7
  else (2, [], ((val ds * f : Nat) : Int), ds.length + rs.length, 0)
def numTk (l : List UInt8) : Tk :=
  let ds := l.takeWhile dig
  let rs := (l.drop ds.length).takeWhile nam
  if rs = [] then numFin ds rs 1
  else if (unit rs).2 = true then numFin ds rs (unit rs).1
  else bad 1
def txtTk (r : List UInt8) : Tk :=
  let t := r.takeWhile pln
  if r[t.length]? = some 34 then (3, t, 0, t.length + 2, 0) else bad 1
def tk : List UInt8 → Tk
  | [] => bad 1
  | c :: r =>
    if dig c = true then numTk (c :: r)
    else if c = 34 then txtTk r
    else if (nam c && c != 45) = true then (1, (c :: r).takeWhile nam, 0, ((c :: r).takeWhile nam).length, 0)
    else if c = 62 ∧ r.head? = some 61 then (4, [62, 61], 0, 2, 0)
    else if sym c = true then (4, [c], 0, 1, 0)
    else bad 1
def blank : List UInt8 → Bool → Nat
  | [], _ => 0
  | c :: r, false => if c = 32 ∨ c = 10 then 1 + blank r false else if c = 35 then 1 + blank r true else 0
  | c :: r, true => if c = 10 then 1 + blank r false else 1 + blank r true
structure Tok where
  kind : Int
  text : List UInt8
  int : Int
  at_ : Nat
def lexGo : Nat → Nat → List UInt8 → List Tok × Int × Int
  | 0, _, _ => ([], 0, 0)
  | f + 1, p, l =>
    if l = [] then ([], 0, 0)
    else
      let t := tk l
      if t.2.2.2.2 ≠ 0 then ([], p, t.2.2.2.2)
      else
        let l' := l.drop t.2.2.2.1
        let b := blank l' false
        let r := lexGo f (p + t.2.2.2.1 + b) (l'.drop b)
        if r.2.2 ≠ 0 then ([], r.2.1, r.2.2) else (⟨t.1, t.2.1, t.2.2.1, p⟩ :: r.1, 0, 0)
def lex (l : List UInt8) : List Tok × Int × Int :=
  if 16384 < l.length then ([], 0, 6) else lexGo (l.length + 1) (blank l false) (l.drop (blank l false))
theorem blank_le : ∀ (l : List UInt8) (c : Bool), blank l c ≤ l.length
  | [], c => by simp [blank]
  | x :: r, false => by
    have h1 := blank_le r false
    have h2 := blank_le r true
    simp only [blank, List.length_cons]
    split
    · omega
    · split <;> omega
  | x :: r, true => by
    have h1 := blank_le r false
    have h2 := blank_le r true
    simp only [blank, List.length_cons]
    split <;> omega
theorem unit_one {l : List UInt8} (h : (unit l).2 = true) : 1 ≤ (unit l).1 ∧ (unit l).1 ≤ 1048576 ∧ l.length = 1 := by
  unfold unit at h ⊢
  repeat' split
  all_goals simp_all
theorem tk_len (l : List UInt8) (h : (tk l).2.2.2.2 = 0) : 1 ≤ (tk l).2.2.2.1 ∧ (tk l).2.2.2.1 ≤ l.length := by
  cases l with
  | nil => simp [tk, bad] at h
  | cons c r =>
    simp only [tk] at h ⊢
    split
    · rename_i hd
      rw [if_pos hd] at h
      have hl : 1 ≤ ((c :: r).takeWhile dig).length := by simp [List.takeWhile_cons, hd]
      have h2 : ((c :: r).takeWhile dig).length ≤ (c :: r).length := (List.takeWhile_sublist _).length_le
      have h3 : (((c :: r).drop ((c :: r).takeWhile dig).length).takeWhile nam).length ≤ ((c :: r).drop ((c :: r).takeWhile dig).length).length := (List.takeWhile_sublist _).length_le
      rw [List.length_drop] at h3
      have fin : ∀ f, (numFin ((c :: r).takeWhile dig) (((c :: r).drop ((c :: r).takeWhile dig).length).takeWhile nam) f).2.2.2.2 = 0 →
          1 ≤ (numFin ((c :: r).takeWhile dig) (((c :: r).drop ((c :: r).takeWhile dig).length).takeWhile nam) f).2.2.2.1 ∧ (numFin ((c :: r).takeWhile dig) (((c :: r).drop ((c :: r).takeWhile dig).length).takeWhile nam) f).2.2.2.1 ≤ (c :: r).length := by
        intro f hf
        unfold numFin at hf ⊢
        split
        · rename_i h0; rw [if_pos h0] at hf; simp [bad] at hf
        · rename_i h0
          rw [if_neg h0] at hf
          split
          · rename_i h1; rw [if_pos h1] at hf; simp [bad] at hf
          · exact ⟨by show 1 ≤ _ + _; omega, by show _ + _ ≤ _; omega⟩
      unfold numTk at h ⊢
      simp only at h ⊢
      split
      · rename_i h0; rw [if_pos h0] at h; exact fin _ h
      · rename_i h0
        rw [if_neg h0] at h
        split
        · rename_i h1; rw [if_pos h1] at h; exact fin _ h
        · rename_i h1; rw [if_neg h1] at h; simp [bad] at h
    · rename_i hd
      rw [if_neg hd] at h
      split
      · rename_i hq
        rw [if_pos hq] at h
        unfold txtTk at h ⊢
        simp only at h ⊢
        split
        · rename_i h1
          obtain ⟨hlt, _⟩ := List.getElem?_eq_some_iff.1 h1
          exact ⟨by show 1 ≤ _ + 2; omega, by show _ + 2 ≤ _; simp only [List.length_cons]; omega⟩
        · rename_i h1; rw [if_neg h1] at h; simp [bad] at h
      · rename_i hq
        rw [if_neg hq] at h
        split
        · rename_i hn
          have hn' : nam c = true := by simp at hn; exact hn.1
          have h2 : ((c :: r).takeWhile nam).length ≤ (c :: r).length := (List.takeWhile_sublist _).length_le
          refine ⟨?_, h2⟩
          show 1 ≤ ((c :: r).takeWhile nam).length
          simp [List.takeWhile_cons, hn']
        · rename_i hn
          rw [if_neg hn] at h
          split
          · rename_i h1
            have : r ≠ [] := by rintro rfl; simp at h1
            have : 1 ≤ r.length := by cases r with | nil => exact absurd rfl this | cons _ _ => simp
            exact ⟨by show 1 ≤ 2; omega, by show 2 ≤ _; simp only [List.length_cons]; omega⟩
          · rename_i h1
            rw [if_neg h1] at h
            split
            · exact ⟨Nat.le_refl 1, by show 1 ≤ _; simp⟩
            · rename_i h2; rw [if_neg h2] at h; simp [bad] at h
end Go.Proofs.YtifhmdlgjojodaaDoor.Lex
end
section
namespace Go.Proofs.YtifhmdlgjojodaaDoor.Lex
open Go.RowKit Go.Proofs.YtifhmdlgjojodaaDoor.Q Go.Proofs.YtifhmdlgjojodaaDoorW.PrintWords Go.Proofs.YtifhmdlgjojodaaDoorW.PrintMore Go.Proofs.YtifhmdlgjojodaaDoorW.EvMore
theorem dig_f (c : UInt8) : lexer_digit.f (c.toNat : Int) = some (dig c) := by
  unfold lexer_digit.f dig
  by_cases h : 48 ≤ c.toNat
  · rw [if_pos (by omega)]
    simp only [h, decide_true, Bool.true_and, Option.some.injEq, decide_eq_decide]
    omega
  · rw [if_neg (by omega)]
    simp [h]
theorem alp_f (c : UInt8) : lexer_letter.f (c.toNat : Int) = some (alp c) := by
  unfold lexer_letter.f alp
  by_cases h : 97 ≤ c.toNat
  · rw [if_pos (by omega)]
    by_cases h2 : c.toNat ≤ 122
    · rw [if_pos (by omega)]; simp [h, h2]
    · rw [if_neg (by omega), if_pos (by omega)]
      have : ¬ c.toNat ≤ 90 := by omega
      simp [h2, this]
      omega
  · rw [if_neg (by omega)]
    by_cases h2 : 65 ≤ c.toNat
    · rw [if_pos (by omega)]
      simp only [h, h2, decide_true, decide_false, Bool.false_and, Bool.true_and, Bool.false_or, Option.some.injEq, decide_eq_decide]
      omega
    · rw [if_neg (by omega)]
      simp [h, h2]
theorem plain_f (c : UInt8) : lexer_plain.f (c.toNat : Int) = some (pln c) := by
  unfold lexer_plain.f pln
  have e34 : (((c.toNat : Int) != 34) : Bool) = (c != 34) := by
    rw [Bool.eq_iff_iff]
    simp only [bne_iff_ne, ne_eq]
    constructor
    · intro h e; subst e; exact h rfl
    · intro h e; apply h; apply UInt8.toNat_inj.1; have : c.toNat = 34 := by omega
      rw [this]; rfl
  by_cases h : 32 ≤ c.toNat
  · rw [if_pos (by omega)]
    by_cases h2 : c.toNat ≤ 126
    · rw [if_pos (by omega), e34]; simp [h, h2]
    · rw [if_neg (by omega)]; simp [h2]
  · rw [if_neg (by omega)]
    simp [h]
theorem idx_has (c : UInt8) : ∀ l : List UInt8, decide (Lib.indexByte l c ≥ 0) = l.contains c
  | [] => by simp [Lib.indexByte]
  | b :: l => by
    have ih := idx_has c l
    have hg := Lib.indexByte_ge l c
    rw [Lib.indexByte, List.contains_cons]
    by_cases e : b = c
    · subst e; simp
    · rw [if_neg (by simpa using e)]
      have e2 : (c == b) = false := by simpa using fun h => e h.symm
      rw [e2, Bool.false_or, ← ih]
      by_cases h1 : Lib.indexByte l c = -1
      · simp [h1]
      · rw [if_neg (by simpa using h1)]
        simp only [decide_eq_decide]
        omega
theorem byte_back (c : UInt8) : (c.toNat : Int).toNat.toUInt8 = c := by simp
theorem name_f (c : UInt8) : lexer_nameByte.f (c.toNat : Int) = some (nam c) := by
  unfold lexer_nameByte.f nam
  rw [alp_f, Option.bind_some]
  cases ha : alp c with
  | true => simp
  | false =>
    rw [if_neg (by simp), dig_f, Option.bind_some]
    cases hd : dig c with
    | true => simp
    | false =>
      rw [if_neg (by simp)]
      unfold strings_IndexByte.f
      rw [Option.bind_some, byte_back, idx_has]
      simp [Bool.or_assoc, Bool.beq_eq_decide_eq]
theorem run_gen (g : Nat → ByteArray → Int → Int → Option ByteArray) (pf : Int → Option Bool) (p : UInt8 → Bool) (hp : ∀ c : UInt8, pf (c.toNat : Int) = some (p c))
    (hg : ∀ k x n i, g (k + 1) x n i = if i < n then (if 0 ≤ i then (if i < (x.size : Int) then ((pf (bt x i)).bind fun t => (if t = true then (g k x n (wrap64 (i + 1))) else (if i ≤ (x.size : Int) then (some (x.extract 0 (i : Int).toNat)) else (none)))) else (none)) else (none)) else (some x))
    (s : ByteArray) (hs : s.size ≤ 4611686018427387904) (d : Nat) : ∀ (i : Nat), i ≤ s.size → s.size - i = d → ((bs s).take i).all p = true →
    Ev (fun k => g k s s.size i) (s.extract 0 ((bs s).takeWhile p).length) := by
  have hw : ∀ i, i ≤ s.size → ((bs s).take i).all p = true → ((bs s).takeWhile p).length = i + (((bs s).drop i).takeWhile p).length := by
    intro i hi ha
    conv => lhs; rw [← List.take_append_drop i (bs s)]
    rw [List.takeWhile_append_of_pos (fun a h => List.all_eq_true.1 ha a h), List.length_append, List.length_take, bs_length]
    omega
  induction d with
  | zero =>
    intro i hi hd ha
    have h1 := hw i hi ha
    rw [List.drop_of_length_le (by rw [bs_length]; omega)] at h1
    have e : ((bs s).takeWhile p).length = s.size := by simp at h1; omega
    refine Ev.next (fun k => hg k s _ _) ?_
    refine Ev.neg (by omega) (Ev.done fun _ => ?_)
    rw [e]
    congr 1
    apply bs_inj
    rw [bs_extract]
    simp [← bs_length]
  | succ d ih =>
    intro i hi hd ha
    have hlt : i < s.size := by omega
    have hltL : i < (bs s).length := hlt
    have h1 := hw i hi ha
    have hc : (bs s)[i]? = some ((bs s)[i]'hltL) := List.getElem?_eq_getElem hltL
    refine Ev.next (fun k => hg k s _ _) ?_
    refine Ev.pos (by omega) (Ev.pos (by omega) (Ev.pos (by omega) ?_))
    rw [bt_get s i _ hc]
    refine Ev.bindS (hp _) ?_
    cases hv : p ((bs s)[i]'hltL) with
    | true =>
      refine Ev.pos rfl ?_
      have e : wrap64 ((i : Int) + 1) = ((i + 1 : Nat) : Int) := by rw [wrap_in (by omega) (by omega)]; rfl
      rw [e]
      refine ih (i + 1) (by omega) (by omega) ?_
      rw [List.take_succ_eq_append_getElem hltL, List.all_append, ha]
      simp [hv]
    | false =>
      refine Ev.neg (by simp) (Ev.pos (by omega) (Ev.done fun _ => ?_))
      have h2 : ((bs s).drop i).takeWhile p = [] := by
        rw [List.drop_eq_getElem_cons hltL, List.takeWhile_cons, hv]
        rfl
      rw [h2] at h1
      rw [h1]
      simp
theorem run_digit (s : ByteArray) (hs : s.size ≤ 4611686018427387904) : Ev (fun k => lexer_run_lexer_digit.f k s) (s.extract 0 ((bs s).takeWhile dig).length) :=
  Ev.same (run_gen lexer_run_lexer_digit.l0 lexer_digit.f dig dig_f (fun k x n i => by rw [lexer_run_lexer_digit.l0]) s hs _ 0 (Nat.zero_le _) rfl (by simp)) (fun k => rfl)
theorem run_name (s : ByteArray) (hs : s.size ≤ 4611686018427387904) : Ev (fun k => lexer_run_lexer_nameByte.f k s) (s.extract 0 ((bs s).takeWhile nam).length) :=
  Ev.same (run_gen lexer_run_lexer_nameByte.l0 lexer_nameByte.f nam name_f (fun k x n i => by rw [lexer_run_lexer_nameByte.l0]) s hs _ 0 (Nat.zero_le _) rfl (by simp)) (fun k => rfl)
theorem run_plain (s : ByteArray) (hs : s.size ≤ 4611686018427387904) : Ev (fun k => lexer_run_lexer_plain.f k s) (s.extract 0 ((bs s).takeWhile pln).length) :=
  Ev.same (run_gen lexer_run_lexer_plain.l0 lexer_plain.f pln plain_f (fun k x n i => by rw [lexer_run_lexer_plain.l0]) s hs _ 0 (Nat.zero_le _) rfl (by simp)) (fun k => rfl)
theorem take_takeWhile (p : UInt8 → Bool) (l : List UInt8) : l.take (l.takeWhile p).length = l.takeWhile p := by
  induction l with
  | nil => rfl
  | cons c r ih =>
    rw [List.takeWhile_cons]
    cases p c with
    | true => simp [ih]
    | false => rfl
theorem bs_run (s : ByteArray) (p : UInt8 → Bool) : bs (s.extract 0 ((bs s).takeWhile p).length) = (bs s).takeWhile p := by
  rw [bs_extract, List.drop_zero, Nat.sub_zero, take_takeWhile]
theorem takeWhile_le (p : UInt8 → Bool) (l : List UInt8) : (l.takeWhile p).length ≤ l.length := (List.takeWhile_sublist _).length_le
theorem bs_eq_iff (s : ByteArray) (l : List UInt8) : s.toList = l ↔ bs s = l := by rw [toList_bs]
theorem unit_f (s : ByteArray) : lexer_Unit.f s = some (((unit (bs s)).1 : Int), (unit (bs s)).2) := by
  unfold lexer_Unit.f unit
  simp only [bs_eq_iff]
  repeat' split
  all_goals rfl
end Go.Proofs.YtifhmdlgjojodaaDoor.Lex
end
section
namespace Go.Proofs.YtifhmdlgjojodaaDoor.Lex
open Go.RowKit Go.Proofs.YtifhmdlgjojodaaDoor.Q Go.Proofs.YtifhmdlgjojodaaDoorW.PrintWords Go.Proofs.YtifhmdlgjojodaaDoorW.PrintMore Go.Proofs.YtifhmdlgjojodaaDoorW.EvMore
def outP (t : Tk) : Int × ByteArray × Int × Int × Int × Int := (t.1, ⟨t.2.1.toArray⟩, t.2.2.1, 0, (t.2.2.2.1 : Int), t.2.2.2.2)
theorem val_snoc (l : List UInt8) (c : UInt8) : val (l ++ [c]) = 10 * val l + (c.toNat - 48) := by simp [val, List.foldl_append]
theorem val_from (l : List UInt8) : ∀ n : Nat, n ≤ l.foldl (fun n c => 10 * n + (c.toNat - 48)) n := by
  induction l with
  | nil => intro n; exact Nat.le_refl _
  | cons c r ih => intro n; exact Nat.le_trans (show n ≤ 10 * n + (c.toNat - 48) by omega) (ih _)
theorem val_take_le (l : List UInt8) (i : Nat) : val (l.take i) ≤ val l := by
  conv => rhs; rw [← List.take_append_drop i l]
  unfold val
  rw [List.foldl_append]
  exact val_from _ _
theorem tdiv_nat (a b : Nat) : Int.tdiv (a : Int) (b : Int) = ((a / b : Nat) : Int) := rfl
theorem takeWhile_all (p : UInt8 → Bool) (l : List UInt8) : (l.takeWhile p).all p = true := by
  induction l with
  | nil => rfl
  | cons c r ih =>
    rw [List.takeWhile_cons]
    cases h : p c with
    | true => simp [h]
    | false => rfl
theorem num_loop (x5 x6 : ByteArray) (f : Nat) (h1 : 1 ≤ f) (h2 : f ≤ 1048576) (hs : x5.size ≤ 4611686018427387904) (hs6 : x6.size ≤ 1) (hd : (bs x5).all dig = true) (d : Nat) :
    ∀ (i : Nat), i ≤ x5.size → x5.size - i = d → val ((bs x5).take i) ≤ 1125899906842624 →
    Ev (fun k => lexer_number.l0 k x5 x6 f (val ((bs x5).take i) : Nat) x5.size i)
      (outP (if 1125899906842624 / f < val (bs x5) then bad 7 else (2, [], ((val (bs x5) * f : Nat) : Int), (bs x5).length + (bs x6).length, 0))) := by
  have hdiv : 1125899906842624 / f ≤ 1125899906842624 := Nat.div_le_self _ _
  induction d with
  | zero =>
    intro i hi hdi hv
    have e : (bs x5).take i = bs x5 := List.take_of_length_le (by rw [bs_length]; omega)
    rw [e] at hv ⊢
    refine Ev.next (fun k => by rw [lexer_number.l0]) ?_
    refine Ev.neg (by omega) (Ev.neg (by omega) ?_)
    have et : wrap64 (Int.tdiv (1125899906842624 : Int) (f : Int)) = ((1125899906842624 / f : Nat) : Int) := by
      rw [show (1125899906842624 : Int) = ((1125899906842624 : Nat) : Int) from rfl, tdiv_nat]
      exact wrap_nat (by omega)
    rw [et]
    by_cases hc : 1125899906842624 / f < val (bs x5)
    · refine Ev.pos (by omega) (Ev.done fun _ => ?_)
      rw [if_pos hc]
      rfl
    · refine Ev.neg (by omega) (Ev.done fun _ => ?_)
      rw [if_neg hc]
      have hm : val (bs x5) * f ≤ 1125899906842624 := by
        have := Nat.mul_le_mul_right f (Nat.le_of_not_lt hc)
        exact Nat.le_trans this (Nat.div_mul_le_self _ _)
      have e1 : wrap64 ((val (bs x5) : Nat) * (f : Int)) = ((val (bs x5) * f : Nat) : Int) := by
        rw [show ((val (bs x5) : Nat) : Int) * (f : Int) = ((val (bs x5) * f : Nat) : Int) from by simp]
        exact wrap_nat (by omega)
      have e2 : wrap64 ((x5.size : Int) + (x6.size : Int)) = (((bs x5).length + (bs x6).length : Nat) : Int) := by
        rw [bs_length, bs_length, show (x5.size : Int) + (x6.size : Int) = ((x5.size + x6.size : Nat) : Int) from by simp]
        exact wrap_nat (by omega)
      rw [e1, e2]
      rfl
  | succ d ih =>
    intro i hi hdi hv
    have hlt : i < x5.size := by omega
    have hltL : i < (bs x5).length := hlt
    have hc : (bs x5)[i]? = some ((bs x5)[i]'hltL) := List.getElem?_eq_getElem hltL
    have hdc : dig ((bs x5)[i]'hltL) = true := List.all_eq_true.1 hd _ (List.getElem_mem hltL)
    have hsn : val ((bs x5).take (i + 1)) = 10 * val ((bs x5).take i) + (((bs x5)[i]'hltL).toNat - 48) := by
      rw [List.take_succ_eq_append_getElem hltL, val_snoc]
    generalize (bs x5)[i]'hltL = c at hc hdc hsn
    have hb : 48 ≤ c.toNat ∧ c.toNat ≤ 57 := by simpa [dig] using hdc
    refine Ev.next (fun k => by rw [lexer_number.l0]) ?_
    refine Ev.pos (by omega) (Ev.pos (by omega) (Ev.pos (by omega) ?_))
    rw [bt_get x5 i c hc]
    have hle1 := val_take_le (bs x5) (i + 1)
    have ih1 := ih (i + 1) (by omega) (by omega)
    clear ih
    generalize val ((bs x5).take (i + 1)) = v1 at hsn hle1 ih1 ⊢
    generalize val ((bs x5).take i) = v0 at hsn hv ⊢
    generalize val (bs x5) = vt at hle1 ih1 ⊢
    have e0 : wrap64 (10 * (v0 : Int)) = 10 * (v0 : Int) := wrap_in (by omega) (by omega)
    have e1 : wrap64 (10 * (v0 : Int) + ((c.toNat : Int) - 48) % 256) = (v1 : Int) := by
      rw [wrap_in (by omega) (by omega)]
      omega
    have e2 : wrap64 ((i : Int) + 1) = ((i + 1 : Nat) : Int) := by rw [wrap_in (by omega) (by omega)]; rfl
    rw [e0, e1, e2]
    by_cases hbig : 1125899906842624 < v1
    · have hb1 : (v1 : Int) > 1125899906842624 := by omega
      have hb2 : 1125899906842624 / f < vt := by omega
      refine Ev.pos hb1 (Ev.done fun _ => ?_)
      rw [if_pos hb2]
      rfl
    · have hb1 : ¬ (v1 : Int) > 1125899906842624 := by omega
      have hb2 : v1 ≤ 1125899906842624 := by omega
      exact Ev.neg hb1 (ih1 hb2)
theorem num_fin (x5 x6 : ByteArray) (f : Nat) (h1 : 1 ≤ f) (h2 : f ≤ 1048576) (hs : x5.size ≤ 4611686018427387904) (hs6 : x6.size ≤ 1) (hd : (bs x5).all dig = true) :
    Ev (fun k => lexer_number.j0 k x5 x6 f) (outP (numFin (bs x5) (bs x6) f)) := by
  have go : ∀ b : Bool, b = decide (1 < (bs x5).length ∧ (bs x5).head? = some 48) → Ev (fun k => lexer_number.j1 k x5 x6 f b) (outP (numFin (bs x5) (bs x6) f)) := by
    intro b hb
    refine Ev.next (fun k => by rw [lexer_number.j1]) ?_
    unfold numFin
    cases b with
    | true =>
      rw [if_pos (of_decide_eq_true hb.symm)]
      exact Ev.pos rfl (Ev.done fun _ => rfl)
    | false =>
      rw [if_neg (of_decide_eq_false hb.symm)]
      refine Ev.neg (by simp) ?_
      exact num_loop x5 x6 f h1 h2 hs hs6 hd _ 0 (Nat.zero_le _) rfl (by simp [val])
  refine Ev.next (fun k => by rw [lexer_number.j0]) ?_
  by_cases hl : 1 < x5.size
  · refine Ev.pos (by omega) (Ev.pos (by omega) ?_)
    refine go _ ?_
    have hltL : 0 < (bs x5).length := by rw [bs_length]; omega
    have hc : (bs x5)[0]? = some ((bs x5)[0]'hltL) := List.getElem?_eq_getElem hltL
    have hh : (bs x5).head? = some ((bs x5)[0]'hltL) := by rw [List.head?_eq_getElem?]; exact hc
    have := bt_get x5 0 _ hc
    rw [show ((0 : Nat) : Int) = 0 from rfl] at this
    rw [this, hh]
    have hl' : 1 < (bs x5).length := hl
    generalize (bs x5)[0]'hltL = c
    rw [Bool.eq_iff_iff]
    simp only [beq_iff_eq, decide_eq_true_eq, Option.some.injEq, hl', true_and]
    constructor
    · intro h; apply UInt8.toNat_inj.1; have : c.toNat = 48 := by omega
      rw [this]; rfl
    · rintro rfl; rfl
  · refine Ev.neg (by omega) (go _ ?_)
    symm
    rw [decide_eq_false_iff_not, bs_length]
    exact fun h => hl h.1
theorem number_ev (s : ByteArray) (hs : s.size ≤ 4611686018427387904) : Ev (fun k => lexer_number.f k s) (outP (numTk (bs s))) := by
  have hle := takeWhile_le dig (bs s)
  rw [bs_length] at hle
  have hd := bs_run s dig
  have hsz : (s.extract 0 ((bs s).takeWhile dig).length).size = ((bs s).takeWhile dig).length := by rw [size_extract]; omega
  unfold lexer_number.f
  refine Ev.both (run_digit s hs) ?_
  refine Ev.pos (by omega) (Ev.pos (by omega) ?_)
  have he : bs (s.extract ((s.extract 0 ((bs s).takeWhile dig).length).size : Int).toNat s.size) = (bs s).drop ((bs s).takeWhile dig).length := by
    rw [bs_extract, hsz, Int.toNat_natCast]
    exact List.take_of_length_le (by rw [List.length_drop, bs_length]; omega)
  have hez : (s.extract ((s.extract 0 ((bs s).takeWhile dig).length).size : Int).toNat s.size).size ≤ 4611686018427387904 := by rw [size_extract]; omega
  refine Ev.both (run_name _ hez) ?_
  have hr := bs_run (s.extract ((s.extract 0 ((bs s).takeWhile dig).length).size : Int).toNat s.size) nam
  rw [he] at hr ⊢
  generalize (s.extract ((s.extract 0 ((bs s).takeWhile dig).length).size : Int).toNat s.size).extract 0 (((bs s).drop ((bs s).takeWhile dig).length).takeWhile nam).length = x6 at hr ⊢
  have hall : (bs (s.extract 0 ((bs s).takeWhile dig).length)).all dig = true := by rw [hd]; exact takeWhile_all _ _
  have hsz5 : (s.extract 0 ((bs s).takeWhile dig).length).size ≤ 4611686018427387904 := by omega
  generalize (s.extract 0 ((bs s).takeWhile dig).length) = x5 at hd hall hsz5 ⊢
  unfold numTk
  simp only
  rw [← hr, ← hd]
  by_cases h0 : bs x6 = []
  · refine Ev.pos ((bs_eq_iff _ _).2 h0) ?_
    rw [if_pos h0]
    exact num_fin x5 x6 1 (by omega) (by omega) hsz5 (by rw [← bs_length, h0]; simp) hall
  · refine Ev.neg (fun h => h0 ((bs_eq_iff _ _).1 h)) ?_
    rw [if_neg h0]
    refine Ev.bindS (unit_f x6) ?_
    by_cases hu : (unit (bs x6)).2 = true
    · refine Ev.pos hu ?_
      rw [if_pos hu]
      obtain ⟨u1, u2, u3⟩ := unit_one hu
      exact num_fin x5 x6 _ u1 u2 hsz5 (by rw [← bs_length, u3]; omega) hall
    · refine Ev.neg hu (Ev.done fun _ => ?_)
      rw [if_neg hu]
      rfl
theorem quoted_ev (s : ByteArray) (r : List UInt8) (hb : bs s = 34 :: r) (hs : s.size ≤ 4611686018427387904) : Ev (fun k => lexer_quoted.f k s) (outP (txtTk r)) := by
  have hl : s.size = r.length + 1 := by rw [← bs_length, hb]; rfl
  have he : bs (s.extract 1 s.size) = r := by
    rw [bs_extract, hb, List.drop_one, List.tail_cons]
    exact List.take_of_length_le (by omega)
  unfold lexer_quoted.f
  refine Ev.pos (by omega) ?_
  refine Ev.both (run_plain _ (by rw [size_extract]; omega)) ?_
  have ht := bs_run (s.extract 1 s.size) pln
  rw [he] at ht ⊢
  have hle := takeWhile_le pln r
  generalize (s.extract 1 s.size).extract 0 (r.takeWhile pln).length = t at ht ⊢
  have hts : t.size = (r.takeWhile pln).length := by rw [← bs_length, ht]
  have e1 : wrap64 ((t.size : Int) + 1) = (((r.takeWhile pln).length + 1 : Nat) : Int) := by rw [wrap_in (by omega) (by omega)]; omega
  have e2 : wrap64 ((t.size : Int) + 2) = (((r.takeWhile pln).length + 2 : Nat) : Int) := by rw [wrap_in (by omega) (by omega)]; omega
  rw [e1, e2]
  unfold txtTk
  simp only
  by_cases hend : (r.takeWhile pln).length + 1 = s.size
  · refine Ev.pos (by omega) (Ev.done fun _ => ?_)
    rw [if_neg (by rw [List.getElem?_eq_none (by omega)]; simp)]
    rfl
  · refine Ev.neg (by omega) (Ev.pos (by omega) (Ev.pos (by omega) ?_))
    have hlt : (r.takeWhile pln).length < r.length := by omega
    have hg : (bs s)[(r.takeWhile pln).length + 1]? = some (r[(r.takeWhile pln).length]'hlt) := by rw [hb, List.getElem?_cons_succ]; exact List.getElem?_eq_getElem hlt
    rw [bt_get s _ _ hg, List.getElem?_eq_getElem hlt]
    generalize r[(r.takeWhile pln).length]'hlt = c
    by_cases hq : c = 34
    · subst hq
      refine Ev.pos rfl (Ev.done fun _ => ?_)
      rw [if_pos rfl]
      rw [← ht]
      rfl
    · refine Ev.neg (fun h => hq ?_) (Ev.done fun _ => ?_)
      · apply UInt8.toNat_inj.1
        have : c.toNat = 34 := by omega
        rw [this]; rfl
      · rw [if_neg (by simpa using hq)]
        rfl
end Go.Proofs.YtifhmdlgjojodaaDoor.Lex
end
