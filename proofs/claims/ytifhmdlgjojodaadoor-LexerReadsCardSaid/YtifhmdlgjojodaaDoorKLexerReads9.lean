import Derived.Test.YtifhmdlgjojodaaDoorKLexerReads8
namespace Go.Proofs.YtifhmdlgjojodaaDoorW.Opens
end Go.Proofs.YtifhmdlgjojodaaDoorW.Opens
section
namespace Go.Proofs.YtifhmdlgjojodaaDoor.Q
open Go.RowKit Go.Proofs.YtifhmdlgjojodaaDoorW.PrintWords Go.Proofs.YtifhmdlgjojodaaDoorW.PrintLast Go.Proofs.YtifhmdlgjojodaaDoorW.PrintMore
attribute [local go_sem] max2_int min2_int max_two min_two max_three min_three max_four min_four
attribute [local go_sem ↓] isSome_setCell
set_option linter.unusedVariables false
set_option linter.unusedSimpArgs false
def tapearchivelaw28_LexerReads.f (k : Nat) (a0 : ByteArray) : Option (Bool) := (tapearchivelaw28_lives.f k).bind fun t220 => (if t220 = true then (if (a0.size : Int) > 32768 then (some true) else ((lexer_Tokens.f k a0).bind fun bt221 => ((tapearchiveref28_Tokens.f k a0).bind fun bt226 => (if bt221.2.2 = bt226.2.2 then (if bt221.2.1 = bt226.2.1 then ((tapearchiveref28_Same.f k bt221.1 bt226.1 true).bind fun t231 => (some t231)) else (some false)) else (some false))))) else (some false))
set_option maxHeartbeats 8000000 in
set_option maxRecDepth 100000 in
theorem tapearchivelaw28_LexerReads.calls (k : Nat) (a0 : ByteArray) (r : Bool) (w : World) (hG : Go.Proofs.YtifhmdlgjojodaaDoorX.Glob w) (h : tapearchivelaw28_LexerReads.f k a0 = some r) :
    Calls Tryd.prog 3 #[.string a0] w fun e w' => e = .returned (.bool r) ∧ Below w.heap.size w w' := by
  have HB := Aside0.mk (Below.refl w.heap.size w)
  have H : ((tapearchivelaw28_lives.f k).bind fun t220 => (if t220 = true then (if (a0.size : Int) > 32768 then (some true) else ((lexer_Tokens.f k a0).bind fun bt221 => ((tapearchiveref28_Tokens.f k a0).bind fun bt226 => (if bt221.2.2 = bt226.2.2 then (if bt221.2.1 = bt226.2.1 then ((tapearchiveref28_Same.f k bt221.1 bt226.1 true).bind fun t231 => (some t231)) else (some false)) else (some false))))) else (some false))) = some r := h
  clear h
  replace H := Option.bind_eq_some_iff.mp H
  obtain ⟨t220, A20, H⟩ := H
  replace H : (if t220 = true then (if (a0.size : Int) > 32768 then (some true) else ((lexer_Tokens.f k a0).bind fun bt221 => ((tapearchiveref28_Tokens.f k a0).bind fun bt226 => (if bt221.2.2 = bt226.2.2 then (if bt221.2.1 = bt226.2.1 then ((tapearchiveref28_Same.f k bt221.1 bt226.1 true).bind fun t231 => (some t231)) else (some false)) else (some false))))) else (some false)) = some r := H
  have A2 := Aside0.mk A20
  clear A20
  by_cases c3 : t220 = true
  · subst c3
    have H1 : (if (a0.size : Int) > 32768 then (some true) else ((lexer_Tokens.f k a0).bind fun bt221 => ((tapearchiveref28_Tokens.f k a0).bind fun bt226 => (if bt221.2.2 = bt226.2.2 then (if bt221.2.1 = bt226.2.1 then ((tapearchiveref28_Same.f k bt221.1 bt226.1 true).bind fun t231 => (some t231)) else (some false)) else (some false))))) = some r := by rw [if_pos rfl] at H; exact H
    clear H
    have H := H1
    clear H1
    by_cases c4 : (a0.size : Int) > 32768
    · rw [if_pos c4] at H
      have c4b0 : decide (32768 < (a0.size : Int)) = true := decide_eq_true c4
      have c4b1 : decide (32768 < a0.size) = true := decide_eq_true (by omega)
      clear c4
      obtain rfl := Option.some.inj H
      go_enter Tryd.func3, Tryd.ntmps3
      go_wp2_with (first | ((with_reducible refine gate_callee (f := 9) rfl ?_); refine goesL_ (some 9) rfl rfl Tryd.func9 (by kernel_rfl) rfl #[] rfl (by (try simp only [List.map_toArray, List.map_cons, List.map_nil]); first | done | rfl | (simp only [List.length_drop, List.length_take]; rfl)) ?_; (with_reducible refine (tapearchivelaw28_lives.calls k  true _ ?side1 A2.out).mono ?_); (case side1 => exact Go.Proofs.YtifhmdlgjojodaaDoorX.Glob.below hG (by repeat (first | (with_reducible first | exact HB.out | apply below_alloc | apply pw_below_drewN | apply below_drew1) | exact HB.out))); rintro e w5 ⟨rfl, hb⟩; refine ⟨_, rfl, ?_⟩; have n0_ := Aside0.mk (below_step (by repeat (first | (with_reducible first | exact HB.out | apply below_alloc | apply pw_below_drewN | apply below_drew1) | exact HB.out)) hb); clear HB; have HB := n0_; clear n0_; (try clear hb); (try clear hb2); (try clear hk); (try clear hi)))
      go_ret
      exact ⟨by first | rfl | (simp [errW_none, errW_some] <;> rfl) | (simp [*, errW_none, errW_some] <;> rfl), by repeat (first | (with_reducible first | exact HB.out | apply below_alloc | apply pw_below_drewN | apply below_drew1) | exact HB.out)⟩
    · rw [if_neg c4] at H
      have c4b0 : decide (32768 < (a0.size : Int)) = false := decide_eq_false c4
      have c4b1 : decide (32768 < a0.size) = false := decide_eq_false (by omega)
      clear c4
      replace H := Option.bind_eq_some_iff.mp H
      obtain ⟨⟨t221, t222, t223⟩, A60, H⟩ := H
      replace H : ((tapearchiveref28_Tokens.f k a0).bind fun bt226 => (if t223 = bt226.2.2 then (if t222 = bt226.2.1 then ((tapearchiveref28_Same.f k t221 bt226.1 true).bind fun t231 => (some t231)) else (some false)) else (some false))) = some r := H
      have A6 := Aside0.mk A60
      clear A60
      replace H := Option.bind_eq_some_iff.mp H
      obtain ⟨⟨t226, t227, t228⟩, A70, H⟩ := H
      replace H : (if t223 = t228 then (if t222 = t227 then ((tapearchiveref28_Same.f k t221 t226 true).bind fun t231 => (some t231)) else (some false)) else (some false)) = some r := H
      have A7 := Aside0.mk A70
      clear A70
      by_cases c8 : t223 = t228
      · rw [if_pos c8] at H
        have c8b0 : (t223 == t228) = true := beq_iff_eq.mpr c8
        have c8b1 : (t223 != t228) = false := bne_eq_false_iff_eq.mpr c8
        clear c8
        by_cases c9 : t222 = t227
        · rw [if_pos c9] at H
          have c9b0 : (t222 == t227) = true := beq_iff_eq.mpr c9
          have c9b1 : (t222 != t227) = false := bne_eq_false_iff_eq.mpr c9
          clear c9
          replace H := Option.bind_eq_some_iff.mp H
          obtain ⟨t231, A100, H⟩ := H
          replace H : (some t231) = some r := H
          have A10 := Aside0.mk A100
          clear A100
          obtain rfl := Option.some.inj H
          go_enter Tryd.func3, Tryd.ntmps3
          go_wp2_with (first | ((with_reducible refine gate_callee (f := 9) rfl ?_); refine goesL_ (some 9) rfl rfl Tryd.func9 (by kernel_rfl) rfl #[] rfl (by (try simp only [List.map_toArray, List.map_cons, List.map_nil]); first | done | rfl | (simp only [List.length_drop, List.length_take]; rfl)) ?_; (with_reducible refine (tapearchivelaw28_lives.calls k  true _ ?side1 A2.out).mono ?_); (case side1 => exact Go.Proofs.YtifhmdlgjojodaaDoorX.Glob.below hG (by repeat (first | (with_reducible first | exact HB.out | apply below_alloc | apply pw_below_drewN | apply below_drew1) | exact HB.out))); rintro e w11 ⟨rfl, hb⟩; refine ⟨_, rfl, ?_⟩; have n0_ := Aside0.mk (below_step (by repeat (first | (with_reducible first | exact HB.out | apply below_alloc | apply pw_below_drewN | apply below_drew1) | exact HB.out)) hb); clear HB; have HB := n0_; clear n0_; (try clear hb); (try clear hb2); (try clear hk); (try clear hi)) | ((with_reducible refine gate_callee (f := 10) rfl ?_); refine goesL_ (some 16) rfl rfl Tryd.func10 (by kernel_rfl) rfl #[.string a0] rfl (by (try simp only [List.map_toArray, List.map_cons, List.map_nil]); first | done | rfl | (simp only [List.length_drop, List.length_take]; rfl)) ?_; (with_reducible refine (lexer_Tokens.calls k a0 t221 t222 t223 _ A6.out).mono ?_); rintro e w12 ⟨v224, rfl, ho0, hb⟩; refine ⟨_, rfl, ?_⟩; have n0_ := Aside0.mk (Kd.R_lower ho0 (below_size (by repeat (first | (with_reducible first | exact HB.out | apply below_alloc | apply pw_below_drewN | apply below_drew1) | exact HB.out)))); have n1_ := Aside0.mk (below_step (by repeat (first | (with_reducible first | exact HB.out | apply below_alloc | apply pw_below_drewN | apply below_drew1) | exact HB.out)) hb); clear HB; have HO225 := n0_; have HB := n1_; clear n0_ n1_; (try clear hb); (try clear hb2); (try clear hk); (try clear hi); (try clear ho0)) | ((with_reducible refine gate_callee (f := 11) rfl ?_); refine goesL_ (some 22) rfl rfl Tryd.func11 (by kernel_rfl) rfl #[.string a0] rfl (by (try simp only [List.map_toArray, List.map_cons, List.map_nil]); first | done | rfl | (simp only [List.length_drop, List.length_take]; rfl)) ?_; (with_reducible refine (tapearchiveref28_Tokens.calls k a0 t226 t227 t228 _ A7.out).mono ?_); rintro e w13 ⟨v229, rfl, ho0, hb⟩; refine ⟨_, rfl, ?_⟩; have n0_ := Aside0.mk (Kd.R_elder' (by (with_reducible repeat (first | apply Kd.R_alloc | apply Kd.R_drewN | apply Kd.R_drew)); exact HO225.out) (Kd.R_base ho0) hb); have n1_ := Aside0.mk (Kd.R_lower (Kd.R_new' ho0 (Kd.R_lt (by (with_reducible repeat (first | apply Kd.R_alloc | apply Kd.R_drewN | apply Kd.R_drew)); exact HO225.out))) (below_size (by repeat (first | (with_reducible first | exact HB.out | apply below_alloc | apply pw_below_drewN | apply below_drew1) | exact HB.out)))); have n2_ := Aside0.mk (below_step (by repeat (first | (with_reducible first | exact HB.out | apply below_alloc | apply pw_below_drewN | apply below_drew1) | exact HB.out)) hb); clear HO225; clear HB; have HO225 := n0_; have HO230 := n1_; have HB := n2_; clear n0_ n1_ n2_; (try clear hb); (try clear hb2); (try clear hk); (try clear hi); (try clear ho0); obtain ⟨Ao14, co14, eo14⟩ := Kd.R_slice HO225.out; subst eo14; obtain ⟨Ao15, co15, eo15⟩ := Kd.R_slice HO230.out; subst eo15) | (go_at_call 12; (with_reducible refine (tapearchiveref28_Same.calls k _ _ t221 _ _ t226 true t231 _ ?side1 ?side2 ?side3 ?side4 A10.out).mono ?_); (case side1 => repeat (first | exact (Kd.R_reads' HO225.out).2.2 | (with_reducible refine Kd.C_alloc ?_ _) | (with_reducible refine Kd.C_drewN ?_ _) | (with_reducible refine Kd.C_drew ?_))); (case side2 => exact (Kd.R_reads' HO225.out).2.1); (case side3 => repeat (first | exact (Kd.R_reads' HO230.out).2.2 | (with_reducible refine Kd.C_alloc ?_ _) | (with_reducible refine Kd.C_drewN ?_ _) | (with_reducible refine Kd.C_drew ?_))); (case side4 => exact (Kd.R_reads' HO230.out).2.1); rintro e w16 ⟨rfl, hb⟩; have n0_ := Aside0.mk (Kd.R_below (by (with_reducible repeat (first | apply Kd.R_alloc | apply Kd.R_drewN | apply Kd.R_drew)); exact HO225.out) hb); have n1_ := Aside0.mk (Kd.R_below (by (with_reducible repeat (first | apply Kd.R_alloc | apply Kd.R_drewN | apply Kd.R_drew)); exact HO230.out) hb); have n2_ := Aside0.mk (below_step (by repeat (first | (with_reducible first | exact HB.out | apply below_alloc | apply pw_below_drewN | apply below_drew1) | exact HB.out)) hb); clear HO225; clear HO230; clear HB; have HO225 := n0_; have HO230 := n1_; have HB := n2_; clear n0_ n1_ n2_; (try clear hb); (try clear hb2); (try clear hk); (try clear hi)))
          go_ret
          exact ⟨by first | rfl | (simp [errW_none, errW_some] <;> rfl) | (simp [*, errW_none, errW_some] <;> rfl), by repeat (first | (with_reducible first | exact HB.out | apply below_alloc | apply pw_below_drewN | apply below_drew1) | exact HB.out)⟩
        · rw [if_neg c9] at H
          have c9b0 : (t222 == t227) = false := beq_eq_false_iff_ne.mpr c9
          have c9b1 : (t222 != t227) = true := bne_iff_ne.mpr c9
          obtain rfl := Option.some.inj H
          go_enter Tryd.func3, Tryd.ntmps3
          go_wp2_with (first | ((with_reducible refine gate_callee (f := 9) rfl ?_); refine goesL_ (some 9) rfl rfl Tryd.func9 (by kernel_rfl) rfl #[] rfl (by (try simp only [List.map_toArray, List.map_cons, List.map_nil]); first | done | rfl | (simp only [List.length_drop, List.length_take]; rfl)) ?_; (with_reducible refine (tapearchivelaw28_lives.calls k  true _ ?side1 A2.out).mono ?_); (case side1 => exact Go.Proofs.YtifhmdlgjojodaaDoorX.Glob.below hG (by repeat (first | (with_reducible first | exact HB.out | apply below_alloc | apply pw_below_drewN | apply below_drew1) | exact HB.out))); rintro e w17 ⟨rfl, hb⟩; refine ⟨_, rfl, ?_⟩; have n0_ := Aside0.mk (below_step (by repeat (first | (with_reducible first | exact HB.out | apply below_alloc | apply pw_below_drewN | apply below_drew1) | exact HB.out)) hb); clear HB; have HB := n0_; clear n0_; (try clear hb); (try clear hb2); (try clear hk); (try clear hi)) | ((with_reducible refine gate_callee (f := 10) rfl ?_); refine goesL_ (some 16) rfl rfl Tryd.func10 (by kernel_rfl) rfl #[.string a0] rfl (by (try simp only [List.map_toArray, List.map_cons, List.map_nil]); first | done | rfl | (simp only [List.length_drop, List.length_take]; rfl)) ?_; (with_reducible refine (lexer_Tokens.calls k a0 t221 t222 t223 _ A6.out).mono ?_); rintro e w18 ⟨v224, rfl, ho0, hb⟩; refine ⟨_, rfl, ?_⟩; have n0_ := Aside0.mk (Kd.R_lower ho0 (below_size (by repeat (first | (with_reducible first | exact HB.out | apply below_alloc | apply pw_below_drewN | apply below_drew1) | exact HB.out)))); have n1_ := Aside0.mk (below_step (by repeat (first | (with_reducible first | exact HB.out | apply below_alloc | apply pw_below_drewN | apply below_drew1) | exact HB.out)) hb); clear HB; have HO225 := n0_; have HB := n1_; clear n0_ n1_; (try clear hb); (try clear hb2); (try clear hk); (try clear hi); (try clear ho0)) | ((with_reducible refine gate_callee (f := 11) rfl ?_); refine goesL_ (some 22) rfl rfl Tryd.func11 (by kernel_rfl) rfl #[.string a0] rfl (by (try simp only [List.map_toArray, List.map_cons, List.map_nil]); first | done | rfl | (simp only [List.length_drop, List.length_take]; rfl)) ?_; (with_reducible refine (tapearchiveref28_Tokens.calls k a0 t226 t227 t228 _ A7.out).mono ?_); rintro e w19 ⟨v229, rfl, ho0, hb⟩; refine ⟨_, rfl, ?_⟩; have n0_ := Aside0.mk (Kd.R_elder' (by (with_reducible repeat (first | apply Kd.R_alloc | apply Kd.R_drewN | apply Kd.R_drew)); exact HO225.out) (Kd.R_base ho0) hb); have n1_ := Aside0.mk (Kd.R_lower (Kd.R_new' ho0 (Kd.R_lt (by (with_reducible repeat (first | apply Kd.R_alloc | apply Kd.R_drewN | apply Kd.R_drew)); exact HO225.out))) (below_size (by repeat (first | (with_reducible first | exact HB.out | apply below_alloc | apply pw_below_drewN | apply below_drew1) | exact HB.out)))); have n2_ := Aside0.mk (below_step (by repeat (first | (with_reducible first | exact HB.out | apply below_alloc | apply pw_below_drewN | apply below_drew1) | exact HB.out)) hb); clear HO225; clear HB; have HO225 := n0_; have HO230 := n1_; have HB := n2_; clear n0_ n1_ n2_; (try clear hb); (try clear hb2); (try clear hk); (try clear hi); (try clear ho0)))
          go_ret
          exact ⟨by first | rfl | (simp [errW_none, errW_some] <;> rfl) | (simp [*, errW_none, errW_some] <;> rfl), by repeat (first | (with_reducible first | exact HB.out | apply below_alloc | apply pw_below_drewN | apply below_drew1) | exact HB.out)⟩
      · rw [if_neg c8] at H
        have c8b0 : (t223 == t228) = false := beq_eq_false_iff_ne.mpr c8
        have c8b1 : (t223 != t228) = true := bne_iff_ne.mpr c8
        obtain rfl := Option.some.inj H
        go_enter Tryd.func3, Tryd.ntmps3
        go_wp2_with (first | ((with_reducible refine gate_callee (f := 9) rfl ?_); refine goesL_ (some 9) rfl rfl Tryd.func9 (by kernel_rfl) rfl #[] rfl (by (try simp only [List.map_toArray, List.map_cons, List.map_nil]); first | done | rfl | (simp only [List.length_drop, List.length_take]; rfl)) ?_; (with_reducible refine (tapearchivelaw28_lives.calls k  true _ ?side1 A2.out).mono ?_); (case side1 => exact Go.Proofs.YtifhmdlgjojodaaDoorX.Glob.below hG (by repeat (first | (with_reducible first | exact HB.out | apply below_alloc | apply pw_below_drewN | apply below_drew1) | exact HB.out))); rintro e w20 ⟨rfl, hb⟩; refine ⟨_, rfl, ?_⟩; have n0_ := Aside0.mk (below_step (by repeat (first | (with_reducible first | exact HB.out | apply below_alloc | apply pw_below_drewN | apply below_drew1) | exact HB.out)) hb); clear HB; have HB := n0_; clear n0_; (try clear hb); (try clear hb2); (try clear hk); (try clear hi)) | ((with_reducible refine gate_callee (f := 10) rfl ?_); refine goesL_ (some 16) rfl rfl Tryd.func10 (by kernel_rfl) rfl #[.string a0] rfl (by (try simp only [List.map_toArray, List.map_cons, List.map_nil]); first | done | rfl | (simp only [List.length_drop, List.length_take]; rfl)) ?_; (with_reducible refine (lexer_Tokens.calls k a0 t221 t222 t223 _ A6.out).mono ?_); rintro e w21 ⟨v224, rfl, ho0, hb⟩; refine ⟨_, rfl, ?_⟩; have n0_ := Aside0.mk (Kd.R_lower ho0 (below_size (by repeat (first | (with_reducible first | exact HB.out | apply below_alloc | apply pw_below_drewN | apply below_drew1) | exact HB.out)))); have n1_ := Aside0.mk (below_step (by repeat (first | (with_reducible first | exact HB.out | apply below_alloc | apply pw_below_drewN | apply below_drew1) | exact HB.out)) hb); clear HB; have HO225 := n0_; have HB := n1_; clear n0_ n1_; (try clear hb); (try clear hb2); (try clear hk); (try clear hi); (try clear ho0)) | ((with_reducible refine gate_callee (f := 11) rfl ?_); refine goesL_ (some 22) rfl rfl Tryd.func11 (by kernel_rfl) rfl #[.string a0] rfl (by (try simp only [List.map_toArray, List.map_cons, List.map_nil]); first | done | rfl | (simp only [List.length_drop, List.length_take]; rfl)) ?_; (with_reducible refine (tapearchiveref28_Tokens.calls k a0 t226 t227 t228 _ A7.out).mono ?_); rintro e w22 ⟨v229, rfl, ho0, hb⟩; refine ⟨_, rfl, ?_⟩; have n0_ := Aside0.mk (Kd.R_elder' (by (with_reducible repeat (first | apply Kd.R_alloc | apply Kd.R_drewN | apply Kd.R_drew)); exact HO225.out) (Kd.R_base ho0) hb); have n1_ := Aside0.mk (Kd.R_lower (Kd.R_new' ho0 (Kd.R_lt (by (with_reducible repeat (first | apply Kd.R_alloc | apply Kd.R_drewN | apply Kd.R_drew)); exact HO225.out))) (below_size (by repeat (first | (with_reducible first | exact HB.out | apply below_alloc | apply pw_below_drewN | apply below_drew1) | exact HB.out)))); have n2_ := Aside0.mk (below_step (by repeat (first | (with_reducible first | exact HB.out | apply below_alloc | apply pw_below_drewN | apply below_drew1) | exact HB.out)) hb); clear HO225; clear HB; have HO225 := n0_; have HO230 := n1_; have HB := n2_; clear n0_ n1_ n2_; (try clear hb); (try clear hb2); (try clear hk); (try clear hi); (try clear ho0)))
        go_ret
        exact ⟨by first | rfl | (simp [errW_none, errW_some] <;> rfl) | (simp [*, errW_none, errW_some] <;> rfl), by repeat (first | (with_reducible first | exact HB.out | apply below_alloc | apply pw_below_drewN | apply below_drew1) | exact HB.out)⟩
  · replace c3 := Bool.eq_false_iff.mpr c3
    subst c3
    have H1 : (some false) = some r := by rw [if_neg (show ¬ (false = true) by decide)] at H; exact H
    clear H
    have H := H1
    clear H1
    obtain rfl := Option.some.inj H
    go_enter Tryd.func3, Tryd.ntmps3
    go_wp2_with (first | ((with_reducible refine gate_callee (f := 9) rfl ?_); refine goesL_ (some 9) rfl rfl Tryd.func9 (by kernel_rfl) rfl #[] rfl (by (try simp only [List.map_toArray, List.map_cons, List.map_nil]); first | done | rfl | (simp only [List.length_drop, List.length_take]; rfl)) ?_; (with_reducible refine (tapearchivelaw28_lives.calls k  false _ ?side1 A2.out).mono ?_); (case side1 => exact Go.Proofs.YtifhmdlgjojodaaDoorX.Glob.below hG (by repeat (first | (with_reducible first | exact HB.out | apply below_alloc | apply pw_below_drewN | apply below_drew1) | exact HB.out))); rintro e w23 ⟨rfl, hb⟩; refine ⟨_, rfl, ?_⟩; have n0_ := Aside0.mk (below_step (by repeat (first | (with_reducible first | exact HB.out | apply below_alloc | apply pw_below_drewN | apply below_drew1) | exact HB.out)) hb); clear HB; have HB := n0_; clear n0_; (try clear hb); (try clear hb2); (try clear hk); (try clear hi)))
    go_ret
    exact ⟨by first | rfl | (simp [errW_none, errW_some] <;> rfl) | (simp [*, errW_none, errW_some] <;> rfl), by repeat (first | (with_reducible first | exact HB.out | apply below_alloc | apply pw_below_drewN | apply below_drew1) | exact HB.out)⟩
end Go.Proofs.YtifhmdlgjojodaaDoor.Q
end
section
namespace Go.Proofs.YtifhmdlgjojodaaDoor.SLexerReads
open Go.RowKit Go.Proofs.YtifhmdlgjojodaaDoor.Q Go.Proofs.YtifhmdlgjojodaaDoorW.PrintWords Go.Proofs.YtifhmdlgjojodaaDoorW.PrintLast Go.Proofs.YtifhmdlgjojodaaDoorW.Opens Go.Proofs.YtifhmdlgjojodaaDoorW
set_option linter.unusedVariables false
def Pure : Prop := ∀ (x0 : ByteArray), x0.size ≤ 140737488351232 → ∃ k, tapearchivelaw28_LexerReads.f k x0 = some true
end Go.Proofs.YtifhmdlgjojodaaDoor.SLexerReads
end
section
namespace Go.Proofs.YtifhmdlgjojodaaDoor.Lex
open Go.RowKit Go.Proofs.YtifhmdlgjojodaaDoorW.PrintWords Go.Proofs.YtifhmdlgjojodaaDoorW.EvMore
def dig (c : UInt8) : Bool := decide (48 ≤ c.toNat) && decide (c.toNat ≤ 57)
def alp (c : UInt8) : Bool := (decide (97 ≤ c.toNat) && decide (c.toNat ≤ 122)) || (decide (65 ≤ c.toNat) && decide (c.toNat ≤ 90))
def nam (c : UInt8) : Bool := alp c || dig c || c == 95 || c == 45 || c == 46 || c == 47 || c == 42 || c == 63
def pln (c : UInt8) : Bool := decide (32 ≤ c.toNat) && decide (c.toNat ≤ 126) && c != 34
def sym (c : UInt8) : Bool := c == 40 || c == 41 || c == 123 || c == 125 || c == 60 || c == 61 || c == 33 || c == 59 || c == 44 || c == 58
def symT (l : List UInt8) : Bool := l == [62, 61] || (match l with | [c] => sym c | _ => false)
def unit (l : List UInt8) : Nat × Bool :=
  if l = [75] then (1024, true) else if l = [77] then (1048576, true) else if l = [115] then (1, true) else if l = [109] then (60, true) else if l = [104] then (3600, true) else if l = [100] then (86400, true) else (0, false)
def val (l : List UInt8) : Nat := l.foldl (fun n c => 10 * n + (c.toNat - 48)) 0
abbrev Tk := Int × List UInt8 × Int × Nat × Int
def bad (e : Int) : Tk := (0, [], 0, 0, e)
def numFin (ds rs : List UInt8) (f : Nat) : Tk :=
  if 1 < ds.length ∧ ds.head? = some 48 then bad 1
  else if 1125899906842624 / f < val ds then bad 7
  else (2, [], ((val ds * f : Nat) : Int), ds.length + rs.length, 0)
def numTk (l : List UInt8) : Tk :=
  let ds := l.takeWhile dig
  let rs := (l.drop ds.length).takeWhile nam
  if rs = [] then numFin ds rs 1
  else if (unit rs).2 = true then numFin ds rs (unit rs).1
  else bad 1
def txtTk (r : List UInt8) : Tk :=
  let t := r.takeWhile pln
  if r[t.length]? = some 34 then (3, t, 0, t.length + 2, 0) else bad 1
def tk : List UInt8 → Tk
  | [] => bad 1
  | c :: r =>
    if dig c = true then numTk (c :: r)
    else if c = 34 then txtTk r
    else if (nam c && c != 45) = true then (1, (c :: r).takeWhile nam, 0, ((c :: r).takeWhile nam).length, 0)
    else if c = 62 ∧ r.head? = some 61 then (4, [62, 61], 0, 2, 0)
    else if sym c = true then (4, [c], 0, 1, 0)
    else bad 1
def blank : List UInt8 → Bool → Nat
  | [], _ => 0
  | c :: r, false => if c = 32 ∨ c = 10 then 1 + blank r false else if c = 35 then 1 + blank r true else 0
  | c :: r, true => if c = 10 then 1 + blank r false else 1 + blank r true
structure Tok where
  kind : Int
  text : List UInt8
  int : Int
  at_ : Nat
def lexGo : Nat → Nat → List UInt8 → List Tok × Int × Int
  | 0, _, _ => ([], 0, 0)
  | f + 1, p, l =>
    if l = [] then ([], 0, 0)
    else
      let t := tk l
      if t.2.2.2.2 ≠ 0 then ([], p, t.2.2.2.2)
      else
        let l' := l.drop t.2.2.2.1
        let b := blank l' false
        let r := lexGo f (p + t.2.2.2.1 + b) (l'.drop b)
        if r.2.2 ≠ 0 then ([], r.2.1, r.2.2) else (⟨t.1, t.2.1, t.2.2.1, p⟩ :: r.1, 0, 0)
def lex (l : List UInt8) : List Tok × Int × Int :=
  if 16384 < l.length then ([], 0, 6) else lexGo (l.length + 1) (blank l false) (l.drop (blank l false))
theorem blank_le : ∀ (l : List UInt8) (c : Bool), blank l c ≤ l.length
  | [], c => by simp [blank]
  | x :: r, false => by
    have h1 := blank_le r false
    have h2 := blank_le r true
    simp only [blank, List.length_cons]
    split
    · omega
    · split <;> omega
  | x :: r, true => by
    have h1 := blank_le r false
    have h2 := blank_le r true
    simp only [blank, List.length_cons]
    split <;> omega
theorem unit_one {l : List UInt8} (h : (unit l).2 = true) : 1 ≤ (unit l).1 ∧ (unit l).1 ≤ 1048576 ∧ l.length = 1 := by
  unfold unit at h ⊢
  repeat' split
  all_goals simp_all
theorem tk_len (l : List UInt8) (h : (tk l).2.2.2.2 = 0) : 1 ≤ (tk l).2.2.2.1 ∧ (tk l).2.2.2.1 ≤ l.length := by
  cases l with
  | nil => simp [tk, bad] at h
  | cons c r =>
    simp only [tk] at h ⊢
    split
    · rename_i hd
      rw [if_pos hd] at h
      have hl : 1 ≤ ((c :: r).takeWhile dig).length := by simp [List.takeWhile_cons, hd]
      have h2 : ((c :: r).takeWhile dig).length ≤ (c :: r).length := (List.takeWhile_sublist _).length_le
      have h3 : (((c :: r).drop ((c :: r).takeWhile dig).length).takeWhile nam).length ≤ ((c :: r).drop ((c :: r).takeWhile dig).length).length := (List.takeWhile_sublist _).length_le
      rw [List.length_drop] at h3
      have fin : ∀ f, (numFin ((c :: r).takeWhile dig) (((c :: r).drop ((c :: r).takeWhile dig).length).takeWhile nam) f).2.2.2.2 = 0 →
          1 ≤ (numFin ((c :: r).takeWhile dig) (((c :: r).drop ((c :: r).takeWhile dig).length).takeWhile nam) f).2.2.2.1 ∧ (numFin ((c :: r).takeWhile dig) (((c :: r).drop ((c :: r).takeWhile dig).length).takeWhile nam) f).2.2.2.1 ≤ (c :: r).length := by
        intro f hf
        unfold numFin at hf ⊢
        split
        · rename_i h0; rw [if_pos h0] at hf; simp [bad] at hf
        · rename_i h0
          rw [if_neg h0] at hf
          split
          · rename_i h1; rw [if_pos h1] at hf; simp [bad] at hf
          · exact ⟨by show 1 ≤ _ + _; omega, by show _ + _ ≤ _; omega⟩
      unfold numTk at h ⊢
      simp only at h ⊢
      split
      · rename_i h0; rw [if_pos h0] at h; exact fin _ h
      · rename_i h0
        rw [if_neg h0] at h
        split
        · rename_i h1; rw [if_pos h1] at h; exact fin _ h
        · rename_i h1; rw [if_neg h1] at h; simp [bad] at h
    · rename_i hd
      rw [if_neg hd] at h
      split
      · rename_i hq
        rw [if_pos hq] at h
        unfold txtTk at h ⊢
        simp only at h ⊢
        split
        · rename_i h1
          obtain ⟨hlt, _⟩ := List.getElem?_eq_some_iff.1 h1
          exact ⟨by show 1 ≤ _ + 2; omega, by show _ + 2 ≤ _; simp only [List.length_cons]; omega⟩
        · rename_i h1; rw [if_neg h1] at h; simp [bad] at h
      · rename_i hq
        rw [if_neg hq] at h
        split
        · rename_i hn
          have hn' : nam c = true := by simp at hn; exact hn.1
          have h2 : ((c :: r).takeWhile nam).length ≤ (c :: r).length := (List.takeWhile_sublist _).length_le
          refine ⟨?_, h2⟩
          show 1 ≤ ((c :: r).takeWhile nam).length
          simp [List.takeWhile_cons, hn']
        · rename_i hn
          rw [if_neg hn] at h
          split
          · rename_i h1
            have : r ≠ [] := by rintro rfl; simp at h1
            have : 1 ≤ r.length := by cases r with | nil => exact absurd rfl this | cons _ _ => simp
            exact ⟨by show 1 ≤ 2; omega, by show 2 ≤ _; simp only [List.length_cons]; omega⟩
          · rename_i h1
            rw [if_neg h1] at h
            split
            · exact ⟨Nat.le_refl 1, by show 1 ≤ _; simp⟩
            · rename_i h2; rw [if_neg h2] at h; simp [bad] at h
end Go.Proofs.YtifhmdlgjojodaaDoor.Lex
end
section
namespace Go.Proofs.YtifhmdlgjojodaaDoor.Lex
open Go.RowKit Go.Proofs.YtifhmdlgjojodaaDoor.Q Go.Proofs.YtifhmdlgjojodaaDoorW.PrintWords Go.Proofs.YtifhmdlgjojodaaDoorW.PrintMore Go.Proofs.YtifhmdlgjojodaaDoorW.EvMore
theorem dig_f (c : UInt8) : lexer_digit.f (c.toNat : Int) = some (dig c) := by
  unfold lexer_digit.f dig
  by_cases h : 48 ≤ c.toNat
  · rw [if_pos (by omega)]
    simp only [h, decide_true, Bool.true_and, Option.some.injEq, decide_eq_decide]
    omega
  · rw [if_neg (by omega)]
    simp [h]
theorem alp_f (c : UInt8) : lexer_letter.f (c.toNat : Int) = some (alp c) := by
  unfold lexer_letter.f alp
  by_cases h : 97 ≤ c.toNat
  · rw [if_pos (by omega)]
    by_cases h2 : c.toNat ≤ 122
    · rw [if_pos (by omega)]; simp [h, h2]
    · rw [if_neg (by omega), if_pos (by omega)]
      have : ¬ c.toNat ≤ 90 := by omega
      simp [h2, this]
      omega
  · rw [if_neg (by omega)]
    by_cases h2 : 65 ≤ c.toNat
    · rw [if_pos (by omega)]
      simp only [h, h2, decide_true, decide_false, Bool.false_and, Bool.true_and, Bool.false_or, Option.some.injEq, decide_eq_decide]
      omega
    · rw [if_neg (by omega)]
      simp [h, h2]
theorem plain_f (c : UInt8) : lexer_plain.f (c.toNat : Int) = some (pln c) := by
  unfold lexer_plain.f pln
  have e34 : (((c.toNat : Int) != 34) : Bool) = (c != 34) := by
    rw [Bool.eq_iff_iff]
    simp only [bne_iff_ne, ne_eq]
    constructor
    · intro h e; subst e; exact h rfl
    · intro h e; apply h; apply UInt8.toNat_inj.1; have : c.toNat = 34 := by omega
      rw [this]; rfl
  by_cases h : 32 ≤ c.toNat
  · rw [if_pos (by omega)]
    by_cases h2 : c.toNat ≤ 126
    · rw [if_pos (by omega), e34]; simp [h, h2]
    · rw [if_neg (by omega)]; simp [h2]
  · rw [if_neg (by omega)]
    simp [h]
theorem idx_has (c : UInt8) : ∀ l : List UInt8, decide (Lib.indexByte l c ≥ 0) = l.contains c
  | [] => by simp [Lib.indexByte]
  | b :: l => by
    have ih := idx_has c l
    have hg := Lib.indexByte_ge l c
    rw [Lib.indexByte, List.contains_cons]
    by_cases e : b = c
    · subst e; simp
    · rw [if_neg (by simpa using e)]
      have e2 : (c == b) = false := by simpa using fun h => e h.symm
      rw [e2, Bool.false_or, ← ih]
      by_cases h1 : Lib.indexByte l c = -1
      · simp [h1]
      · rw [if_neg (by simpa using h1)]
        simp only [decide_eq_decide]
        omega
theorem byte_back (c : UInt8) : (c.toNat : Int).toNat.toUInt8 = c := by simp
theorem name_f (c : UInt8) : lexer_nameByte.f (c.toNat : Int) = some (nam c) := by
  unfold lexer_nameByte.f nam
  rw [alp_f, Option.bind_some]
  cases ha : alp c with
  | true => simp
  | false =>
    rw [if_neg (by simp), dig_f, Option.bind_some]
    cases hd : dig c with
    | true => simp
    | false =>
      rw [if_neg (by simp)]
      unfold strings_IndexByte.f
      rw [Option.bind_some, byte_back, idx_has]
      simp [Bool.or_assoc, Bool.beq_eq_decide_eq]
theorem run_gen (g : Nat → ByteArray → Int → Int → Option ByteArray) (pf : Int → Option Bool) (p : UInt8 → Bool) (hp : ∀ c : UInt8, pf (c.toNat : Int) = some (p c))
    (hg : ∀ k x n i, g (k + 1) x n i = if i < n then (if 0 ≤ i then (if i < (x.size : Int) then ((pf (bt x i)).bind fun t => (if t = true then (g k x n (wrap64 (i + 1))) else (if i ≤ (x.size : Int) then (some (x.extract 0 (i : Int).toNat)) else (none)))) else (none)) else (none)) else (some x))
    (s : ByteArray) (hs : s.size ≤ 4611686018427387904) (d : Nat) : ∀ (i : Nat), i ≤ s.size → s.size - i = d → ((bs s).take i).all p = true →
    Ev (fun k => g k s s.size i) (s.extract 0 ((bs s).takeWhile p).length) := by
  have hw : ∀ i, i ≤ s.size → ((bs s).take i).all p = true → ((bs s).takeWhile p).length = i + (((bs s).drop i).takeWhile p).length := by
    intro i hi ha
    conv => lhs; rw [← List.take_append_drop i (bs s)]
    rw [List.takeWhile_append_of_pos (fun a h => List.all_eq_true.1 ha a h), List.length_append, List.length_take, bs_length]
    omega
  induction d with
  | zero =>
    intro i hi hd ha
    have h1 := hw i hi ha
    rw [List.drop_of_length_le (by rw [bs_length]; omega)] at h1
    have e : ((bs s).takeWhile p).length = s.size := by simp at h1; omega
    refine Ev.next (fun k => hg k s _ _) ?_
    refine Ev.neg (by omega) (Ev.done fun _ => ?_)
    rw [e]
    congr 1
    apply bs_inj
    rw [bs_extract]
    simp [← bs_length]
  | succ d ih =>
    intro i hi hd ha
    have hlt : i < s.size := by omega
    have hltL : i < (bs s).length := hlt
    have h1 := hw i hi ha
    have hc : (bs s)[i]? = some ((bs s)[i]'hltL) := List.getElem?_eq_getElem hltL
    refine Ev.next (fun k => hg k s _ _) ?_
    refine Ev.pos (by omega) (Ev.pos (by omega) (Ev.pos (by omega) ?_))
    rw [bt_get s i _ hc]
    refine Ev.bindS (hp _) ?_
    cases hv : p ((bs s)[i]'hltL) with
    | true =>
      refine Ev.pos rfl ?_
      have e : wrap64 ((i : Int) + 1) = ((i + 1 : Nat) : Int) := by rw [wrap_in (by omega) (by omega)]; rfl
      rw [e]
      refine ih (i + 1) (by omega) (by omega) ?_
      rw [List.take_succ_eq_append_getElem hltL, List.all_append, ha]
      simp [hv]
    | false =>
      refine Ev.neg (by simp) (Ev.pos (by omega) (Ev.done fun _ => ?_))
      have h2 : ((bs s).drop i).takeWhile p = [] := by
        rw [List.drop_eq_getElem_cons hltL, List.takeWhile_cons, hv]
        rfl
      rw [h2] at h1
      rw [h1]
      simp
theorem run_digit (s : ByteArray) (hs : s.size ≤ 4611686018427387904) : Ev (fun k => lexer_run_lexer_digit.f k s) (s.extract 0 ((bs s).takeWhile dig).length) :=
  Ev.same (run_gen lexer_run_lexer_digit.l0 lexer_digit.f dig dig_f (fun k x n i => by rw [lexer_run_lexer_digit.l0]) s hs _ 0 (Nat.zero_le _) rfl (by simp)) (fun k => rfl)
theorem run_name (s : ByteArray) (hs : s.size ≤ 4611686018427387904) : Ev (fun k => lexer_run_lexer_nameByte.f k s) (s.extract 0 ((bs s).takeWhile nam).length) :=
  Ev.same (run_gen lexer_run_lexer_nameByte.l0 lexer_nameByte.f nam name_f (fun k x n i => by rw [lexer_run_lexer_nameByte.l0]) s hs _ 0 (Nat.zero_le _) rfl (by simp)) (fun k => rfl)
theorem run_plain (s : ByteArray) (hs : s.size ≤ 4611686018427387904) : Ev (fun k => lexer_run_lexer_plain.f k s) (s.extract 0 ((bs s).takeWhile pln).length) :=
  Ev.same (run_gen lexer_run_lexer_plain.l0 lexer_plain.f pln plain_f (fun k x n i => by rw [lexer_run_lexer_plain.l0]) s hs _ 0 (Nat.zero_le _) rfl (by simp)) (fun k => rfl)
theorem take_takeWhile (p : UInt8 → Bool) (l : List UInt8) : l.take (l.takeWhile p).length = l.takeWhile p := by
  induction l with
  | nil => rfl
  | cons c r ih =>
    rw [List.takeWhile_cons]
    cases p c with
    | true => simp [ih]
    | false => rfl
theorem bs_run (s : ByteArray) (p : UInt8 → Bool) : bs (s.extract 0 ((bs s).takeWhile p).length) = (bs s).takeWhile p := by
  rw [bs_extract, List.drop_zero, Nat.sub_zero, take_takeWhile]
theorem takeWhile_le (p : UInt8 → Bool) (l : List UInt8) : (l.takeWhile p).length ≤ l.length := (List.takeWhile_sublist _).length_le
theorem bs_eq_iff (s : ByteArray) (l : List UInt8) : s.toList = l ↔ bs s = l := by rw [toList_bs]
theorem unit_f (s : ByteArray) : lexer_Unit.f s = some (((unit (bs s)).1 : Int), (unit (bs s)).2) := by
  unfold lexer_Unit.f unit
  simp only [bs_eq_iff]
  repeat' split
  all_goals rfl
end Go.Proofs.YtifhmdlgjojodaaDoor.Lex
end
section
namespace Go.Proofs.YtifhmdlgjojodaaDoor.Lex
open Go.RowKit Go.Proofs.YtifhmdlgjojodaaDoor.Q Go.Proofs.YtifhmdlgjojodaaDoorW.PrintWords Go.Proofs.YtifhmdlgjojodaaDoorW.PrintMore Go.Proofs.YtifhmdlgjojodaaDoorW.EvMore
def outP (t : Tk) : Int × ByteArray × Int × Int × Int × Int := (t.1, ⟨t.2.1.toArray⟩, t.2.2.1, 0, (t.2.2.2.1 : Int), t.2.2.2.2)
theorem val_snoc (l : List UInt8) (c : UInt8) : val (l ++ [c]) = 10 * val l + (c.toNat - 48) := by simp [val, List.foldl_append]
theorem val_from (l : List UInt8) : ∀ n : Nat, n ≤ l.foldl (fun n c => 10 * n + (c.toNat - 48)) n := by
  induction l with
  | nil => intro n; exact Nat.le_refl _
  | cons c r ih => intro n; exact Nat.le_trans (show n ≤ 10 * n + (c.toNat - 48) by omega) (ih _)
theorem val_take_le (l : List UInt8) (i : Nat) : val (l.take i) ≤ val l := by
  conv => rhs; rw [← List.take_append_drop i l]
  unfold val
  rw [List.foldl_append]
  exact val_from _ _
theorem tdiv_nat (a b : Nat) : Int.tdiv (a : Int) (b : Int) = ((a / b : Nat) : Int) := rfl
theorem takeWhile_all (p : UInt8 → Bool) (l : List UInt8) : (l.takeWhile p).all p = true := by
  induction l with
  | nil => rfl
  | cons c r ih =>
    rw [List.takeWhile_cons]
    cases h : p c with
    | true => simp [h]
    | false => rfl
theorem num_loop (x5 x6 : ByteArray) (f : Nat) (h1 : 1 ≤ f) (h2 : f ≤ 1048576) (hs : x5.size ≤ 4611686018427387904) (hs6 : x6.size ≤ 1) (hd : (bs x5).all dig = true) (d : Nat) :
    ∀ (i : Nat), i ≤ x5.size → x5.size - i = d → val ((bs x5).take i) ≤ 1125899906842624 →
    Ev (fun k => lexer_number.l0 k x5 x6 f (val ((bs x5).take i) : Nat) x5.size i)
      (outP (if 1125899906842624 / f < val (bs x5) then bad 7 else (2, [], ((val (bs x5) * f : Nat) : Int), (bs x5).length + (bs x6).length, 0))) := by
  have hdiv : 1125899906842624 / f ≤ 1125899906842624 := Nat.div_le_self _ _
  induction d with
  | zero =>
    intro i hi hdi hv
    have e : (bs x5).take i = bs x5 := List.take_of_length_le (by rw [bs_length]; omega)
    rw [e] at hv ⊢
    refine Ev.next (fun k => by rw [lexer_number.l0]) ?_
    refine Ev.neg (by omega) (Ev.neg (by omega) ?_)
    have et : wrap64 (Int.tdiv (1125899906842624 : Int) (f : Int)) = ((1125899906842624 / f : Nat) : Int) := by
      rw [show (1125899906842624 : Int) = ((1125899906842624 : Nat) : Int) from rfl, tdiv_nat]
      exact wrap_nat (by omega)
    rw [et]
    by_cases hc : 1125899906842624 / f < val (bs x5)
    · refine Ev.pos (by omega) (Ev.done fun _ => ?_)
      rw [if_pos hc]
      rfl
    · refine Ev.neg (by omega) (Ev.done fun _ => ?_)
      rw [if_neg hc]
      have hm : val (bs x5) * f ≤ 1125899906842624 := by
        have := Nat.mul_le_mul_right f (Nat.le_of_not_lt hc)
        exact Nat.le_trans this (Nat.div_mul_le_self _ _)
      have e1 : wrap64 ((val (bs x5) : Nat) * (f : Int)) = ((val (bs x5) * f : Nat) : Int) := by
        rw [show ((val (bs x5) : Nat) : Int) * (f : Int) = ((val (bs x5) * f : Nat) : Int) from by simp]
        exact wrap_nat (by omega)
      have e2 : wrap64 ((x5.size : Int) + (x6.size : Int)) = (((bs x5).length + (bs x6).length : Nat) : Int) := by
        rw [bs_length, bs_length, show (x5.size : Int) + (x6.size : Int) = ((x5.size + x6.size : Nat) : Int) from by simp]
        exact wrap_nat (by omega)
      rw [e1, e2]
      rfl
  | succ d ih =>
    intro i hi hdi hv
    have hlt : i < x5.size := by omega
    have hltL : i < (bs x5).length := hlt
    have hc : (bs x5)[i]? = some ((bs x5)[i]'hltL) := List.getElem?_eq_getElem hltL
    have hdc : dig ((bs x5)[i]'hltL) = true := List.all_eq_true.1 hd _ (List.getElem_mem hltL)
    have hsn : val ((bs x5).take (i + 1)) = 10 * val ((bs x5).take i) + (((bs x5)[i]'hltL).toNat - 48) := by
      rw [List.take_succ_eq_append_getElem hltL, val_snoc]
    generalize (bs x5)[i]'hltL = c at hc hdc hsn
    have hb : 48 ≤ c.toNat ∧ c.toNat ≤ 57 := by simpa [dig] using hdc
    refine Ev.next (fun k => by rw [lexer_number.l0]) ?_
    refine Ev.pos (by omega) (Ev.pos (by omega) (Ev.pos (by omega) ?_))
    rw [bt_get x5 i c hc]
    have hle1 := val_take_le (bs x5) (i + 1)
    have ih1 := ih (i + 1) (by omega) (by omega)
    clear ih
    generalize val ((bs x5).take (i + 1)) = v1 at hsn hle1 ih1 ⊢
    generalize val ((bs x5).take i) = v0 at hsn hv ⊢
    generalize val (bs x5) = vt at hle1 ih1 ⊢
    have e0 : wrap64 (10 * (v0 : Int)) = 10 * (v0 : Int) := wrap_in (by omega) (by omega)
    have e1 : wrap64 (10 * (v0 : Int) + ((c.toNat : Int) - 48) % 256) = (v1 : Int) := by
      rw [wrap_in (by omega) (by omega)]
      omega
    have e2 : wrap64 ((i : Int) + 1) = ((i + 1 : Nat) : Int) := by rw [wrap_in (by omega) (by omega)]; rfl
    rw [e0, e1, e2]
    by_cases hbig : 1125899906842624 < v1
    · have hb1 : (v1 : Int) > 1125899906842624 := by omega
      have hb2 : 1125899906842624 / f < vt := by omega
      refine Ev.pos hb1 (Ev.done fun _ => ?_)
      rw [if_pos hb2]
      rfl
    · have hb1 : ¬ (v1 : Int) > 1125899906842624 := by omega
      have hb2 : v1 ≤ 1125899906842624 := by omega
      exact Ev.neg hb1 (ih1 hb2)
theorem num_fin (x5 x6 : ByteArray) (f : Nat) (h1 : 1 ≤ f) (h2 : f ≤ 1048576) (hs : x5.size ≤ 4611686018427387904) (hs6 : x6.size ≤ 1) (hd : (bs x5).all dig = true) :
    Ev (fun k => lexer_number.j0 k x5 x6 f) (outP (numFin (bs x5) (bs x6) f)) := by
  have go : ∀ b : Bool, b = decide (1 < (bs x5).length ∧ (bs x5).head? = some 48) → Ev (fun k => lexer_number.j1 k x5 x6 f b) (outP (numFin (bs x5) (bs x6) f)) := by
    intro b hb
    refine Ev.next (fun k => by rw [lexer_number.j1]) ?_
    unfold numFin
    cases b with
    | true =>
      rw [if_pos (of_decide_eq_true hb.symm)]
      exact Ev.pos rfl (Ev.done fun _ => rfl)
    | false =>
      rw [if_neg (of_decide_eq_false hb.symm)]
      refine Ev.neg (by simp) ?_
      exact num_loop x5 x6 f h1 h2 hs hs6 hd _ 0 (Nat.zero_le _) rfl (by simp [val])
  refine Ev.next (fun k => by rw [lexer_number.j0]) ?_
  by_cases hl : 1 < x5.size
  · refine Ev.pos (by omega) (Ev.pos (by omega) ?_)
    refine go _ ?_
    have hltL : 0 < (bs x5).length := by rw [bs_length]; omega
    have hc : (bs x5)[0]? = some ((bs x5)[0]'hltL) := List.getElem?_eq_getElem hltL
    have hh : (bs x5).head? = some ((bs x5)[0]'hltL) := by rw [List.head?_eq_getElem?]; exact hc
    have := bt_get x5 0 _ hc
    rw [show ((0 : Nat) : Int) = 0 from rfl] at this
    rw [this, hh]
    have hl' : 1 < (bs x5).length := hl
    generalize (bs x5)[0]'hltL = c
    rw [Bool.eq_iff_iff]
    simp only [beq_iff_eq, decide_eq_true_eq, Option.some.injEq, hl', true_and]
    constructor
    · intro h; apply UInt8.toNat_inj.1; have : c.toNat = 48 := by omega
      rw [this]; rfl
    · rintro rfl; rfl
  · refine Ev.neg (by omega) (go _ ?_)
    symm
    rw [decide_eq_false_iff_not, bs_length]
    exact fun h => hl h.1
theorem number_ev (s : ByteArray) (hs : s.size ≤ 4611686018427387904) : Ev (fun k => lexer_number.f k s) (outP (numTk (bs s))) := by
  have hle := takeWhile_le dig (bs s)
  rw [bs_length] at hle
  have hd := bs_run s dig
  have hsz : (s.extract 0 ((bs s).takeWhile dig).length).size = ((bs s).takeWhile dig).length := by rw [size_extract]; omega
  unfold lexer_number.f
  refine Ev.both (run_digit s hs) ?_
  refine Ev.pos (by omega) (Ev.pos (by omega) ?_)
  have he : bs (s.extract ((s.extract 0 ((bs s).takeWhile dig).length).size : Int).toNat s.size) = (bs s).drop ((bs s).takeWhile dig).length := by
    rw [bs_extract, hsz, Int.toNat_natCast]
    exact List.take_of_length_le (by rw [List.length_drop, bs_length]; omega)
  have hez : (s.extract ((s.extract 0 ((bs s).takeWhile dig).length).size : Int).toNat s.size).size ≤ 4611686018427387904 := by rw [size_extract]; omega
  refine Ev.both (run_name _ hez) ?_
  have hr := bs_run (s.extract ((s.extract 0 ((bs s).takeWhile dig).length).size : Int).toNat s.size) nam
  rw [he] at hr ⊢
  generalize (s.extract ((s.extract 0 ((bs s).takeWhile dig).length).size : Int).toNat s.size).extract 0 (((bs s).drop ((bs s).takeWhile dig).length).takeWhile nam).length = x6 at hr ⊢
  have hall : (bs (s.extract 0 ((bs s).takeWhile dig).length)).all dig = true := by rw [hd]; exact takeWhile_all _ _
  have hsz5 : (s.extract 0 ((bs s).takeWhile dig).length).size ≤ 4611686018427387904 := by omega
  generalize (s.extract 0 ((bs s).takeWhile dig).length) = x5 at hd hall hsz5 ⊢
  unfold numTk
  simp only
  rw [← hr, ← hd]
  by_cases h0 : bs x6 = []
  · refine Ev.pos ((bs_eq_iff _ _).2 h0) ?_
    rw [if_pos h0]
    exact num_fin x5 x6 1 (by omega) (by omega) hsz5 (by rw [← bs_length, h0]; simp) hall
  · refine Ev.neg (fun h => h0 ((bs_eq_iff _ _).1 h)) ?_
    rw [if_neg h0]
    refine Ev.bindS (unit_f x6) ?_
    by_cases hu : (unit (bs x6)).2 = true
    · refine Ev.pos hu ?_
      rw [if_pos hu]
      obtain ⟨u1, u2, u3⟩ := unit_one hu
      exact num_fin x5 x6 _ u1 u2 hsz5 (by rw [← bs_length, u3]; omega) hall
    · refine Ev.neg hu (Ev.done fun _ => ?_)
      rw [if_neg hu]
      rfl
theorem quoted_ev (s : ByteArray) (r : List UInt8) (hb : bs s = 34 :: r) (hs : s.size ≤ 4611686018427387904) : Ev (fun k => lexer_quoted.f k s) (outP (txtTk r)) := by
  have hl : s.size = r.length + 1 := by rw [← bs_length, hb]; rfl
  have he : bs (s.extract 1 s.size) = r := by
    rw [bs_extract, hb, List.drop_one, List.tail_cons]
    exact List.take_of_length_le (by omega)
  unfold lexer_quoted.f
  refine Ev.pos (by omega) ?_
  refine Ev.both (run_plain _ (by rw [size_extract]; omega)) ?_
  have ht := bs_run (s.extract 1 s.size) pln
  rw [he] at ht ⊢
  have hle := takeWhile_le pln r
  generalize (s.extract 1 s.size).extract 0 (r.takeWhile pln).length = t at ht ⊢
  have hts : t.size = (r.takeWhile pln).length := by rw [← bs_length, ht]
  have e1 : wrap64 ((t.size : Int) + 1) = (((r.takeWhile pln).length + 1 : Nat) : Int) := by rw [wrap_in (by omega) (by omega)]; omega
  have e2 : wrap64 ((t.size : Int) + 2) = (((r.takeWhile pln).length + 2 : Nat) : Int) := by rw [wrap_in (by omega) (by omega)]; omega
  rw [e1, e2]
  unfold txtTk
  simp only
  by_cases hend : (r.takeWhile pln).length + 1 = s.size
  · refine Ev.pos (by omega) (Ev.done fun _ => ?_)
    rw [if_neg (by rw [List.getElem?_eq_none (by omega)]; simp)]
    rfl
  · refine Ev.neg (by omega) (Ev.pos (by omega) (Ev.pos (by omega) ?_))
    have hlt : (r.takeWhile pln).length < r.length := by omega
    have hg : (bs s)[(r.takeWhile pln).length + 1]? = some (r[(r.takeWhile pln).length]'hlt) := by rw [hb, List.getElem?_cons_succ]; exact List.getElem?_eq_getElem hlt
    rw [bt_get s _ _ hg, List.getElem?_eq_getElem hlt]
    generalize r[(r.takeWhile pln).length]'hlt = c
    by_cases hq : c = 34
    · subst hq
      refine Ev.pos rfl (Ev.done fun _ => ?_)
      rw [if_pos rfl]
      rw [← ht]
      rfl
    · refine Ev.neg (fun h => hq ?_) (Ev.done fun _ => ?_)
      · apply UInt8.toNat_inj.1
        have : c.toNat = 34 := by omega
        rw [this]; rfl
      · rw [if_neg (by simpa using hq)]
        rfl
end Go.Proofs.YtifhmdlgjojodaaDoor.Lex
end
section
namespace Go.Proofs.YtifhmdlgjojodaaDoor.Lex
open Go.RowKit Go.Proofs.YtifhmdlgjojodaaDoor.Q Go.Proofs.YtifhmdlgjojodaaDoorW.PrintWords Go.Proofs.YtifhmdlgjojodaaDoorW.PrintMore Go.Proofs.YtifhmdlgjojodaaDoorW.EvMore
theorem u8_eq {c d : UInt8} (h : (c.toNat : Int) = (d.toNat : Int)) : c = d := UInt8.toNat_inj.1 (by omega)
def symb : List UInt8 → List UInt8
  | [] => []
  | c :: r => if c = 62 ∧ r.head? = some 61 then [62, 61] else if sym c = true then [c] else []
theorem sym_has (c : UInt8) : decide (Lib.indexByte [40, 41, 123, 125, 60, 61, 33, 59, 44, 58] c ≥ 0) = sym c := by
  rw [idx_has]
  simp [sym, Bool.or_assoc, Bool.beq_eq_decide_eq]
theorem symbol_f (s : ByteArray) : ∃ t, lexer_symbol.f s = some t ∧ bs t = symb (bs s) := by
  unfold lexer_symbol.f strings_HasPrefix.f stringslite_HasPrefix.f
  have e2 : ((⟨#[62, 61]⟩ : ByteArray).size : Int) = 2 := rfl
  have hx : (s.extract 0 ((2 : Int)).toNat).toList = (bs s).take 2 := by rw [toList_bs, bs_extract]; rfl
  have hp : ∃ b, ((if (s.size : Int) ≥ ((⟨#[62, 61]⟩ : ByteArray).size : Int) then (if 0 ≤ ((⟨#[62, 61]⟩ : ByteArray).size : Int) then (if ((⟨#[62, 61]⟩ : ByteArray).size : Int) ≤ (s.size : Int) then (some ((s.extract 0 (((⟨#[62, 61]⟩ : ByteArray).size : Int) : Int).toNat).toList == (⟨#[62, 61]⟩ : ByteArray).toList)) else (none)) else (none)) else (some false)) : Option Bool) = some b ∧ (b = true ↔ (bs s).take 2 = [62, 61]) := by
    rw [e2, hx]
    by_cases h : (s.size : Int) ≥ 2
    · rw [if_pos h, if_pos (by omega), if_pos h]
      refine ⟨_, rfl, ?_⟩
      rw [beq_iff_eq, toList_bs]
      rfl
    · rw [if_neg h]
      refine ⟨_, rfl, ?_⟩
      simp only [Bool.false_eq_true, false_iff]
      intro e
      have := congrArg List.length e
      simp [bs_length] at this
      omega
  obtain ⟨b, hb, hbi⟩ := hp
  rw [hb]
  simp only [Option.bind_some]
  cases b with
  | true =>
    rw [if_pos rfl]
    refine ⟨_, rfl, ?_⟩
    have := hbi.1 rfl
    cases h : bs s with
    | nil => rw [h] at this; cases this
    | cons c r =>
      rw [h] at this
      cases r with
      | nil => simp at this
      | cons d r =>
        simp at this
        rw [symb, if_pos (by simp [this])]
        rfl
  | false =>
    rw [if_neg (by simp)]
    cases h : bs s with
    | nil =>
      rw [if_pos ((bs_eq_iff _ _).2 h)]
      exact ⟨_, rfl, rfl⟩
    | cons c r =>
      have hn : ¬ (c = 62 ∧ r.head? = some 61) := by
        rintro ⟨rfl, hr⟩
        cases r with
        | nil => simp at hr
        | cons d r => simp at hr; subst hr; exact absurd (hbi.2 (by rw [h]; rfl)) (by simp)
      have hsz : s.size = r.length + 1 := by rw [← bs_length, h]; rfl
      have hg := bt_get s 0 c (by rw [h]; rfl)
      rw [show ((0 : Nat) : Int) = 0 from rfl] at hg
      rw [if_neg (fun e => by rw [bs_eq_iff, h] at e; cases e), if_pos (by omega), hg]
      unfold strings_IndexByte.f
      rw [Option.bind_some, byte_back]
      rw [symb, if_neg hn]
      have hs := sym_has c
      cases hv : sym c with
      | true =>
        rw [hv] at hs
        rw [if_pos (of_decide_eq_true hs), if_pos (by omega), if_pos (by omega), if_pos rfl]
        refine ⟨_, rfl, ?_⟩
        rw [bs_extract, h]
        rfl
      | false =>
        rw [hv] at hs
        rw [if_neg (of_decide_eq_false hs), if_neg (by simp)]
        exact ⟨_, rfl, rfl⟩
theorem one_sym (s t : ByteArray) (l : List UInt8) (ht : lexer_symbol.f s = some t) (hl : bs t = l) (hn : l ≠ []) : Ev (fun k => lexer_one.j0 k s false) (outP (4, l, 0, l.length, 0)) := by
  refine Ev.next (fun k => by rw [lexer_one.j0]) ?_
  refine Ev.neg (by simp) ?_
  refine Ev.bindS ht ?_
  refine Ev.neg (fun e => hn (by rw [bs_eq_iff, hl] at e; exact e)) (Ev.done fun _ => ?_)
  subst hl
  rfl
theorem one_none (s t : ByteArray) (ht : lexer_symbol.f s = some t) (hl : bs t = []) : Ev (fun k => lexer_one.j0 k s false) (outP (bad 1)) := by
  refine Ev.next (fun k => by rw [lexer_one.j0]) ?_
  refine Ev.neg (by simp) ?_
  refine Ev.bindS ht ?_
  exact Ev.pos ((bs_eq_iff _ _).2 hl) (Ev.done fun _ => rfl)
theorem one_name (s : ByteArray) (hs : s.size ≤ 4611686018427387904) : Ev (fun k => lexer_one.j0 k s true) (outP (1, (bs s).takeWhile nam, 0, ((bs s).takeWhile nam).length, 0)) := by
  refine Ev.next (fun k => by rw [lexer_one.j0]) ?_
  refine Ev.pos rfl (Ev.both (run_name s hs) (Ev.done fun _ => ?_))
  have hr := bs_run s nam
  generalize s.extract 0 ((bs s).takeWhile nam).length = t at hr ⊢
  rw [← hr]
  rfl
theorem one_ev (s : ByteArray) (hne : bs s ≠ []) (hs : s.size ≤ 4611686018427387904) : Ev (fun k => lexer_one.f k s) (outP (tk (bs s))) := by
  cases h : bs s with
  | nil => exact absurd h hne
  | cons c r =>
    have hsz : s.size = r.length + 1 := by rw [← bs_length, h]; rfl
    have hg := bt_get s 0 c (by rw [h]; rfl)
    rw [show ((0 : Nat) : Int) = 0 from rfl] at hg
    have go : ∀ b, b = (nam c && c != 45) → Ev (fun k => lexer_one.j0 k s b) (outP (if (nam c && c != 45) = true then (1, (c :: r).takeWhile nam, 0, ((c :: r).takeWhile nam).length, 0)
            else if c = 62 ∧ r.head? = some 61 then (4, [62, 61], 0, 2, 0) else if sym c = true then (4, [c], 0, 1, 0) else bad 1)) := by
      intro b hb
      cases b with
      | true =>
        rw [if_pos hb.symm, ← h]
        exact one_name s hs
      | false =>
        rw [if_neg (by rw [← hb]; simp)]
        obtain ⟨t, ht, hts⟩ := symbol_f s
        rw [h, symb] at hts
        by_cases h1 : c = 62 ∧ r.head? = some 61
        · rw [if_pos h1] at hts ⊢
          exact one_sym s t _ ht hts (by simp)
        · rw [if_neg h1] at hts ⊢
          by_cases h2 : sym c = true
          · rw [if_pos h2] at hts ⊢
            exact one_sym s t _ ht hts (by simp)
          · rw [if_neg h2] at hts ⊢
            exact one_none s t ht hts
    unfold lexer_one.f
    refine Ev.pos (by omega) ?_
    rw [hg]
    refine Ev.bindS (dig_f c) ?_
    simp only [tk]
    by_cases hd : dig c = true
    · rw [if_pos hd]
      refine Ev.pos hd ?_
      rw [← h]
      exact Ev.both (number_ev s hs) (Ev.done fun _ => rfl)
    · rw [if_neg hd]
      refine Ev.neg hd ?_
      by_cases hq : c = 34
      · rw [if_pos hq]
        refine Ev.pos (by rw [hq]; rfl) ?_
        subst hq
        exact Ev.both (quoted_ev s r h hs) (Ev.done fun _ => rfl)
      · rw [if_neg hq]
        refine Ev.neg (fun e => hq (u8_eq e)) ?_
        refine Ev.bindS (name_f c) ?_
        cases hn : nam c with
        | true =>
          refine Ev.pos rfl ?_
          rw [hn] at go
          refine go _ ?_
          rw [Bool.true_and, Bool.eq_iff_iff]
          simp only [bne_iff_ne, ne_eq]
          exact ⟨fun h e => h (by rw [e]; rfl), fun h e => h (u8_eq e)⟩
        | false =>
          refine Ev.neg (by simp) ?_
          rw [hn] at go
          exact go _ rfl
end Go.Proofs.YtifhmdlgjojodaaDoor.Lex
end
section
namespace Go.Proofs.YtifhmdlgjojodaaDoor.Lex
open Go.RowKit Go.Proofs.YtifhmdlgjojodaaDoor.Q Go.Proofs.YtifhmdlgjojodaaDoorW.PrintWords Go.Proofs.YtifhmdlgjojodaaDoorW.PrintMore Go.Proofs.YtifhmdlgjojodaaDoorW.EvMore
theorem get_bs (s : ByteArray) (p : Nat) (h : p < s.size) : ∃ d, (bs s)[p]? = some d ∧ (s.get! p) = d := by
  have hl : p < (bs s).length := h
  refine ⟨(bs s)[p]'hl, List.getElem?_eq_getElem hl, ?_⟩
  have := get_at s p h
  rw [Nat.add_zero] at this
  rw [this]
  rfl
theorem decode_wide (s : ByteArray) (pos : Nat) (h : pos < s.size) (ha : 128 ≤ (s.get! pos).toNat) :
    pos + (Utf8.decode s pos).2 ≤ s.size ∧ ∀ j, 0 < j → j < (Utf8.decode s pos).2 → 128 ≤ (s.get! (pos + j)).toNat := by
  have hn : ¬ (s.get! (pos + 0)).toNat < 128 := by rw [Nat.add_zero]; omega
  simp only [Utf8.decode, hn, if_false]
  have k1 : ∀ k : Nat, ((decide (pos + k < s.size) && ((s.get! (pos + k)).toNat / 64 == 2)) = true) → pos + k < s.size ∧ 128 ≤ (s.get! (pos + k)).toNat := by
    intro k hk
    simp only [Bool.and_eq_true, decide_eq_true_eq, beq_iff_eq] at hk
    omega
  split
  · rename_i h2
    simp only [Bool.and_eq_true] at h2
    have c1 := k1 1 (by simpa using h2.2)
    split
    · exact ⟨by show pos + 2 ≤ _; omega, fun j h0 h1 => by
        have h1' : j < 2 := h1
        obtain rfl : j = 1 := by omega
        exact c1.2⟩
    · exact ⟨by show pos + 1 ≤ _; omega, fun j h0 h1 => by have h1' : j < 1 := h1; omega⟩
  · split
    · rename_i h2
      simp only [Bool.and_eq_true] at h2
      have c1 := k1 1 (by simpa using h2.1.2)
      have c2 := k1 2 (by simpa using h2.2)
      split
      · exact ⟨by show pos + 3 ≤ _; omega, fun j h0 h1 => by
          have h1' : j < 3 := h1
          rcases (by omega : j = 1 ∨ j = 2) with rfl | rfl
          · exact c1.2
          · exact c2.2⟩
      · exact ⟨by show pos + 1 ≤ _; omega, fun j h0 h1 => by have h1' : j < 1 := h1; omega⟩
    · split
      · rename_i h2
        simp only [Bool.and_eq_true] at h2
        have c1 := k1 1 (by simpa using h2.1.1.2)
        have c2 := k1 2 (by simpa using h2.1.2)
        have c3 := k1 3 (by simpa using h2.2)
        split
        · exact ⟨by show pos + 4 ≤ _; omega, fun j h0 h1 => by
            have h1' : j < 4 := h1
            rcases (by omega : j = 1 ∨ j = 2 ∨ j = 3) with rfl | rfl | rfl
            · exact c1.2
            · exact c2.2
            · exact c3.2⟩
        · exact ⟨by show pos + 1 ≤ _; omega, fun j h0 h1 => by have h1' : j < 1 := h1; omega⟩
      · exact ⟨by show pos + 1 ≤ _; omega, fun j h0 h1 => by have h1' : j < 1 := h1; omega⟩
theorem blank_skip (l : List UInt8) : ∀ (n : Nat), n ≤ l.length → (∀ j, j < n → ∃ d, l[j]? = some d ∧ 128 ≤ d.toNat) → blank l true = n + blank (l.drop n) true := by
  induction l with
  | nil => intro n hn _; simp at hn; subst hn; simp
  | cons c r ih =>
    intro n hn hd
    cases n with
    | zero => simp
    | succ n =>
      obtain ⟨d, hd0, hd1⟩ := hd 0 (by omega)
      simp at hd0
      subst hd0
      have hc : c ≠ 10 := by rintro rfl; exact absurd hd1 (by decide)
      rw [blank, if_neg hc, List.drop_succ_cons, ih n (by simpa using hn) (fun j hj => by simpa using hd (j + 1) (by omega))]
      omega
theorem blankGo_eq (s : ByteArray) : ∀ (b pos : Nat) (c : Bool), pos ≤ s.size → s.size < pos + b → blankGo s b pos c = ((pos + blank ((bs s).drop pos) c : Nat) : Int)
  | 0, pos, c, hp, hb => by omega
  | b + 1, pos, c, hp, hb => by
    by_cases h : pos < s.size
    · obtain ⟨d, hd, hdg⟩ := get_bs s pos h
      have hdr : (bs s).drop pos = d :: (bs s).drop (pos + 1) := by
        obtain ⟨hl, e⟩ := List.getElem?_eq_some_iff.1 hd
        rw [List.drop_eq_getElem_cons hl, e]
      rw [blankGo, if_pos h]
      by_cases ha : d.toNat < 128
      · have hdec : Utf8.decode s pos = (d.toNat, 1) := by
          have e : s[pos]'h = d := by
            have := get_at s pos h
            rw [Nat.add_zero, hdg] at this
            exact this.symm
          rw [decode_ascii s pos h (by rw [e]; exact ha), e]
        have k10 : (d.toNat = 10) ↔ d = 10 := ⟨fun e => UInt8.toNat_inj.1 (by rw [e]; rfl), fun e => by rw [e]; rfl⟩
        have k32 : (d.toNat = 32) ↔ d = 32 := ⟨fun e => UInt8.toNat_inj.1 (by rw [e]; rfl), fun e => by rw [e]; rfl⟩
        have k35 : (d.toNat = 35) ↔ d = 35 := ⟨fun e => UInt8.toNat_inj.1 (by rw [e]; rfl), fun e => by rw [e]; rfl⟩
        rw [hdec, hdr]
        simp only [k10, k32, k35]
        have i0 := blankGo_eq s b (pos + 1) false (by omega) (by omega)
        have i1 := blankGo_eq s b (pos + 1) true (by omega) (by omega)
        by_cases h10 : d = 10
        · rw [if_pos h10, i0]
          cases c with
          | false => rw [blank, if_pos (.inr h10)]; congr 1; omega
          | true => rw [blank, if_pos h10]; congr 1; omega
        · rw [if_neg h10]
          cases c with
          | true => rw [if_pos (.inr rfl), i1, blank, if_neg h10]; congr 1; omega
          | false =>
            by_cases h32 : d = 32
            · rw [if_pos (.inl h32), i0, blank, if_pos (.inl h32)]; congr 1; omega
            · have n1 : ¬ (d = 32 ∨ false = true) := by
                rintro (h | h)
                · exact h32 h
                · cases h
              have n2 : ¬ (d = 32 ∨ d = 10) := by
                rintro (h | h)
                · exact h32 h
                · exact h10 h
              rw [if_neg n1, blank, if_neg n2]
              by_cases h35 : d = 35
              · rw [if_pos h35, if_pos h35, i1]; congr 1; omega
              · rw [if_neg h35, if_neg h35]; rfl
      · have ha' : 128 ≤ (s.get! pos).toNat := by rw [hdg]; omega
        have hw := decode_wide s pos h ha'
        have hh := decode_high s pos h (by
          have := get_at s pos h
          rw [Nat.add_zero] at this
          rw [← this]; exact ha')
        generalize hde : Utf8.decode s pos = de at hw hh ⊢
        rw [if_neg (by omega), if_neg (c := de.1 = 35) (by omega)]
        have hall : ∀ j, j < de.2 → ∃ x, ((bs s).drop pos)[j]? = some x ∧ 128 ≤ x.toNat := by
          intro j hj
          obtain ⟨x, hx, hxg⟩ := get_bs s (pos + j) (by omega)
          refine ⟨x, by rw [List.getElem?_drop]; exact hx, ?_⟩
          rw [← hxg]
          rcases Nat.eq_zero_or_pos j with rfl | h0
          · rw [Nat.add_zero]; exact ha'
          · exact hw.2 j h0 hj
        cases c with
        | true =>
          rw [if_pos (.inr rfl), blankGo_eq s b (pos + de.2) true hw.1 (by omega), blank_skip ((bs s).drop pos) de.2 (by rw [List.length_drop, bs_length]; omega) hall, List.drop_drop]
          congr 1
          omega
        | false =>
          have hn : d ≠ 10 ∧ d ≠ 32 ∧ d ≠ 35 := by
            refine ⟨?_, ?_, ?_⟩ <;> (rintro rfl; exact ha (by decide))
          rw [if_neg (by simp; omega), hdr, blank, if_neg (by simp [hn]), if_neg hn.2.2]
          rfl
    · rw [blankGo, if_neg h, List.drop_of_length_le (by rw [bs_length]; omega)]
      simp [blank]
      omega
theorem blank_f (s : ByteArray) : lexer_blank.f s = some ((blank (bs s) false : Nat) : Int) := by
  unfold lexer_blank.f
  rw [blankGo_eq s _ 0 false (Nat.zero_le _) (by omega), List.drop_zero, Nat.zero_add]
def Rel (a : S36) (t : Tok) : Prop := a.f0 = t.kind ∧ bs a.f1 = t.text ∧ a.f2 = t.int ∧ a.f3 = (t.at_ : Int)
inductive Rels : List S36 → List Tok → Prop where
  | nil : Rels [] []
  | cons {a t xs ts} : Rel a t → Rels xs ts → Rels (a :: xs) (t :: ts)
theorem Rels.append {xs ys ts us} (h : Rels xs ts) (k : Rels ys us) : Rels (xs ++ ys) (ts ++ us) := by
  induction h with
  | nil => exact k
  | cons h1 _ ih => exact .cons h1 ih
theorem Rels.length {xs ts} (h : Rels xs ts) : xs.length = ts.length := by
  induction h with
  | nil => rfl
  | cons _ _ ih => simp [ih]
theorem tokens_step (s : ByteArray) (acc : List S36) (p n b : Nat) (o : Int × ByteArray × Int × Int × Int × Int) (hlt : p < s.size) (hone : Ev (fun k => lexer_one.f k (s.extract (p : Int).toNat s.size)) o) (he : o.2.2.2.2.2 = 0) (hn : o.2.2.2.2.1 = (n : Int))
    (hs : s.size ≤ 16384) (hpn : p + n ≤ s.size) (hacc : acc.length ≤ p) (hbf : lexer_blank.f (s.extract (((p + n : Nat) : Int)).toNat s.size) = some (b : Int)) (hb : p + n + b ≤ s.size) (res : List S36 × Int × Int)
    (hres : Ev (fun k => lexer_Tokens.l0 k s (acc ++ [(⟨o.1, o.2.1, o.2.2.1, (p : Int)⟩ : S36)]) ((p + n + b : Nat) : Int)) res) : Ev (fun k => lexer_Tokens.l0 k s acc p) res := by
  have e1 : wrap64 ((p : Int) + o.2.2.2.2.1) = ((p + n : Nat) : Int) := by
    rw [hn, wrap_in (by omega) (by omega)]
    omega
  have e2 : wrap64 (((p + n : Nat) : Int) + (b : Int)) = ((p + n + b : Nat) : Int) := by
    rw [wrap_in (by omega) (by omega)]
    omega
  have q1 : (p : Int) < (s.size : Int) := by omega
  have q2 : 0 ≤ (p : Int) := by omega
  have q3 : (p : Int) ≤ (s.size : Int) := by omega
  have q4 : acc.length < 3518437208883 := by omega
  have q5 : 0 ≤ ((p + n : Nat) : Int) := by omega
  have q6 : ((p + n : Nat) : Int) ≤ (s.size : Int) := by omega
  refine Ev.next (fun k => by rw [lexer_Tokens.l0]) ?_
  refine Ev.pos q1 (Ev.pos q2 (Ev.pos q3 ?_))
  refine Ev.both hone ?_
  refine Ev.pos he ?_
  refine Ev.pos q4 ?_
  rw [e1]
  refine Ev.pos q5 (Ev.pos q6 ?_)
  refine Ev.bindS hbf ?_
  rw [e2]
  exact hres
theorem tokens_bad (s : ByteArray) (acc : List S36) (p : Nat) (o : Int × ByteArray × Int × Int × Int × Int) (hlt : p < s.size) (hone : Ev (fun k => lexer_one.f k (s.extract (p : Int).toNat s.size)) o) (he : o.2.2.2.2.2 ≠ 0) : Ev (fun k => lexer_Tokens.l0 k s acc p) ([], (p : Int), o.2.2.2.2.2) := by
  have q1 : (p : Int) < (s.size : Int) := by omega
  have q2 : 0 ≤ (p : Int) := by omega
  have q3 : (p : Int) ≤ (s.size : Int) := by omega
  refine Ev.next (fun k => by rw [lexer_Tokens.l0]) ?_
  refine Ev.pos q1 (Ev.pos q2 (Ev.pos q3 ?_))
  refine Ev.both hone ?_
  exact Ev.neg he (Ev.done fun _ => rfl)
theorem tokens_end (s : ByteArray) (acc : List S36) (p : Nat) (hlt : ¬ p < s.size) : Ev (fun k => lexer_Tokens.l0 k s acc p) (acc, 0, 0) := by
  have q1 : ¬ (p : Int) < (s.size : Int) := by omega
  refine Ev.next (fun k => by rw [lexer_Tokens.l0]) ?_
  exact Ev.neg q1 (Ev.done fun _ => rfl)
def Outs (acc : List S36) (r : List Tok × Int × Int) (o : List S36 × Int × Int) : Prop :=
  ∃ xs, Rels xs r.1 ∧ o = (if r.2.2 = 0 then acc ++ xs else [], r.2.1, r.2.2)
theorem bs_tail (s : ByteArray) (p : Nat) : bs (s.extract (p : Int).toNat s.size) = (bs s).drop p := by
  rw [bs_extract, Int.toNat_natCast]
  exact List.take_of_length_le (by rw [List.length_drop, bs_length]; omega)
theorem lexGo_shape : ∀ (f p : Nat) (l : List UInt8), (lexGo f p l).2.2 = 0 → (lexGo f p l).2.1 = 0
  | 0, _, _, _ => rfl
  | f + 1, p, l, h => by
    rw [lexGo] at h ⊢
    split
    · rfl
    · rename_i hl
      rw [if_neg hl] at h
      simp only at h ⊢
      split
      · rename_i h1; rw [if_pos h1] at h; exact absurd h h1
      · rename_i h1
        rw [if_neg h1] at h
        split
        · rename_i h2; rw [if_pos h2] at h; exact absurd h h2
        · rfl
theorem tokens_loop (s : ByteArray) (hs : s.size ≤ 16384) : ∀ (f p : Nat) (acc : List S36), p ≤ s.size → s.size < p + f → acc.length ≤ p →
    ∃ o, Ev (fun k => lexer_Tokens.l0 k s acc p) o ∧ Outs acc (lexGo f p ((bs s).drop p)) o
  | 0, p, acc, h1, h2, h3 => by omega
  | f + 1, p, acc, h1, h2, h3 => by
    by_cases hlt : p < s.size
    · have hlen : ((bs s).drop p).length = s.size - p := by rw [List.length_drop, bs_length]
      have hne : (bs s).drop p ≠ [] := by
        intro e
        rw [e] at hlen
        simp at hlen
        omega
      have hone := one_ev (s.extract (p : Int).toNat s.size) (by rw [bs_tail]; exact hne) (by rw [size_extract]; omega)
      rw [bs_tail] at hone
      have htl := tk_len ((bs s).drop p)
      rw [hlen] at htl
      rw [lexGo, if_neg hne]
      simp only [List.drop_drop]
      generalize tk ((bs s).drop p) = t at hone htl ⊢
      by_cases he : t.2.2.2.2 = 0
      · have htl := htl he
        rw [if_neg (show ¬ t.2.2.2.2 ≠ 0 from fun h => h he)]
        have hbl := blank_le ((bs s).drop (p + t.2.2.2.1)) false
        rw [List.length_drop, bs_length] at hbl
        have hbf := blank_f (s.extract (((p + t.2.2.2.1 : Nat) : Int)).toNat s.size)
        rw [bs_tail] at hbf
        generalize blank ((bs s).drop (p + t.2.2.2.1)) false = b at hbl hbf ⊢
        obtain ⟨o, hev, xs, hrel, ho⟩ := tokens_loop s hs f (p + t.2.2.2.1 + b) (acc ++ [(⟨t.1, ⟨t.2.1.toArray⟩, t.2.2.1, (p : Int)⟩ : S36)]) (by omega) (by omega) (by simp; omega)
        have hres := tokens_step s acc p t.2.2.2.1 b (outP t) hlt hone he rfl hs (by omega) h3 hbf (by omega) o hev
        have hsh := lexGo_shape f (p + t.2.2.2.1 + b) ((bs s).drop (p + t.2.2.2.1 + b))
        generalize lexGo f (p + t.2.2.2.1 + b) ((bs s).drop (p + t.2.2.2.1 + b)) = r at hrel ho hsh ⊢
        refine ⟨o, hres, ?_⟩
        by_cases hr : r.2.2 = 0
        · rw [if_neg (fun h => h hr)]
          refine ⟨(⟨t.1, ⟨t.2.1.toArray⟩, t.2.2.1, (p : Int)⟩ : S36) :: xs, .cons ⟨rfl, rfl, rfl, rfl⟩ hrel, ?_⟩
          rw [ho, if_pos hr, hr, hsh hr, List.append_assoc]
          rfl
        · rw [if_pos hr]
          refine ⟨[], .nil, ?_⟩
          rw [ho, if_neg hr, if_neg hr]
      · rw [if_pos he]
        exact ⟨_, tokens_bad s acc p _ hlt hone he, [], .nil, by rw [if_neg he]; rfl⟩
    · have hnil : (bs s).drop p = [] := List.drop_of_length_le (by rw [bs_length]; omega)
      rw [hnil, lexGo, if_pos rfl]
      exact ⟨_, tokens_end s acc p hlt, [], .nil, by simp⟩
theorem tokens_ev (s : ByteArray) (hs : s.size ≤ 4611686018427387904) : ∃ o, Ev (fun k => lexer_Tokens.f k s) o ∧ Outs [] (lex (bs s)) o := by
  unfold lexer_Tokens.f lex
  by_cases hbig : 16384 < s.size
  · rw [if_pos (show 16384 < (bs s).length from hbig)]
    exact ⟨_, Ev.pos (by omega) (Ev.done fun _ => rfl), [], .nil, rfl⟩
  · have hbl := blank_le (bs s) false
    rw [if_neg (show ¬ 16384 < (bs s).length from hbig)]
    obtain ⟨o, hev, ho⟩ := tokens_loop s (by omega) ((bs s).length + 1) (blank (bs s) false) [] hbl (by rw [bs_length]; omega) (by simp)
    exact ⟨o, Ev.neg (by omega) (Ev.bindS (blank_f s) hev), ho⟩
end Go.Proofs.YtifhmdlgjojodaaDoor.Lex
end
section
namespace Go.Proofs.YtifhmdlgjojodaaDoor.Lex
open Go.RowKit Go.Proofs.YtifhmdlgjojodaaDoor.Q Go.Proofs.YtifhmdlgjojodaaDoorW.PrintWords Go.Proofs.YtifhmdlgjojodaaDoorW.PrintMore Go.Proofs.YtifhmdlgjojodaaDoorW.EvMore
theorem rdig_f (c : UInt8) : tapearchiveref28_digit.f (c.toNat : Int) = some (dig c) := dig_f c
theorem ralp_f (c : UInt8) : tapearchiveref28_letter.f (c.toNat : Int) = some (alp c) := alp_f c
theorem rpln_f (c : UInt8) : tapearchiveref28_content.f (c.toNat : Int) = some (pln c) := plain_f c
theorem u8_lit {c d : UInt8} : ((c.toNat : Int) = (d.toNat : Int)) ↔ c = d := ⟨u8_eq, fun h => by rw [h]⟩
theorem rnam_f (c : UInt8) : tapearchiveref28_named.f (c.toNat : Int) = some (nam c) := by
  unfold tapearchiveref28_named.f nam
  rw [ralp_f, Option.bind_some]
  have k : ∀ d : UInt8, ((c.toNat : Int) = (d.toNat : Int)) = (c = d) := fun d => propext u8_lit
  have k95 := k 95; have k45 := k 45; have k46 := k 46; have k47 := k 47; have k42 := k 42
  have k63 : ((c.toNat : Int) == 63) = (c == 63) := by
    rw [Bool.eq_iff_iff, beq_iff_eq, beq_iff_eq]
    exact u8_lit (d := 63)
  cases ha : alp c with
  | true => simp
  | false =>
    rw [if_neg (by simp), rdig_f, Option.bind_some]
    cases hd : dig c with
    | true => simp
    | false =>
      rw [if_neg (by simp)]
      simp only [show ((c.toNat : Int) = 95) = (c = 95) from k95, show ((c.toNat : Int) = 45) = (c = 45) from k45, show ((c.toNat : Int) = 46) = (c = 46) from k46, show ((c.toNat : Int) = 47) = (c = 47) from k47, show ((c.toNat : Int) = 42) = (c = 42) from k42, k63]
      repeat' split
      all_goals simp_all
theorem runit_f (s : ByteArray) : tapearchiveref28_Unit.f s = some (((unit (bs s)).1 : Int), (unit (bs s)).2) := unit_f s
theorem drop_cons {s : ByteArray} {p : Nat} (h : p < s.size) : ∃ c, (bs s).drop p = c :: (bs s).drop (p + 1) ∧ bt s (p : Int) = (c.toNat : Int) := by
  have hl : p < (bs s).length := h
  exact ⟨(bs s)[p]'hl, List.drop_eq_getElem_cons hl, bt_get s p _ (List.getElem?_eq_getElem hl)⟩
theorem wrap_succ {s : ByteArray} {p : Nat} (hs : s.size ≤ 4611686018427387904) (h : p < s.size) : wrap64 ((p : Int) + 1) = ((p + 1 : Nat) : Int) := by rw [wrap_in (by omega) (by omega)]; omega
theorem skip_loop (s : ByteArray) (hs : s.size ≤ 4611686018427387904) (d : Nat) : ∀ p, p ≤ s.size → s.size - p = d →
    Ev (fun k => tapearchiveref28_skip.l0 k s p) ((p + blank ((bs s).drop p) false : Nat) : Int) ∧ Ev (fun k => tapearchiveref28_skip.l1 k s p) ((p + blank ((bs s).drop p) true : Nat) : Int) := by
  induction d with
  | zero =>
    intro p h1 h2
    have q : ¬ (p : Int) < (s.size : Int) := by omega
    have hnil : (bs s).drop p = [] := List.drop_of_length_le (by rw [bs_length]; omega)
    have h0 : Ev (fun k => tapearchiveref28_skip.l0 k s p) ((p + 0 : Nat) : Int) := by
      refine Ev.next (fun k => by rw [tapearchiveref28_skip.l0]) ?_
      exact Ev.neg q (Ev.done fun _ => rfl)
    rw [hnil]
    refine ⟨h0, ?_⟩
    refine Ev.next (fun k => by rw [tapearchiveref28_skip.l1]) ?_
    exact Ev.neg q h0
  | succ d ih =>
    intro p h1 h2
    have hlt : p < s.size := by omega
    have q1 : (p : Int) < (s.size : Int) := by omega
    have q2 : 0 ≤ (p : Int) := by omega
    obtain ⟨c, hc, hb⟩ := drop_cons hlt
    obtain ⟨i0, i1⟩ := ih (p + 1) (by omega) (by omega)
    have hw := wrap_succ hs hlt
    have go1 : c ≠ 10 → Ev (fun k => tapearchiveref28_skip.l1 k s p) ((p + 1 + blank ((bs s).drop (p + 1)) true : Nat) : Int) := by
      intro hne
      refine Ev.next (fun k => by rw [tapearchiveref28_skip.l1]) ?_
      rw [hb, hw]
      refine Ev.pos q1 (Ev.pos q2 (Ev.neg (fun e => hne (u8_eq e)) i1))
    have jt : ∀ v, Ev (fun k => tapearchiveref28_skip.j1 k s p v true) ((p + 1 + blank ((bs s).drop (p + 1)) false : Nat) : Int) := by
      intro v
      refine Ev.next (fun k => by rw [tapearchiveref28_skip.j1]) ?_
      rw [hw]
      exact Ev.pos rfl i0
    have h0 : Ev (fun k => tapearchiveref28_skip.l0 k s p) ((p + blank ((bs s).drop p) false : Nat) : Int) := by
      refine Ev.next (fun k => by rw [tapearchiveref28_skip.l0]) ?_
      rw [hb, hc]
      refine Ev.pos q1 (Ev.pos q2 ?_)
      by_cases h32 : c = 32
      · subst h32
        refine Ev.pos rfl ?_
        rw [blank, if_pos (.inl rfl), ← Nat.add_assoc]
        exact jt _
      · refine Ev.neg (fun e => h32 (u8_eq e)) ?_
        by_cases h10 : c = 10
        · subst h10
          rw [blank, if_pos (.inr rfl), ← Nat.add_assoc]
          exact jt _
        · have hf : ((c.toNat : Int) == 10) = false := by
            rw [beq_eq_false_iff_ne]
            exact fun e => h10 (u8_eq e)
          rw [hf]
          have n2 : ¬ (c = 32 ∨ c = 10) := by
            rintro (h | h)
            · exact h32 h
            · exact h10 h
          refine Ev.next (fun k => by rw [tapearchiveref28_skip.j1]) ?_
          refine Ev.neg (by simp) ?_
          rw [blank, if_neg n2]
          by_cases h35 : c = 35
          · subst h35
            rw [if_pos rfl, ← Nat.add_assoc]
            exact Ev.pos rfl (go1 h10)
          · rw [if_neg h35]
            exact Ev.neg (fun e => h35 (u8_eq e)) (Ev.done fun _ => rfl)
    refine ⟨h0, ?_⟩
    by_cases h10 : c = 10
    · refine Ev.next (fun k => by rw [tapearchiveref28_skip.l1]) ?_
      refine Ev.pos q1 (Ev.pos q2 (Ev.pos (by rw [hb, h10]; rfl) ?_))
      have e : blank ((bs s).drop p) true = blank ((bs s).drop p) false := by
        rw [hc, h10, blank, blank, if_pos rfl, if_pos (.inr rfl)]
      rw [e]
      exact h0
    · rw [hc, blank, if_neg h10, ← Nat.add_assoc]
      exact go1 h10
theorem skip_ev (s : ByteArray) (hs : s.size ≤ 4611686018427387904) (p : Nat) (h : p ≤ s.size) : Ev (fun k => tapearchiveref28_skip.f k s p) ((p + blank ((bs s).drop p) false : Nat) : Int) := (skip_loop s hs _ p h rfl).1
def outR (t : Tk) (p : Nat) : Int × ByteArray × Int × Int × Int × Int := (t.1, ⟨t.2.1.toArray⟩, t.2.2.1, if t.2.2.2.2 = 0 then (p : Int) else 0, if t.2.2.2.2 = 0 then ((p + t.2.2.2.1 : Nat) : Int) else 0, t.2.2.2.2)
def Capped (v : Nat) (x : Nat) : Prop := if v ≤ 1125899906842624 then x = v else 1125899906842624 < x ∧ x ≤ 11258999068426249
theorem rnum_j4 (p e : Nat) (f x v : Nat) (h1 : 1 ≤ f) (h2 : f ≤ 1048576) (hx : Capped v x) (he : e ≤ 4611686018427387904) (n : Nat) (hn : p + n = e + 1) :
    Ev (fun k => tapearchiveref28_number.j4 k p e x f false) (outR (if 1125899906842624 / f < v then bad 7 else (2, [], ((v * f : Nat) : Int), n, 0)) p) := by
  have hdiv : 1125899906842624 / f ≤ 1125899906842624 := Nat.div_le_self _ _
  have et : wrap64 (Int.tdiv (1125899906842624 : Int) (f : Int)) = ((1125899906842624 / f : Nat) : Int) := by
    rw [show (1125899906842624 : Int) = ((1125899906842624 : Nat) : Int) from rfl, tdiv_nat]
    exact wrap_nat (by omega)
  have hmm := Nat.div_mul_le_self 1125899906842624 f
  refine Ev.next (fun k => by rw [tapearchiveref28_number.j4]) ?_
  rw [et]
  unfold Capped at hx
  generalize 1125899906842624 / f = q at hdiv hmm ⊢
  have f0 : ¬ (f : Int) = 0 := by omega
  refine Ev.neg (by simp) (Ev.neg f0 ?_)
  by_cases hc : q < v
  · rw [if_pos hc]
    have : q < x := by split at hx <;> omega
    have g1 : (x : Int) > (q : Int) := by omega
    exact Ev.pos g1 (Ev.done fun _ => rfl)
  · rw [if_neg hc]
    have hv : v ≤ 1125899906842624 := by omega
    rw [if_pos hv] at hx
    subst hx
    have g1 : ¬ (x : Int) > (q : Int) := by omega
    have hm : x * f ≤ 1125899906842624 := Nat.le_trans (Nat.mul_le_mul_right f (Nat.le_of_not_lt hc)) hmm
    have e1 : wrap64 ((x : Int) * (f : Int)) = ((x * f : Nat) : Int) := by
      rw [show (x : Int) * (f : Int) = ((x * f : Nat) : Int) from by simp]
      exact wrap_nat (by omega)
    have e2 : wrap64 ((e : Int) + 1) = ((p + n : Nat) : Int) := by rw [wrap_in (by omega) (by omega)]; omega
    rw [e1, e2]
    generalize x * f = y at hm ⊢
    have g2 : ¬ (y : Int) > 1125899906842624 := by omega
    exact Ev.neg g1 (Ev.neg g2 (Ev.done fun _ => rfl))
theorem rnum_j4t (p e x : Int) (f : Int) : Ev (fun k => tapearchiveref28_number.j4 k p e x f true) (outR (bad 1) 0) := by
  refine Ev.next (fun k => by rw [tapearchiveref28_number.j4]) ?_
  exact Ev.pos rfl (Ev.done fun _ => rfl)
theorem bs_mid (s : ByteArray) (a : Nat) {c : UInt8} {r : List UInt8} (h : (bs s).drop a = c :: r) : bs (s.extract (a : Int).toNat ((a + 1 : Nat) : Int).toNat) = [c] := by
  rw [bs_extract, Int.toNat_natCast, Int.toNat_natCast, h, show a + 1 - a = 1 from by omega]
  rfl
theorem rnum_j2 (s : ByteArray) (hs : s.size ≤ 4611686018427387904) (p e x : Nat) (ds : List UInt8) (hpe : p + ds.length = e) (he : e ≤ s.size) (hx : Capped (val ds) x) (b : Bool) (hb : b = decide (1 < ds.length ∧ ds.head? = some 48)) :
    Ev (fun k => tapearchiveref28_number.j2 k s p e x b) (outR (if ((bs s).drop e).takeWhile nam = [] then numFin ds (((bs s).drop e).takeWhile nam) 1 else if (unit (((bs s).drop e).takeWhile nam)).2 = true then numFin ds (((bs s).drop e).takeWhile nam) (unit (((bs s).drop e).takeWhile nam)).1 else bad 1) p) := by
  refine Ev.next (fun k => by rw [tapearchiveref28_number.j2]) ?_
  have hbad : outR (bad 1) p = outR (bad 1) 0 := rfl
  cases b with
  | true =>
    have hz := of_decide_eq_true hb.symm
    have e1 : (if ((bs s).drop e).takeWhile nam = [] then numFin ds (((bs s).drop e).takeWhile nam) 1 else if (unit (((bs s).drop e).takeWhile nam)).2 = true then numFin ds (((bs s).drop e).takeWhile nam) (unit (((bs s).drop e).takeWhile nam)).1 else bad 1) = bad 1 := by
      unfold numFin
      rw [if_pos hz, if_pos hz]
      split
      · rfl
      · split <;> rfl
    rw [e1]
    exact Ev.pos rfl (Ev.done fun _ => rfl)
  | false =>
    have hz := of_decide_eq_false hb.symm
    refine Ev.neg (by simp) ?_
    have j3f : ((bs s).drop e).takeWhile nam = [] → Ev (fun k => tapearchiveref28_number.j3 k s p e x false) (outR (numFin ds [] 1) p) := by
      intro _
      refine Ev.next (fun k => by rw [tapearchiveref28_number.j3]) ?_
      refine Ev.neg (by simp) ?_
      unfold numFin
      rw [if_neg hz, Nat.div_one]
      unfold Capped at hx
      by_cases hv : 1125899906842624 < val ds
      · rw [if_neg (by omega)] at hx
        rw [if_pos hv]
        have g : (x : Int) > 1125899906842624 := by omega
        exact Ev.pos g (Ev.done fun _ => rfl)
      · rw [if_pos (by omega)] at hx
        rw [if_neg hv]
        subst hx
        have g : ¬ (val ds : Int) > 1125899906842624 := by omega
        refine Ev.neg g (Ev.done fun _ => ?_)
        simp only [outR, Nat.mul_one, List.length_nil, Nat.add_zero, if_true]
        rw [hpe]
    by_cases hlt : e < s.size
    · have q1 : (e : Int) < (s.size : Int) := by omega
      have q2 : 0 ≤ (e : Int) := by omega
      obtain ⟨c, hc, hbt⟩ := drop_cons hlt
      refine Ev.pos q1 (Ev.pos q2 ?_)
      rw [hbt]
      refine Ev.bindS (rnam_f c) ?_
      cases hn : nam c with
      | false =>
        have e0 : ((bs s).drop e).takeWhile nam = [] := by rw [hc, List.takeWhile_cons, hn]; rfl
        rw [if_pos e0, e0]
        exact j3f e0
      | true =>
        have hw := wrap_succ hs hlt
        have e0 : ((bs s).drop e).takeWhile nam = c :: ((bs s).drop (e + 1)).takeWhile nam := by rw [hc, List.takeWhile_cons, hn]; rfl
        rw [e0, if_neg (by simp)]
        refine Ev.next (fun k => by rw [tapearchiveref28_number.j3]) ?_
        rw [hw]
        have q3 : (e : Int) ≤ ((e + 1 : Nat) : Int) := by omega
        have q4 : ((e + 1 : Nat) : Int) ≤ (s.size : Int) := by omega
        have q5 : 0 ≤ ((e + 1 : Nat) : Int) := by omega
        refine Ev.pos rfl (Ev.pos q2 (Ev.pos q3 (Ev.pos q4 ?_)))
        refine Ev.bindS (runit_f _) ?_
        rw [bs_mid s e hc]
        by_cases hu : (unit [c]).2 = true
        · obtain ⟨u1, u2, _⟩ := unit_one hu
          refine Ev.pos hu ?_
          have last : ∀ t, t = decide (((bs s).drop (e + 1)).takeWhile nam ≠ []) → Ev (fun k => tapearchiveref28_number.j4 k p e x ((unit [c]).1 : Int) t) (outR (if (unit (c :: ((bs s).drop (e + 1)).takeWhile nam)).2 = true then numFin ds (c :: ((bs s).drop (e + 1)).takeWhile nam) (unit (c :: ((bs s).drop (e + 1)).takeWhile nam)).1 else bad 1) p) := by
            intro t ht
            cases t with
            | true =>
              have hne := of_decide_eq_true ht.symm
              have hu2 : ¬ (unit (c :: ((bs s).drop (e + 1)).takeWhile nam)).2 = true := by
                intro h
                have := (unit_one h).2.2
                simp only [List.length_cons] at this
                exact hne (List.length_eq_zero_iff.1 (by omega))
              rw [if_neg hu2, hbad]
              exact rnum_j4t _ _ _ _
            | false =>
              have hnil : ((bs s).drop (e + 1)).takeWhile nam = [] := by
                have := of_decide_eq_false ht.symm
                exact Classical.byContradiction fun h => this h
              rw [hnil, if_pos hu]
              unfold numFin
              rw [if_neg hz]
              exact rnum_j4 p e _ x (val ds) u1 u2 hx (by omega) (ds.length + [c].length) (by simp; omega)
          by_cases hlt2 : e + 1 < s.size
          · have q6 : ((e + 1 : Nat) : Int) < (s.size : Int) := by omega
            obtain ⟨c2, hc2, hbt2⟩ := drop_cons hlt2
            refine Ev.pos q6 (Ev.pos q5 ?_)
            rw [hbt2]
            refine Ev.bindS (rnam_f c2) (last _ ?_)
            rw [hc2, List.takeWhile_cons]
            cases nam c2 <;> simp
          · have q6 : ¬ ((e + 1 : Nat) : Int) < (s.size : Int) := by omega
            refine Ev.neg q6 (last _ ?_)
            rw [List.drop_of_length_le (by rw [bs_length]; omega)]
            simp
        · refine Ev.neg hu ?_
          have hu2 : ¬ (unit (c :: ((bs s).drop (e + 1)).takeWhile nam)).2 = true := by
            intro h
            have h3 := (unit_one h).2.2
            simp only [List.length_cons] at h3
            have : ((bs s).drop (e + 1)).takeWhile nam = [] := List.length_eq_zero_iff.1 (by omega)
            rw [this] at h
            exact hu h
          rw [if_neg hu2, hbad]
          exact rnum_j4t _ _ _ _
    · have q1 : ¬ (e : Int) < (s.size : Int) := by omega
      have e0 : ((bs s).drop e).takeWhile nam = [] := by rw [List.drop_of_length_le (by rw [bs_length]; omega)]; rfl
      rw [if_pos e0, e0]
      exact Ev.neg q1 (j3f e0)
end Go.Proofs.YtifhmdlgjojodaaDoor.Lex
end
section
namespace Go.Proofs.YtifhmdlgjojodaaDoor.Lex
open Go.RowKit Go.Proofs.YtifhmdlgjojodaaDoor.Q Go.Proofs.YtifhmdlgjojodaaDoorW.PrintWords Go.Proofs.YtifhmdlgjojodaaDoorW.PrintMore Go.Proofs.YtifhmdlgjojodaaDoorW.EvMore
theorem capped_step {v x d : Nat} (h : Capped v x) (hd : d ≤ 9) : Capped (10 * v + d) (if x ≤ 1125899906842624 then 10 * x + d else x) := by
  unfold Capped at h ⊢
  by_cases hv : v ≤ 1125899906842624
  · rw [if_pos hv] at h
    subst h
    rw [if_pos hv]
    by_cases h2 : 10 * x + d ≤ 1125899906842624
    · rw [if_pos h2]
    · rw [if_neg h2]
      omega
  · rw [if_neg hv] at h
    rw [if_neg (by omega), if_neg (by omega)]
    exact h
theorem rnum_loop (s : ByteArray) (hs : s.size ≤ 4611686018427387904) (p : Nat) (hp : p < s.size) (hpd : ∃ c, (bs s)[p]? = some c ∧ dig c = true) (d : Nat) : ∀ (e x : Nat) (ds : List UInt8), p ≤ e → e ≤ s.size → s.size - e = d → ((bs s).drop p).take (e - p) = ds → ds.all dig = true → Capped (val ds) x →
    Ev (fun k => tapearchiveref28_number.l0 k s p e x) (outR (numTk ((bs s).drop p)) p) := by
  have stop : ∀ (e x : Nat) (ds : List UInt8), p ≤ e → e ≤ s.size → ((bs s).drop p).take (e - p) = ds → ds.all dig = true → Capped (val ds) x → ((bs s).drop e).takeWhile dig = [] → Ev (fun k => tapearchiveref28_number.j1 k s p e x false) (outR (numTk ((bs s).drop p)) p) := by
    intro e x ds h1 h2 h3 h4 h5 h6
    have hsp : (bs s).drop p = ds ++ (bs s).drop e := by
      rw [← h3, show (bs s).drop e = ((bs s).drop p).drop (e - p) from by rw [List.drop_drop]; congr 1; omega]
      exact (List.take_append_drop _ _).symm
    have hdl : ds.length = e - p := by rw [← h3, List.length_take, List.length_drop, bs_length]; omega
    have htw : ((bs s).drop p).takeWhile dig = ds := by
      rw [hsp, List.takeWhile_append_of_pos (fun a h => List.all_eq_true.1 h4 a h), h6, List.append_nil]
    have hdr : ((bs s).drop p).drop ds.length = (bs s).drop e := by rw [hsp]; simp
    have hnum : numTk ((bs s).drop p) = (if ((bs s).drop e).takeWhile nam = [] then numFin ds (((bs s).drop e).takeWhile nam) 1 else if (unit (((bs s).drop e).takeWhile nam)).2 = true then numFin ds (((bs s).drop e).takeWhile nam) (unit (((bs s).drop e).takeWhile nam)).1 else bad 1) := by
      unfold numTk
      simp only
      rw [htw, hdr]
    rw [hnum]
    have hw := wrap_succ hs hp
    obtain ⟨c, hc, hcd⟩ := hpd
    have hb := bt_get s p c hc
    have hh : 0 < ds.length → ds.head? = some c := by
      intro h0
      have : ds[0]? = some c := by rw [← h3, List.getElem?_take_of_lt (by omega), List.getElem?_drop]; simpa using hc
      rw [List.head?_eq_getElem?]; exact this
    have q1 : 0 ≤ (p : Int) := by omega
    have q2 : (p : Int) < (s.size : Int) := by omega
    refine Ev.next (fun k => by rw [tapearchiveref28_number.j1]) ?_
    rw [hb, hw]
    refine Ev.neg (by simp) (Ev.pos q1 (Ev.pos q2 ?_))
    by_cases h48 : c = 48
    · subst h48
      refine Ev.pos rfl (rnum_j2 s hs p e x ds (by omega) h2 h5 _ ?_)
      rw [decide_eq_decide]
      constructor
      · intro h; exact ⟨by omega, hh (by omega)⟩
      · intro h; have := h.1; omega
    · refine Ev.neg (fun e => h48 (u8_eq e)) (rnum_j2 s hs p e x ds (by omega) h2 h5 _ ?_)
      symm
      rw [decide_eq_false_iff_not]
      rintro ⟨h0, h00⟩
      rw [hh (by omega)] at h00
      exact h48 (Option.some.inj h00)
  induction d with
  | zero =>
    intro e x ds h1 h2 hd h3 h4 h5
    have q1 : ¬ (e : Int) < (s.size : Int) := by omega
    refine Ev.next (fun k => by rw [tapearchiveref28_number.l0]) ?_
    refine Ev.neg q1 (stop e x ds h1 h2 h3 h4 h5 ?_)
    rw [List.drop_of_length_le (by rw [bs_length]; omega)]
    rfl
  | succ d ih =>
    intro e x ds h1 h2 hd h3 h4 h5
    have hlt : e < s.size := by omega
    have q1 : (e : Int) < (s.size : Int) := by omega
    have q2 : 0 ≤ (e : Int) := by omega
    obtain ⟨c, hc, hb⟩ := drop_cons hlt
    refine Ev.next (fun k => by rw [tapearchiveref28_number.l0]) ?_
    refine Ev.pos q1 (Ev.pos q2 ?_)
    rw [hb]
    refine Ev.bindS (rdig_f c) ?_
    cases hdc : dig c with
    | false => exact stop e x ds h1 h2 h3 h4 h5 (by rw [hc, List.takeWhile_cons, hdc]; rfl)
    | true =>
      have hw := wrap_succ hs hlt
      have hcb : 48 ≤ c.toNat ∧ c.toNat ≤ 57 := by simpa [dig] using hdc
      have hnext : ((bs s).drop p).take (e + 1 - p) = ds ++ [c] := by
        have hg : ((bs s).drop p)[e - p]? = some c := by
          rw [List.getElem?_drop, show p + (e - p) = e + 0 from by omega, ← List.getElem?_drop, hc]
          rfl
        obtain ⟨hl, hg2⟩ := List.getElem?_eq_some_iff.1 hg
        rw [show e + 1 - p = (e - p) + 1 from by omega, List.take_succ_eq_append_getElem hl, hg2, h3]
      have hcap := capped_step (d := c.toNat - 48) h5 (by omega)
      rw [← val_snoc] at hcap
      have ih2 := fun x2 hx2 => ih (e + 1) x2 (ds ++ [c]) (by omega) (by omega) (by omega) hnext (by rw [List.all_append, h4]; simp [hdc]) hx2
      clear ih stop
      refine Ev.next (fun k => by rw [tapearchiveref28_number.j1]) ?_
      rw [hb, hw]
      refine Ev.pos rfl ?_
      by_cases hx : x ≤ 1125899906842624
      · rw [if_pos hx] at hcap
        have q3 : (x : Int) ≤ 1125899906842624 := by omega
        have e1 : wrap64 (wrap64 (10 * (x : Int)) + ((c.toNat : Int) - 48) % 256) = ((10 * x + (c.toNat - 48) : Nat) : Int) := by
          rw [wrap_in (i := 10 * _) (by omega) (by omega), wrap_in (by omega) (by omega)]
          omega
        rw [e1]
        exact Ev.pos q3 (Ev.pos q2 (Ev.pos q1 (ih2 _ hcap)))
      · rw [if_neg hx] at hcap
        have q3 : ¬ (x : Int) ≤ 1125899906842624 := by omega
        exact Ev.neg q3 (ih2 _ hcap)
theorem rnumber_ev (s : ByteArray) (hs : s.size ≤ 4611686018427387904) (p : Nat) (hp : p < s.size) (hpd : ∃ c, (bs s)[p]? = some c ∧ dig c = true) : Ev (fun k => tapearchiveref28_number.f k s p) (outR (numTk ((bs s).drop p)) p) :=
  rnum_loop s hs p hp hpd _ p 0 [] (Nat.le_refl _) (by omega) rfl (by simp) rfl (by simp [Capped, val])
theorem rtext_loop (s : ByteArray) (hs : s.size ≤ 4611686018427387904) (p : Nat) (d : Nat) : ∀ (e : Nat) (t : List UInt8), p + 1 ≤ e → e ≤ s.size → s.size - e = d → ((bs s).drop (p + 1)).take (e - (p + 1)) = t → t.all pln = true →
    Ev (fun k => tapearchiveref28_token.l0 k s p e) (outR (txtTk ((bs s).drop (p + 1))) p) := by
  have hbad : outR (bad 1) p = outR (bad 1) 0 := rfl
  induction d with
  | zero =>
    intro e t h1 h2 hd h3 h4
    have q1 : ¬ (e : Int) < (s.size : Int) := by omega
    have q2 : (e : Int) = (s.size : Int) := by omega
    refine Ev.next (fun k => by rw [tapearchiveref28_token.l0]) ?_
    refine Ev.neg q1 (Ev.pos q2 (Ev.done fun _ => ?_))
    have hl : ((bs s).drop (p + 1)).length = e - (p + 1) := by rw [List.length_drop, bs_length]; omega
    have ht : t = (bs s).drop (p + 1) := by rw [← h3]; exact List.take_of_length_le (by omega)
    have htw : ((bs s).drop (p + 1)).takeWhile pln = (bs s).drop (p + 1) := by
      rw [← ht]
      have := List.takeWhile_append_of_pos (p := pln) (l₁ := t) (l₂ := []) (fun a h => List.all_eq_true.1 h4 a h)
      simpa using this
    unfold txtTk
    simp only
    rw [htw, List.getElem?_eq_none (Nat.le_refl _), if_neg (by simp)]
    rfl
  | succ d ih =>
    intro e t h1 h2 hd h3 h4
    have hlt : e < s.size := by omega
    have q1 : (e : Int) < (s.size : Int) := by omega
    have q2 : 0 ≤ (e : Int) := by omega
    have q4 : 0 ≤ ((p + 1 : Nat) : Int) := Int.natCast_nonneg _
    have q5 : ((p + 1 : Nat) : Int) ≤ (e : Int) := Int.ofNat_le.2 h1
    have q6 : (e : Int) ≤ (s.size : Int) := Int.ofNat_le.2 h2
    obtain ⟨c, hc, hb⟩ := drop_cons hlt
    have hw := wrap_succ hs hlt
    have hsp : (bs s).drop (p + 1) = t ++ (bs s).drop e := by
      rw [← h3, show (bs s).drop e = ((bs s).drop (p + 1)).drop (e - (p + 1)) from by rw [List.drop_drop]; congr 1; omega]
      exact (List.take_append_drop _ _).symm
    have htl : t.length = e - (p + 1) := by rw [← h3, List.length_take, List.length_drop, bs_length]; omega
    refine Ev.next (fun k => by rw [tapearchiveref28_token.l0]) ?_
    refine Ev.pos q1 (Ev.pos q2 ?_)
    rw [hb]
    refine Ev.bindS (rpln_f c) ?_
    cases hdc : pln c with
    | true =>
      rw [hw]
      refine Ev.pos rfl (ih (e + 1) (t ++ [c]) (by omega) (by omega) (by omega) ?_ (by rw [List.all_append, h4]; simp [hdc]))
      rw [hsp, hc, show e + 1 - (p + 1) = t.length + 1 from by omega, List.take_append, List.take_of_length_le (by omega), show t.length + 1 - t.length = 1 from by omega]
      rfl
    | false =>
      have htw : ((bs s).drop (p + 1)).takeWhile pln = t := by
        rw [hsp, List.takeWhile_append_of_pos (fun a h => List.all_eq_true.1 h4 a h), hc, List.takeWhile_cons, hdc]
        simp
      have hg : ((bs s).drop (p + 1))[t.length]? = some c := by
        rw [hsp, List.getElem?_append_right (Nat.le_refl _), Nat.sub_self, hc]
        rfl
      have q3 : ¬ (e : Int) = (s.size : Int) := by omega
      refine Ev.neg (by simp) (Ev.neg q3 ?_)
      have ht : txtTk ((bs s).drop (p + 1)) = if some c = some 34 then (3, t, 0, t.length + 2, 0) else bad 1 := by
        unfold txtTk
        simp only
        rw [htw, hg]
      clear hg htw
      by_cases h34 : c = 34
      · have ht2 : txtTk ((bs s).drop (p + 1)) = (3, t, 0, t.length + 2, 0) := ht.trans (if_pos (congrArg some h34))
        clear ht
        rw [ht2]
        have hw1 : wrap64 ((p : Int) + 1) = ((p + 1 : Nat) : Int) := wrap_succ hs (by omega)
        rw [hw, hw1]
        clear hw hw1
        refine Ev.pos (by rw [h34]; rfl) (Ev.pos q4 (Ev.pos q5 (Ev.pos q6 (Ev.done fun _ => ?_))))
        have hx : s.extract ((p + 1 : Nat) : Int).toNat (e : Int).toNat = ⟨t.toArray⟩ := by
          apply bs_inj
          rw [bs_extract, Int.toNat_natCast, Int.toNat_natCast, h3, bs_mk]
        rw [hx]
        simp only [outR, if_true]
        rw [show p + (t.length + 2) = e + 1 from by omega]
      · have ht2 : txtTk ((bs s).drop (p + 1)) = bad 1 := ht.trans (if_neg (fun h => h34 (Option.some.inj h)))
        rw [ht2, hbad]
        exact Ev.neg (fun e => h34 (u8_eq e)) (Ev.done fun _ => rfl)
theorem rname_loop (s : ByteArray) (hs : s.size ≤ 4611686018427387904) (p : Nat) (d : Nat) : ∀ (e : Nat) (t : List UInt8), p ≤ e → e ≤ s.size → s.size - e = d → ((bs s).drop p).take (e - p) = t → t.all nam = true →
    Ev (fun k => tapearchiveref28_token.l1 k s p e) (outR (1, ((bs s).drop p).takeWhile nam, 0, (((bs s).drop p).takeWhile nam).length, 0) p) := by
  have fin : ∀ (e : Nat) (t : List UInt8), p ≤ e → e ≤ s.size → ((bs s).drop p).take (e - p) = t → t.all nam = true → ((bs s).drop e).takeWhile nam = [] →
      (0 ≤ (p : Int) ∧ (p : Int) ≤ (e : Int) ∧ (e : Int) ≤ (s.size : Int)) ∧ some ((1 : Int), s.extract (p : Int).toNat (e : Int).toNat, (0 : Int), (p : Int), (e : Int), (0 : Int)) = some (outR (1, ((bs s).drop p).takeWhile nam, 0, (((bs s).drop p).takeWhile nam).length, 0) p) := by
    intro e t h1 h2 h3 h4 h5
    have hsp : (bs s).drop p = t ++ (bs s).drop e := by
      rw [← h3, show (bs s).drop e = ((bs s).drop p).drop (e - p) from by rw [List.drop_drop]; congr 1; omega]
      exact (List.take_append_drop _ _).symm
    have htl : t.length = e - p := by rw [← h3, List.length_take, List.length_drop, bs_length]; omega
    have htw : ((bs s).drop p).takeWhile nam = t := by
      rw [hsp, List.takeWhile_append_of_pos (fun a h => List.all_eq_true.1 h4 a h), h5, List.append_nil]
    have hx : s.extract (p : Int).toNat (e : Int).toNat = ⟨t.toArray⟩ := by
      apply bs_inj
      rw [bs_extract, Int.toNat_natCast, Int.toNat_natCast, h3, bs_mk]
    refine ⟨by omega, ?_⟩
    rw [htw, hx]
    simp only [outR, if_true]
    rw [show p + t.length = e from by omega]
  induction d with
  | zero =>
    intro e t h1 h2 hd h3 h4
    have q1 : ¬ (e : Int) < (s.size : Int) := by omega
    obtain ⟨⟨g1, g2, g3⟩, g4⟩ := fin e t h1 h2 h3 h4 (by rw [List.drop_of_length_le (by rw [bs_length]; omega)]; rfl)
    refine Ev.next (fun k => by rw [tapearchiveref28_token.l1]) ?_
    exact Ev.neg q1 (Ev.pos g1 (Ev.pos g2 (Ev.pos g3 (Ev.done fun _ => g4))))
  | succ d ih =>
    intro e t h1 h2 hd h3 h4
    have hlt : e < s.size := by omega
    have q1 : (e : Int) < (s.size : Int) := by omega
    have q2 : 0 ≤ (e : Int) := by omega
    obtain ⟨c, hc, hb⟩ := drop_cons hlt
    have hw := wrap_succ hs hlt
    refine Ev.next (fun k => by rw [tapearchiveref28_token.l1]) ?_
    refine Ev.pos q1 (Ev.pos q2 ?_)
    rw [hb]
    refine Ev.bindS (rnam_f c) ?_
    cases hdc : nam c with
    | true =>
      rw [hw]
      refine Ev.pos rfl (ih (e + 1) (t ++ [c]) (by omega) (by omega) (by omega) ?_ (by rw [List.all_append, h4]; simp [hdc]))
      have hg : ((bs s).drop p)[e - p]? = some c := by
        rw [List.getElem?_drop, show p + (e - p) = e + 0 from by omega, ← List.getElem?_drop, hc]
        rfl
      obtain ⟨hl, hg2⟩ := List.getElem?_eq_some_iff.1 hg
      rw [show e + 1 - p = (e - p) + 1 from by omega, List.take_succ_eq_append_getElem hl, hg2, h3]
    | false =>
      obtain ⟨⟨g1, g2, g3⟩, g4⟩ := fin e t h1 h2 h3 h4 (by rw [hc, List.takeWhile_cons, hdc]; rfl)
      exact Ev.neg (by simp) (Ev.pos g1 (Ev.pos g2 (Ev.pos g3 (Ev.done fun _ => g4))))
theorem rsymbol_f (s : ByteArray) : tapearchiveref28_Symbol.f s = some (symT (bs s)) := by
  unfold tapearchiveref28_Symbol.f
  simp only [bs_eq_iff]
  have key : ∀ l : List UInt8, (if l = [40] then some true else if l = [41] then some true else if l = [123] then some true else if l = [125] then some true else if l = [60] then some true else if l = [62, 61] then some true else if l = [61] then some true else if l = [33] then some true else if l = [59] then some true else if l = [44] then some true else if l = [58] then some true else some false) = some (symT l) := by
    intro l
    match l with
    | [] => simp [symT]
    | [c] =>
      simp only [List.cons.injEq, and_true, reduceCtorEq, and_false, if_false]
      unfold symT sym
      by_cases h1 : c = 40
      · simp [h1]
      rw [if_neg h1]
      by_cases h2 : c = 41
      · simp [h2]
      rw [if_neg h2]
      by_cases h3 : c = 123
      · simp [h3]
      rw [if_neg h3]
      by_cases h4 : c = 125
      · simp [h4]
      rw [if_neg h4]
      by_cases h5 : c = 60
      · simp [h5]
      rw [if_neg h5]
      by_cases h6 : c = 61
      · simp [h6]
      rw [if_neg h6]
      by_cases h7 : c = 33
      · simp [h7]
      rw [if_neg h7]
      by_cases h8 : c = 59
      · simp [h8]
      rw [if_neg h8]
      by_cases h9 : c = 44
      · simp [h9]
      rw [if_neg h9]
      by_cases h10 : c = 58
      · simp [h10]
      rw [if_neg h10]
      simp [h1, h2, h3, h4, h5, h6, h7, h8, h9, h10]
    | [c, d] =>
      by_cases h : c = 62 ∧ d = 61
      · simp [h, symT]
      · have e : ([c, d] == ([62, 61] : List UInt8)) = false := by simpa using h
        simp [h, symT]
        intro a b; exact h ⟨a, b⟩
    | c :: d :: e :: r => simp [symT]
  exact key _
theorem rtoken_ev (s : ByteArray) (hs : s.size ≤ 4611686018427387904) (p : Nat) (hp : p < s.size) : Ev (fun k => tapearchiveref28_token.f k s p) (outR (tk ((bs s).drop p)) p) := by
  obtain ⟨c, hc, hb⟩ := drop_cons hp
  have q1 : 0 ≤ (p : Int) := by omega
  have q2 : (p : Int) < (s.size : Int) := by omega
  have q3 : (p : Int) ≤ ((p + 1 : Nat) : Int) := by omega
  have q4 : ((p + 1 : Nat) : Int) ≤ (s.size : Int) := by omega
  have q5 : 0 ≤ ((p + 1 : Nat) : Int) := by omega
  have hw := wrap_succ hs hp
  have hbad : outR (bad 1) p = outR (bad 1) 0 := rfl
  have j3t : Ev (fun k => tapearchiveref28_token.j3 k s p true) (outR (4, [62, 61], 0, 2, 0) p) := by
    refine Ev.next (fun k => by rw [tapearchiveref28_token.j3]) ?_
    refine Ev.pos rfl (Ev.done fun _ => ?_)
    have : wrap64 ((p : Int) + 2) = ((p + 2 : Nat) : Int) := by rw [wrap_in (by omega) (by omega)]; omega
    rw [this]
    rfl
  have hx1 := bs_mid s p hc
  have j3f : Ev (fun k => tapearchiveref28_token.j3 k s p false) (outR (if sym c = true then (4, [c], 0, 1, 0) else bad 1) p) := by
    refine Ev.next (fun k => by rw [tapearchiveref28_token.j3]) ?_
    rw [hw]
    refine Ev.neg (by simp) (Ev.pos q1 (Ev.pos q3 (Ev.pos q4 ?_)))
    refine Ev.bindS (rsymbol_f _) ?_
    rw [hx1]
    have e : symT [c] = sym c := by simp [symT]
    rw [e]
    have hx2 : s.extract (p : Int).toNat ((p + 1 : Nat) : Int).toNat = ⟨#[c]⟩ := bs_inj hx1
    by_cases h : sym c = true
    · have e2 : (if sym c = true then ((4, [c], 0, 1, 0) : Tk) else bad 1) = (4, [c], 0, 1, 0) := if_pos h
      rw [e2, hx2]
      exact Ev.pos h (Ev.done fun _ => rfl)
    · have e2 : (if sym c = true then ((4, [c], 0, 1, 0) : Tk) else bad 1) = bad 1 := if_neg h
      rw [e2, hbad]
      exact Ev.neg h (Ev.done fun _ => rfl)
  have go : ∀ b, b = (nam c && c != 45) → Ev (fun k => tapearchiveref28_token.j1 k s p (c.toNat : Int) p b) (outR (if (nam c && c != 45) = true then (1, (c :: (bs s).drop (p + 1)).takeWhile nam, 0, ((c :: (bs s).drop (p + 1)).takeWhile nam).length, 0)
            else if c = 62 ∧ ((bs s).drop (p + 1)).head? = some 61 then (4, [62, 61], 0, 2, 0) else if sym c = true then (4, [c], 0, 1, 0) else bad 1) p) := by
    intro b hbb
    refine Ev.next (fun k => by rw [tapearchiveref28_token.j1]) ?_
    cases b with
    | true =>
      rw [if_pos hbb.symm, ← hc]
      exact Ev.pos rfl (rname_loop s hs p _ p [] (Nat.le_refl _) (by omega) rfl (by simp) rfl)
    | false =>
      rw [if_neg (by rw [← hbb]; simp), hw]
      refine Ev.neg (by simp) ?_
      by_cases h62 : c = 62
      · refine Ev.pos (by rw [h62]; rfl) ?_
        by_cases hlt : p + 1 < s.size
        · have q6 : ((p + 1 : Nat) : Int) < (s.size : Int) := by omega
          obtain ⟨c2, hc2, hb2⟩ := drop_cons hlt
          refine Ev.pos q6 (Ev.pos q5 ?_)
          rw [hb2, hc2]
          by_cases h61 : c2 = 61
          · rw [if_pos ⟨h62, by rw [h61]; rfl⟩, h61]
            exact j3t
          · have : ((c2.toNat : Int) == 61) = false := by rw [beq_eq_false_iff_ne]; exact fun e => h61 (u8_eq e)
            rw [this, if_neg (by rintro ⟨_, h⟩; exact h61 (Option.some.inj h))]
            exact j3f
        · have q6 : ¬ ((p + 1 : Nat) : Int) < (s.size : Int) := by omega
          rw [if_neg (by rintro ⟨_, h⟩; rw [List.drop_of_length_le (by rw [bs_length]; omega)] at h; cases h)]
          exact Ev.neg q6 j3f
      · rw [if_neg (fun h => h62 h.1)]
        exact Ev.neg (fun e => h62 (u8_eq e)) j3f
  unfold tapearchiveref28_token.f
  refine Ev.pos q1 (Ev.pos q2 ?_)
  rw [hb]
  refine Ev.bindS (rdig_f c) ?_
  by_cases hd : dig c = true
  · have hg : (bs s)[p]? = some c := by
      have := congrArg (fun l : List UInt8 => l[0]?) hc
      simpa [List.getElem?_drop] using this
    have e : tk ((bs s).drop p) = numTk ((bs s).drop p) := by rw [hc, tk, if_pos hd]
    rw [e]
    exact Ev.pos hd (Ev.both (rnumber_ev s hs p hp ⟨c, hg, hd⟩) (Ev.done fun _ => rfl))
  · refine Ev.neg hd ?_
    rw [hc, tk, if_neg hd]
    by_cases hq : c = 34
    · rw [if_pos hq, hw]
      exact Ev.pos (by rw [hq]; rfl) (rtext_loop s hs p _ (p + 1) [] (Nat.le_refl _) (by omega) rfl (by simp) rfl)
    · rw [if_neg hq]
      refine Ev.neg (fun e => hq (u8_eq e)) ?_
      refine Ev.bindS (rnam_f c) ?_
      cases hn : nam c with
      | true =>
        refine Ev.pos rfl ?_
        rw [hn] at go
        refine go _ ?_
        rw [Bool.true_and, Bool.eq_iff_iff]
        simp only [bne_iff_ne, ne_eq]
        exact ⟨fun h e => h (by rw [e]; rfl), fun h e => h (u8_eq e)⟩
      | false =>
        refine Ev.neg (by simp) ?_
        rw [hn] at go
        exact go _ rfl
end Go.Proofs.YtifhmdlgjojodaaDoor.Lex
end
section
namespace Go.Proofs.YtifhmdlgjojodaaDoor.Lex
open Go.RowKit Go.Proofs.YtifhmdlgjojodaaDoor.Q Go.Proofs.YtifhmdlgjojodaaDoorW.PrintWords Go.Proofs.YtifhmdlgjojodaaDoorW.PrintMore Go.Proofs.YtifhmdlgjojodaaDoorW.EvMore
theorem rtokens_loop (s : ByteArray) (hs : s.size ≤ 16384) : ∀ (f p : Nat) (acc : List S36), p ≤ s.size → s.size < p + f → acc.length ≤ p →
    ∃ o, Ev (fun k => tapearchiveref28_Tokens.l0 k s acc p) o ∧ Outs acc (lexGo f p ((bs s).drop p)) o
  | 0, p, acc, h1, h2, h3 => by omega
  | f + 1, p, acc, h1, h2, h3 => by
    by_cases hlt : p < s.size
    · have q1 : (p : Int) < (s.size : Int) := by omega
      have hlen : ((bs s).drop p).length = s.size - p := by rw [List.length_drop, bs_length]
      have hne : (bs s).drop p ≠ [] := by
        intro e
        rw [e] at hlen
        simp at hlen
        omega
      have hone := rtoken_ev s (by omega) p hlt
      have htl := tk_len ((bs s).drop p)
      rw [hlen] at htl
      rw [lexGo, if_neg hne]
      simp only [List.drop_drop]
      generalize tk ((bs s).drop p) = t at hone htl ⊢
      by_cases he : t.2.2.2.2 = 0
      · have htl := htl he
        rw [if_neg (show ¬ t.2.2.2.2 ≠ 0 from fun h => h he)]
        have hbl := blank_le ((bs s).drop (p + t.2.2.2.1)) false
        rw [List.length_drop, bs_length] at hbl
        have hbf := skip_ev s (by omega) (p + t.2.2.2.1) (by omega)
        generalize blank ((bs s).drop (p + t.2.2.2.1)) false = b at hbl hbf ⊢
        have q4 : acc.length < 3518437208883 := by omega
        obtain ⟨o, hev, xs, hrel, ho⟩ := rtokens_loop s hs f (p + t.2.2.2.1 + b) (acc ++ [(⟨t.1, ⟨t.2.1.toArray⟩, t.2.2.1, (p : Int)⟩ : S36)]) (by omega) (by omega) (by simp; omega)
        have hout : outR t p = (t.1, ⟨t.2.1.toArray⟩, t.2.2.1, (p : Int), ((p + t.2.2.2.1 : Nat) : Int), 0) := by
          unfold outR
          rw [if_pos he, if_pos he, he]
        rw [hout] at hone
        have hres : Ev (fun k => tapearchiveref28_Tokens.l0 k s acc p) o := by
          refine Ev.next (fun k => by rw [tapearchiveref28_Tokens.l0]) ?_
          refine Ev.pos q1 (Ev.both hone ?_)
          refine Ev.pos rfl (Ev.pos q4 ?_)
          exact Ev.both hbf hev
        have hsh := lexGo_shape f (p + t.2.2.2.1 + b) ((bs s).drop (p + t.2.2.2.1 + b))
        generalize lexGo f (p + t.2.2.2.1 + b) ((bs s).drop (p + t.2.2.2.1 + b)) = r at hrel ho hsh ⊢
        refine ⟨o, hres, ?_⟩
        by_cases hr : r.2.2 = 0
        · rw [if_neg (fun h => h hr)]
          refine ⟨(⟨t.1, ⟨t.2.1.toArray⟩, t.2.2.1, (p : Int)⟩ : S36) :: xs, .cons ⟨rfl, rfl, rfl, rfl⟩ hrel, ?_⟩
          rw [ho, if_pos hr, hr, hsh hr, List.append_assoc]
          rfl
        · rw [if_pos hr]
          refine ⟨[], .nil, ?_⟩
          rw [ho, if_neg hr, if_neg hr]
      · rw [if_pos he]
        refine ⟨([], (p : Int), t.2.2.2.2), ?_, [], .nil, by rw [if_neg he]⟩
        refine Ev.next (fun k => by rw [tapearchiveref28_Tokens.l0]) ?_
        refine Ev.pos q1 (Ev.both hone ?_)
        have hout : (outR t p).2.2.2.2.2 = t.2.2.2.2 := rfl
        rw [hout]
        exact Ev.neg he (Ev.done fun _ => rfl)
    · have q1 : ¬ (p : Int) < (s.size : Int) := by omega
      have hnil : (bs s).drop p = [] := List.drop_of_length_le (by rw [bs_length]; omega)
      rw [hnil, lexGo, if_pos rfl]
      refine ⟨(acc, 0, 0), ?_, [], .nil, by simp⟩
      refine Ev.next (fun k => by rw [tapearchiveref28_Tokens.l0]) ?_
      exact Ev.neg q1 (Ev.done fun _ => rfl)
theorem rtokens_ev (s : ByteArray) : ∃ o, Ev (fun k => tapearchiveref28_Tokens.f k s) o ∧ Outs [] (lex (bs s)) o := by
  unfold tapearchiveref28_Tokens.f lex
  by_cases hbig : 16384 < s.size
  · rw [if_pos (show 16384 < (bs s).length from hbig)]
    exact ⟨_, Ev.pos (by omega) (Ev.done fun _ => rfl), [], .nil, rfl⟩
  · have hbl := blank_le (bs s) false
    rw [if_neg (show ¬ 16384 < (bs s).length from hbig)]
    have hsk := skip_ev s (by omega) 0 (Nat.zero_le _)
    rw [List.drop_zero, Nat.zero_add] at hsk
    obtain ⟨o, hev, ho⟩ := rtokens_loop s (by omega) ((bs s).length + 1) (blank (bs s) false) [] hbl (by rw [bs_length]; omega) (by simp)
    exact ⟨o, Ev.neg (by omega) (Ev.both hsk hev), ho⟩
end Go.Proofs.YtifhmdlgjojodaaDoor.Lex
end
section
namespace Go.Proofs.YtifhmdlgjojodaaDoor.Lex
open Go.RowKit Go.Proofs.YtifhmdlgjojodaaDoor.Q Go.Proofs.YtifhmdlgjojodaaDoorW.PrintWords
set_option maxRecDepth 100000 in
theorem lives_f : tapearchivelaw28_lives.f 40 = some true := by kernel_rfl
end Go.Proofs.YtifhmdlgjojodaaDoor.Lex
end
