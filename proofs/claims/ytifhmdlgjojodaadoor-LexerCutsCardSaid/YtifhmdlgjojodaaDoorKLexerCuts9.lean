import Derived.Test.YtifhmdlgjojodaaDoorKLexerCuts8
set_option linter.unusedVariables false
set_option linter.unusedSimpArgs false
namespace Go.Proofs.YtifhmdlgjojodaaDoorW.Opens
end Go.Proofs.YtifhmdlgjojodaaDoorW.Opens
section
namespace Go.Proofs.YtifhmdlgjojodaaDoor.Q
open Go.RowKit Go.Proofs.YtifhmdlgjojodaaDoorW.PrintWords Go.Proofs.YtifhmdlgjojodaaDoorW.PrintLast Go.Proofs.YtifhmdlgjojodaaDoorW.PrintMore
attribute [local go_sem] max2_int min2_int max_two min_two max_three min_three max_four min_four
attribute [local go_sem ↓] isSome_setCell
set_option linter.unusedVariables false
set_option linter.unusedSimpArgs false
end Go.Proofs.YtifhmdlgjojodaaDoor.Q
end
section
namespace Go.Proofs.YtifhmdlgjojodaaDoor.Q
open Go.RowKit Go.Proofs.YtifhmdlgjojodaaDoorW.PrintWords Go.Proofs.YtifhmdlgjojodaaDoorW.PrintLast Go.Proofs.YtifhmdlgjojodaaDoorW.PrintMore
attribute [local go_sem] max2_int min2_int max_two min_two max_three min_three max_four min_four
attribute [local go_sem ↓] isSome_setCell
set_option linter.unusedVariables false
set_option linter.unusedSimpArgs false
mutual
def tapearchivelaw28_LexerCuts.j0 : Nat → ByteArray → Int → List (S36) → Bool → Option (Bool)
  | 0, _, _, _, _ => none
  | k + 1, x0, x1, x5, x37 => if x37 = true then (some true) else (if 0 ≤ x1 then (if x1 < (x5.length : Int) then (if 0 ≤ ((rd_T36 x5 x1).f3) then (if ((rd_T36 x5 x1).f3) ≤ (x0.size : Int) then ((lexer_Tokens.f k (x0.extract 0 (((rd_T36 x5 x1).f3) : Int).toNat)).bind fun bt315 => (if bt315.2.2 = 0 then (if x1 ≤ (x5.length : Int) then ((tapearchiveref28_Same.f k bt315.1 (x5.take (x1 : Int).toNat) true).bind fun t324 => (some t324)) else (none)) else (some false))) else (none)) else (none)) else (none)) else (none))
def tapearchivelaw28_LexerCuts.j1 : Nat → ByteArray → Int → Int → Bool → Option (Bool)
  | 0, _, _, _, _ => none
  | k + 1, x0, x6, x7, x66 => if x66 = true then (some false) else (if 0 ≤ x6 then (if x6 ≤ (x0.size : Int) then ((lexer_Tokens.f k (x0.extract 0 (x6 : Int).toNat)).bind fun bt325 => ((lexer_Tokens.f k (x0.extract (x6 : Int).toNat x0.size)).bind fun bt330 => (if bt325.2.2 = 0 then (if bt330.2.1 = 0 then (some (bt330.2.2 == x7)) else (some false)) else (some false)))) else (none)) else (none))
end
def tapearchivelaw28_LexerCuts.f (k : Nat) (a0 : ByteArray) (a1 : Int) : Option (Bool) := (tapearchivelaw28_lives.f k).bind fun t308 => (if t308 = true then (if (a0.size : Int) > 8192 then (some true) else ((lexer_Tokens.f k a0).bind fun bt309 => (if bt309.2.2 = 0 then (if a1 < 0 then (tapearchivelaw28_LexerCuts.j0 k a0 a1 bt309.1 true) else (tapearchivelaw28_LexerCuts.j0 k a0 a1 bt309.1 (decide (a1 ≥ (bt309.1.length : Int))))) else (if bt309.2.1 < 0 then (tapearchivelaw28_LexerCuts.j1 k a0 bt309.2.1 bt309.2.2 true) else (tapearchivelaw28_LexerCuts.j1 k a0 bt309.2.1 bt309.2.2 (decide (bt309.2.1 ≥ (a0.size : Int)))))))) else (some false))
set_option maxHeartbeats 8000000 in
set_option maxRecDepth 100000 in
theorem tapearchivelaw28_LexerCuts.calls (k : Nat) (a0 : ByteArray) (a1 : Int) (r : Bool) (w : World) (hG : Go.Proofs.YtifhmdlgjojodaaDoorX.Glob w) (h : tapearchivelaw28_LexerCuts.f k a0 a1 = some r) :
    Calls Tryd.prog 7 #[.string a0, .int .i64 a1] w fun e w' => e = .returned (.bool r) ∧ Below w.heap.size w w' := by
  have HB := Aside0.mk (Below.refl w.heap.size w)
  have H : ((tapearchivelaw28_lives.f k).bind fun t308 => (if t308 = true then (if (a0.size : Int) > 8192 then (some true) else ((lexer_Tokens.f k a0).bind fun bt309 => (if bt309.2.2 = 0 then (if a1 < 0 then (tapearchivelaw28_LexerCuts.j0 k a0 a1 bt309.1 true) else (tapearchivelaw28_LexerCuts.j0 k a0 a1 bt309.1 (decide (a1 ≥ (bt309.1.length : Int))))) else (if bt309.2.1 < 0 then (tapearchivelaw28_LexerCuts.j1 k a0 bt309.2.1 bt309.2.2 true) else (tapearchivelaw28_LexerCuts.j1 k a0 bt309.2.1 bt309.2.2 (decide (bt309.2.1 ≥ (a0.size : Int)))))))) else (some false))) = some r := h
  clear h
  replace H := Option.bind_eq_some_iff.mp H
  obtain ⟨t308, A30, H⟩ := H
  replace H : (if t308 = true then (if (a0.size : Int) > 8192 then (some true) else ((lexer_Tokens.f k a0).bind fun bt309 => (if bt309.2.2 = 0 then (if a1 < 0 then (tapearchivelaw28_LexerCuts.j0 k a0 a1 bt309.1 true) else (tapearchivelaw28_LexerCuts.j0 k a0 a1 bt309.1 (decide (a1 ≥ (bt309.1.length : Int))))) else (if bt309.2.1 < 0 then (tapearchivelaw28_LexerCuts.j1 k a0 bt309.2.1 bt309.2.2 true) else (tapearchivelaw28_LexerCuts.j1 k a0 bt309.2.1 bt309.2.2 (decide (bt309.2.1 ≥ (a0.size : Int)))))))) else (some false)) = some r := H
  have A3 := Aside0.mk A30
  clear A30
  by_cases c4 : t308 = true
  · subst c4
    have H1 : (if (a0.size : Int) > 8192 then (some true) else ((lexer_Tokens.f k a0).bind fun bt309 => (if bt309.2.2 = 0 then (if a1 < 0 then (tapearchivelaw28_LexerCuts.j0 k a0 a1 bt309.1 true) else (tapearchivelaw28_LexerCuts.j0 k a0 a1 bt309.1 (decide (a1 ≥ (bt309.1.length : Int))))) else (if bt309.2.1 < 0 then (tapearchivelaw28_LexerCuts.j1 k a0 bt309.2.1 bt309.2.2 true) else (tapearchivelaw28_LexerCuts.j1 k a0 bt309.2.1 bt309.2.2 (decide (bt309.2.1 ≥ (a0.size : Int)))))))) = some r := by rw [if_pos rfl] at H; exact H
    clear H
    have H := H1
    clear H1
    by_cases c5 : (a0.size : Int) > 8192
    · rw [if_pos c5] at H
      have c5b0 : decide (8192 < (a0.size : Int)) = true := decide_eq_true c5
      have c5b1 : decide (8192 < a0.size) = true := decide_eq_true (by omega)
      clear c5
      obtain rfl := Option.some.inj H
      go_enter Tryd.func7, Tryd.ntmps7
      go_wp2_with (first | ((with_reducible refine gate_callee (f := 9) rfl ?_); refine goesL_ (some 17) rfl rfl Tryd.func9 (by kernel_rfl) rfl #[] rfl (by (try simp only [List.map_toArray, List.map_cons, List.map_nil]); first | done | rfl | (simp only [List.length_drop, List.length_take]; rfl)) ?_; (with_reducible refine (tapearchivelaw28_lives.calls k  true _ ?side1 A3.out).mono ?_); (case side1 => exact Go.Proofs.YtifhmdlgjojodaaDoorX.Glob.below hG (by repeat (first | (with_reducible first | exact HB.out | apply below_alloc | apply pw_below_drewN | apply below_drew1) | exact HB.out))); rintro e w6 ⟨rfl, hb⟩; refine ⟨_, rfl, ?_⟩; have n0_ := Aside0.mk (below_step (by repeat (first | (with_reducible first | exact HB.out | apply below_alloc | apply pw_below_drewN | apply below_drew1) | exact HB.out)) hb); clear HB; have HB := n0_; clear n0_; (try clear hb); (try clear hb2); (try clear hk); (try clear hi)))
      go_ret
      exact ⟨by first | rfl | (simp [errW_none, errW_some] <;> rfl) | (simp [*, errW_none, errW_some] <;> rfl), by repeat (first | (with_reducible first | exact HB.out | apply below_alloc | apply pw_below_drewN | apply below_drew1) | exact HB.out)⟩
    · rw [if_neg c5] at H
      have c5b0 : decide (8192 < (a0.size : Int)) = false := decide_eq_false c5
      have c5b1 : decide (8192 < a0.size) = false := decide_eq_false (by omega)
      clear c5
      replace H := Option.bind_eq_some_iff.mp H
      obtain ⟨⟨t309, t310, t311⟩, A70, H⟩ := H
      replace H : (if t311 = 0 then (if a1 < 0 then (tapearchivelaw28_LexerCuts.j0 k a0 a1 t309 true) else (tapearchivelaw28_LexerCuts.j0 k a0 a1 t309 (decide (a1 ≥ (t309.length : Int))))) else (if t310 < 0 then (tapearchivelaw28_LexerCuts.j1 k a0 t310 t311 true) else (tapearchivelaw28_LexerCuts.j1 k a0 t310 t311 (decide (t310 ≥ (a0.size : Int)))))) = some r := H
      have A7 := Aside0.mk A70
      clear A70
      by_cases c8 : t311 = 0
      · rw [if_pos c8] at H
        have c8b0 : (t311 == 0) = true := beq_iff_eq.mpr c8
        have c8b1 : (t311 != 0) = false := bne_eq_false_iff_eq.mpr c8
        clear c8
        have HC9 := Aside0.mk H
        clear H
        go_enter Tryd.func7, Tryd.ntmps7
        go_upto_region 7 with (first | ((with_reducible refine gate_callee (f := 9) rfl ?_); refine goesL_ (some 17) rfl rfl Tryd.func9 (by kernel_rfl) rfl #[] rfl (by (try simp only [List.map_toArray, List.map_cons, List.map_nil]); first | done | rfl | (simp only [List.length_drop, List.length_take]; rfl)) ?_; (with_reducible refine (tapearchivelaw28_lives.calls k  true _ ?side1 A3.out).mono ?_); (case side1 => exact Go.Proofs.YtifhmdlgjojodaaDoorX.Glob.below hG (by repeat (first | (with_reducible first | exact HB.out | apply below_alloc | apply pw_below_drewN | apply below_drew1) | exact HB.out))); rintro e w10 ⟨rfl, hb⟩; refine ⟨_, rfl, ?_⟩; have n0_ := Aside0.mk (below_step (by repeat (first | (with_reducible first | exact HB.out | apply below_alloc | apply pw_below_drewN | apply below_drew1) | exact HB.out)) hb); clear HB; have HB := n0_; clear n0_; (try clear hb); (try clear hb2); (try clear hk); (try clear hi)) | ((with_reducible refine gate_callee (f := 10) rfl ?_); refine goesL_ (some 24) rfl rfl Tryd.func10 (by kernel_rfl) rfl #[.string a0] rfl (by (try simp only [List.map_toArray, List.map_cons, List.map_nil]); first | done | rfl | (simp only [List.length_drop, List.length_take]; rfl)) ?_; (with_reducible refine (lexer_Tokens.calls k a0 t309 t310 t311 _ A7.out).mono ?_); rintro e w11 ⟨v312, rfl, ho0, hb⟩; refine ⟨_, rfl, ?_⟩; have n0_ := Aside0.mk (Kd.R_lower ho0 (below_size (by repeat (first | (with_reducible first | exact HB.out | apply below_alloc | apply pw_below_drewN | apply below_drew1) | exact HB.out)))); have n1_ := Aside0.mk (below_step (by repeat (first | (with_reducible first | exact HB.out | apply below_alloc | apply pw_below_drewN | apply below_drew1) | exact HB.out)) hb); clear HB; have HO313 := n0_; have HB := n1_; clear n0_ n1_; (try clear hb); (try clear hb2); (try clear hk); (try clear hi); (try clear ho0)))
        (try simp only [Act.put, List.setIfInBounds_toArray, List.set_cons_zero, List.set_cons_succ])
        go_cut [37] (fun v37 wc => ∃ (kq : Nat) (x37_8 : Bool), v37 = .bool x37_8 ∧ Aside0 (tapearchivelaw28_LexerCuts.j0 kq a0 a1 t309 x37_8 = some r) ∧ Aside0 (kq ≤ k) ∧ Aside0 (Kd.R k36 36 wc w.heap.size (fun _ => True) v312 t309) ∧ Aside0 (Below w.heap.size w wc))
        case first =>
          have H := HC9.out
          clear HC9
          by_cases c12 : a1 < 0
          · rw [if_pos c12] at H
            have c12b0 : decide (a1 < 0) = true := decide_eq_true c12
            clear c12
            (first | rw [c12b0] | (simp only [i64_w, i32_w]; rw [c12b0]) | rw [c12b2] | skip)
            have H' := Aside0.mk H
            clear H
            go_wp2
            go_meet
            case rel => exact ⟨_, (true), (by first | rfl | (simp; done) | (simp [*]; done)), H', ⟨by first | omega | exact Nat.le_refl _⟩, ⟨by (with_reducible repeat (first | apply Kd.R_alloc | apply Kd.R_drewN | apply Kd.R_drew)); exact HO313.out⟩, ⟨by repeat (first | (with_reducible first | exact HB.out | apply below_alloc | apply pw_below_drewN | apply below_drew1) | exact HB.out)⟩⟩
          · rw [if_neg c12] at H
            have c12b0 : decide (a1 < 0) = false := decide_eq_false c12
            clear c12
            (first | rw [c12b0] | (simp only [i64_w, i32_w]; rw [c12b0]) | rw [c12b2] | skip)
            have H' := Aside0.mk H
            clear H
            obtain ⟨Ao13, co13, eo13⟩ := Kd.R_slice HO313.out
            subst eo13
            go_wp2
            go_meet
            case rel => exact ⟨_, (decide (a1 ≥ (t309.length : Int))), (by first | rfl | (simp; done) | (simp [*]; done)), H', ⟨by first | omega | exact Nat.le_refl _⟩, ⟨by (with_reducible repeat (first | apply Kd.R_alloc | apply Kd.R_drewN | apply Kd.R_drew)); exact HO313.out⟩, ⟨by repeat (first | (with_reducible first | exact HB.out | apply below_alloc | apply pw_below_drewN | apply below_drew1) | exact HB.out)⟩⟩
        case rest =>
          clear HC9
          try clear c1
          try clear p2
          try clear c4
          try clear c5
          try clear c5b0
          try clear c5b1
          try clear c7
          try clear c8
          try clear c8b0
          try clear c8b1
          try clear c9
          try clear c10
          try clear c12
          try clear c12b0
          try clear c12b2
          obtain ⟨kq, x37_8, rfl, HA, HJ8, HO_5, HB⟩ := hcut
          cases kq with
          | zero => exact absurd HA.out (by simp [tapearchivelaw28_LexerCuts.j0])
          | succ kj8 =>
            have H := HA.out
            clear HA
            simp only [tapearchivelaw28_LexerCuts.j0] at H
            by_cases c14 : x37_8 = true
            · subst c14
              have H1 : (some true) = some r := by rw [if_pos rfl] at H; exact H
              clear H
              have H := H1
              clear H1
              obtain rfl := Option.some.inj H
              go_wp2
              go_ret
              exact ⟨by first | rfl | (simp [errW_none, errW_some] <;> rfl) | (simp [*, errW_none, errW_some] <;> rfl), by repeat (first | (with_reducible first | exact HB.out | apply below_alloc | apply pw_below_drewN | apply below_drew1) | exact HB.out)⟩
            · replace c14 := Bool.eq_false_iff.mpr c14
              subst c14
              have H1 : (if 0 ≤ a1 then (if a1 < (t309.length : Int) then (if 0 ≤ ((rd_T36 t309 a1).f3) then (if ((rd_T36 t309 a1).f3) ≤ (a0.size : Int) then ((lexer_Tokens.f kj8 (a0.extract 0 (((rd_T36 t309 a1).f3) : Int).toNat)).bind fun bt315 => (if bt315.2.2 = 0 then (if a1 ≤ (t309.length : Int) then ((tapearchiveref28_Same.f kj8 bt315.1 (t309.take (a1 : Int).toNat) true).bind fun t324 => (some t324)) else (none)) else (some false))) else (none)) else (none)) else (none)) else (none)) = some r := by rw [if_neg (show ¬ (false = true) by decide)] at H; exact H
              clear H
              have H := H1
              clear H1
              by_cases c15 : 0 ≤ a1
              · rw [if_pos c15] at H
                have c15b0 : decide (0 ≤ a1) = true := decide_eq_true c15
                clear c15
                by_cases c16 : a1 < (t309.length : Int)
                · rw [if_pos c16] at H
                  have c16b0 : decide (a1 < (t309.length : Int)) = true := decide_eq_true c16
                  clear c16
                  by_cases c17 : 0 ≤ ((rd_T36 t309 a1).f3)
                  · rw [if_pos c17] at H
                    have c17b0 := eq_true c17
                    have c17b1 : decide (0 ≤ ((rd_T36 t309 a1).f3)) = true := decide_eq_true c17
                    clear c17
                    by_cases c18 : ((rd_T36 t309 a1).f3) ≤ (a0.size : Int)
                    · rw [if_pos c18] at H
                      have c18b0 := eq_true c18
                      have c18b1 : decide (((rd_T36 t309 a1).f3) ≤ (a0.size : Int)) = true := decide_eq_true c18
                      clear c18
                      replace H := Option.bind_eq_some_iff.mp H
                      obtain ⟨⟨t315, t316, t317⟩, A190, H⟩ := H
                      replace H : (if t317 = 0 then (if a1 ≤ (t309.length : Int) then ((tapearchiveref28_Same.f kj8 t315 (t309.take (a1 : Int).toNat) true).bind fun t324 => (some t324)) else (none)) else (some false)) = some r := H
                      have A19 := Aside0.mk A190
                      clear A190
                      by_cases c20 : t317 = 0
                      · rw [if_pos c20] at H
                        have c20b0 : (t317 == 0) = true := beq_iff_eq.mpr c20
                        have c20b1 : (t317 != 0) = false := bne_eq_false_iff_eq.mpr c20
                        clear c20
                        have c21b0 := eq_true (of_decide_eq_true (by first | (with_reducible assumption) | assumption) : 0 ≤ a1)
                        by_cases c22 : a1 ≤ (t309.length : Int)
                        · rw [if_pos c22] at H
                          have c22b0 := eq_true c22
                          have c22b1 : decide (a1 ≤ (t309.length : Int)) = true := decide_eq_true c22
                          clear c22
                          obtain ⟨y320, hy320⟩ : ∃ y_ : List (S36), y_ = (t309.take (a1 : Int).toNat) := ⟨_, rfl⟩
                          replace H : ((tapearchiveref28_Same.f kj8 t315 y320 true).bind fun t324 => (some t324)) = some r := by first | (rw [hy320]; with_reducible exact H) | (have H2_ := (Option.bind_some _ _).symm.trans H; rw [hy320]; with_reducible exact H2_) | (have H2_ := (Option.bind_some _ _).symm.trans H; with_reducible exact H2_) | with_reducible exact H | (rw [hy320]; exact H) | exact H
                          have Ny320 := Aside0.mk hy320
                          clear hy320
                          replace H := Option.bind_eq_some_iff.mp H
                          obtain ⟨t324, A230, H⟩ := H
                          replace H : (some t324) = some r := H
                          have A23 := Aside0.mk A230
                          clear A230
                          obtain rfl := Option.some.inj H
                          obtain ⟨Ao24, co24, eo24⟩ := Kd.R_slice HO_5.out
                          subst eo24
                          have p314 : 0 ≤ (a1 : Int) := of_decide_eq_true (by first | (with_reducible assumption) | assumption)
                          have q314 : a1 < (t309.length : Int) := of_decide_eq_true (by first | (with_reducible assumption) | assumption)
                          obtain ⟨ad314, e314, hx314_0, hx314_1, hx314_2, hx314_3⟩ := at_T36 (Kd.R_reads' HO_5.out).2.2 a1 p314 q314
                          cases e314
                          replace p314 := eq_true p314
                          replace q314 := eq_true q314
                          go_wp2_with (first | ((with_reducible refine gate_callee (f := 10) rfl ?_); refine goesL_ (some 46) rfl rfl Tryd.func10 (by kernel_rfl) rfl #[.string (a0.extract 0 (((rd_T36 t309 a1).f3) : Int).toNat)] rfl (by (try simp only [List.map_toArray, List.map_cons, List.map_nil]); first | done | rfl | (simp only [List.length_drop, List.length_take]; rfl)) ?_; (with_reducible refine (lexer_Tokens.calls kj8 (a0.extract 0 (((rd_T36 t309 a1).f3) : Int).toNat) t315 t316 t317 _ A19.out).mono ?_); rintro e w25 ⟨v318, rfl, ho0, hb⟩; refine ⟨_, rfl, ?_⟩; have n0_ := Aside0.mk (Kd.R_elder' (by (with_reducible repeat (first | apply Kd.R_alloc | apply Kd.R_drewN | apply Kd.R_drew)); exact HO_5.out) (Kd.R_base ho0) hb); have n1_ := Aside0.mk (Kd.R_lower (Kd.R_new' ho0 (Kd.R_lt (by (with_reducible repeat (first | apply Kd.R_alloc | apply Kd.R_drewN | apply Kd.R_drew)); exact HO_5.out))) (below_size (by repeat (first | (with_reducible first | exact HB.out | apply below_alloc | apply pw_below_drewN | apply below_drew1) | exact HB.out)))); have n2_ := Aside0.mk (below_step (by repeat (first | (with_reducible first | exact HB.out | apply below_alloc | apply pw_below_drewN | apply below_drew1) | exact HB.out)) hb); clear HO_5; clear HB; have HO_5 := n0_; have HO319 := n1_; have HB := n2_; clear n0_ n1_ n2_; (try clear hb); (try clear hb2); (try clear hk); (try clear hi); (try clear ho0); have q26 : (a1 : Int) ≤ ((t309.length : Int) : Int) := of_decide_eq_true (by first | (with_reducible assumption) | assumption); obtain ⟨i026, hi026, _, hsz26, _⟩ := info_parts info36; have hroom26 : t309.length ≤ co24 := (Kd.R_reads' HO_5.out).2.1; have hC26 : Kd.C k36 _ (some ad314) t309.length t309 := (Kd.R_reads' HO_5.out).2.2; have hcut26 := cut_to (P := Tryd.prog) 23 36 .i64 Tryd.underlying23 hi026 (some ad314) t309.length co24 a1 (of_decide_eq_true (by first | (with_reducible assumption) | assumption)) q26 hroom26; have hr26 := Kd.C_take (m := (a1 : Int).toNat) hC26 (by omega); have hy26 : y320.length = (a1 : Int).toNat := (by rw [Ny320.out, List.length_take]; omega); rw [← Ny320.out] at hr26; rw [← hy26] at hcut26; have HR323 := Aside0.mk hr26; have HC323 := Aside0.mk (show y320.length ≤ co24 from by omega); clear hr26 hC26 hroom26 hi026 hsz26; have KY26 := Aside0.mk hy26; clear hy26; have KL26 := Aside0.mk (show (a1 : Int).toNat ≤ t309.length from by omega); replace q26 := eq_true q26; obtain ⟨Ao27, co27, eo27⟩ := Kd.R_slice HO319.out; subst eo27) | (go_at_call 12; (with_reducible refine (tapearchiveref28_Same.calls kj8 _ _ t315 _ _ y320 true t324 _ ?side1 ?side2 ?side3 ?side4 A23.out).mono ?_); (case side1 => repeat (first | exact (Kd.R_reads' HO319.out).2.2 | (with_reducible refine Kd.C_alloc ?_ _) | (with_reducible refine Kd.C_drewN ?_ _) | (with_reducible refine Kd.C_drew ?_))); (case side2 => exact (Kd.R_reads' HO319.out).2.1); (case side3 => repeat (first | exact (by repeat (first | (with_reducible exact HR323.out) | (with_reducible refine Kd.C_alloc ?_ _) | (with_reducible refine Kd.C_drewN ?_ _) | (with_reducible refine Kd.C_drew ?_) | exact HR323.out)) | (with_reducible refine Kd.C_alloc ?_ _) | (with_reducible refine Kd.C_drewN ?_ _) | (with_reducible refine Kd.C_drew ?_))); (case side4 => exact HC323.out); rintro e w28 ⟨rfl, hb⟩; have n0_ := Aside0.mk (Kd.R_below (by (with_reducible repeat (first | apply Kd.R_alloc | apply Kd.R_drewN | apply Kd.R_drew)); exact HO_5.out) hb); have n1_ := Aside0.mk (Kd.R_below (by (with_reducible repeat (first | apply Kd.R_alloc | apply Kd.R_drewN | apply Kd.R_drew)); exact HO319.out) hb); have n2_ := Aside0.mk (Kd.C_below (by repeat (first | (with_reducible exact HR323.out) | (with_reducible refine Kd.C_alloc ?_ _) | (with_reducible refine Kd.C_drewN ?_ _) | (with_reducible refine Kd.C_drew ?_) | exact HR323.out)) hb); have n3_ := Aside0.mk (below_step (by repeat (first | (with_reducible first | exact HB.out | apply below_alloc | apply pw_below_drewN | apply below_drew1) | exact HB.out)) hb); clear HO_5; clear HO319; clear HR323; clear HB; have HO_5 := n0_; have HO319 := n1_; have HR323 := n2_; have HB := n3_; clear n0_ n1_ n2_ n3_; (try clear hb); (try clear hb2); (try clear hk); (try clear hi)))
                          go_ret
                          exact ⟨by first | rfl | (simp [errW_none, errW_some] <;> rfl) | (simp [*, errW_none, errW_some] <;> rfl), by repeat (first | (with_reducible first | exact HB.out | apply below_alloc | apply pw_below_drewN | apply below_drew1) | exact HB.out)⟩
                        · rw [if_neg c22] at H
                          exact absurd H (by simp)
                      · rw [if_neg c20] at H
                        have c20b0 : (t317 == 0) = false := beq_eq_false_iff_ne.mpr c20
                        have c20b1 : (t317 != 0) = true := bne_iff_ne.mpr c20
                        obtain rfl := Option.some.inj H
                        obtain ⟨Ao29, co29, eo29⟩ := Kd.R_slice HO_5.out
                        subst eo29
                        have p314 : 0 ≤ (a1 : Int) := of_decide_eq_true (by first | (with_reducible assumption) | assumption)
                        have q314 : a1 < (t309.length : Int) := of_decide_eq_true (by first | (with_reducible assumption) | assumption)
                        obtain ⟨ad314, e314, hx314_0, hx314_1, hx314_2, hx314_3⟩ := at_T36 (Kd.R_reads' HO_5.out).2.2 a1 p314 q314
                        cases e314
                        replace p314 := eq_true p314
                        replace q314 := eq_true q314
                        go_wp2_with (first | ((with_reducible refine gate_callee (f := 10) rfl ?_); refine goesL_ (some 46) rfl rfl Tryd.func10 (by kernel_rfl) rfl #[.string (a0.extract 0 (((rd_T36 t309 a1).f3) : Int).toNat)] rfl (by (try simp only [List.map_toArray, List.map_cons, List.map_nil]); first | done | rfl | (simp only [List.length_drop, List.length_take]; rfl)) ?_; (with_reducible refine (lexer_Tokens.calls kj8 (a0.extract 0 (((rd_T36 t309 a1).f3) : Int).toNat) t315 t316 t317 _ A19.out).mono ?_); rintro e w30 ⟨v318, rfl, ho0, hb⟩; refine ⟨_, rfl, ?_⟩; have n0_ := Aside0.mk (Kd.R_elder' (by (with_reducible repeat (first | apply Kd.R_alloc | apply Kd.R_drewN | apply Kd.R_drew)); exact HO_5.out) (Kd.R_base ho0) hb); have n1_ := Aside0.mk (Kd.R_lower (Kd.R_new' ho0 (Kd.R_lt (by (with_reducible repeat (first | apply Kd.R_alloc | apply Kd.R_drewN | apply Kd.R_drew)); exact HO_5.out))) (below_size (by repeat (first | (with_reducible first | exact HB.out | apply below_alloc | apply pw_below_drewN | apply below_drew1) | exact HB.out)))); have n2_ := Aside0.mk (below_step (by repeat (first | (with_reducible first | exact HB.out | apply below_alloc | apply pw_below_drewN | apply below_drew1) | exact HB.out)) hb); clear HO_5; clear HB; have HO_5 := n0_; have HO319 := n1_; have HB := n2_; clear n0_ n1_ n2_; (try clear hb); (try clear hb2); (try clear hk); (try clear hi); (try clear ho0)))
                        go_ret
                        exact ⟨by first | rfl | (simp [errW_none, errW_some] <;> rfl) | (simp [*, errW_none, errW_some] <;> rfl), by repeat (first | (with_reducible first | exact HB.out | apply below_alloc | apply pw_below_drewN | apply below_drew1) | exact HB.out)⟩
                    · rw [if_neg c18] at H
                      exact absurd H (by simp)
                  · rw [if_neg c17] at H
                    exact absurd H (by simp)
                · rw [if_neg c16] at H
                  exact absurd H (by simp)
              · rw [if_neg c15] at H
                exact absurd H (by simp)
      · rw [if_neg c8] at H
        have c8b0 : (t311 == 0) = false := beq_eq_false_iff_ne.mpr c8
        have c8b1 : (t311 != 0) = true := bne_iff_ne.mpr c8
        have HC31 := Aside0.mk H
        clear H
        go_enter Tryd.func7, Tryd.ntmps7
        go_upto_region 11 with (first | ((with_reducible refine gate_callee (f := 9) rfl ?_); refine goesL_ (some 17) rfl rfl Tryd.func9 (by kernel_rfl) rfl #[] rfl (by (try simp only [List.map_toArray, List.map_cons, List.map_nil]); first | done | rfl | (simp only [List.length_drop, List.length_take]; rfl)) ?_; (with_reducible refine (tapearchivelaw28_lives.calls k  true _ ?side1 A3.out).mono ?_); (case side1 => exact Go.Proofs.YtifhmdlgjojodaaDoorX.Glob.below hG (by repeat (first | (with_reducible first | exact HB.out | apply below_alloc | apply pw_below_drewN | apply below_drew1) | exact HB.out))); rintro e w32 ⟨rfl, hb⟩; refine ⟨_, rfl, ?_⟩; have n0_ := Aside0.mk (below_step (by repeat (first | (with_reducible first | exact HB.out | apply below_alloc | apply pw_below_drewN | apply below_drew1) | exact HB.out)) hb); clear HB; have HB := n0_; clear n0_; (try clear hb); (try clear hb2); (try clear hk); (try clear hi)) | ((with_reducible refine gate_callee (f := 10) rfl ?_); refine goesL_ (some 24) rfl rfl Tryd.func10 (by kernel_rfl) rfl #[.string a0] rfl (by (try simp only [List.map_toArray, List.map_cons, List.map_nil]); first | done | rfl | (simp only [List.length_drop, List.length_take]; rfl)) ?_; (with_reducible refine (lexer_Tokens.calls k a0 t309 t310 t311 _ A7.out).mono ?_); rintro e w33 ⟨v312, rfl, ho0, hb⟩; refine ⟨_, rfl, ?_⟩; have n0_ := Aside0.mk (Kd.R_lower ho0 (below_size (by repeat (first | (with_reducible first | exact HB.out | apply below_alloc | apply pw_below_drewN | apply below_drew1) | exact HB.out)))); have n1_ := Aside0.mk (below_step (by repeat (first | (with_reducible first | exact HB.out | apply below_alloc | apply pw_below_drewN | apply below_drew1) | exact HB.out)) hb); clear HB; have HO313 := n0_; have HB := n1_; clear n0_ n1_; (try clear hb); (try clear hb2); (try clear hk); (try clear hi); (try clear ho0)))
        (try simp only [Act.put, List.setIfInBounds_toArray, List.set_cons_zero, List.set_cons_succ])
        go_cut [66] (fun v66 wc => ∃ (kq : Nat) (x66_30 : Bool), v66 = .bool x66_30 ∧ Aside0 (tapearchivelaw28_LexerCuts.j1 kq a0 t310 t311 x66_30 = some r) ∧ Aside0 (kq ≤ k) ∧ Aside0 (Below w.heap.size w wc))
        case first =>
          have H := HC31.out
          clear HC31
          by_cases c34 : t310 < 0
          · rw [if_pos c34] at H
            have c34b0 : decide (t310 < 0) = true := decide_eq_true c34
            clear c34
            (first | rw [c34b0] | (simp only [i64_w, i32_w]; rw [c34b0]) | rw [c34b2] | skip)
            have H' := Aside0.mk H
            clear H
            go_wp2
            go_meet
            case rel => exact ⟨_, (true), (by first | rfl | (simp; done) | (simp [*]; done)), H', ⟨by first | omega | exact Nat.le_refl _⟩, ⟨by repeat (first | (with_reducible first | exact HB.out | apply below_alloc | apply pw_below_drewN | apply below_drew1) | exact HB.out)⟩⟩
          · rw [if_neg c34] at H
            have c34b0 : decide (t310 < 0) = false := decide_eq_false c34
            clear c34
            (first | rw [c34b0] | (simp only [i64_w, i32_w]; rw [c34b0]) | rw [c34b2] | skip)
            have H' := Aside0.mk H
            clear H
            go_wp2
            go_meet
            case rel => exact ⟨_, (decide (t310 ≥ (a0.size : Int))), (by first | rfl | (simp; done) | (simp [*]; done)), H', ⟨by first | omega | exact Nat.le_refl _⟩, ⟨by repeat (first | (with_reducible first | exact HB.out | apply below_alloc | apply pw_below_drewN | apply below_drew1) | exact HB.out)⟩⟩
        case rest =>
          clear HC31
          try clear c1
          try clear c2
          try clear p2
          try clear q2
          try clear c3
          try clear p3
          try clear q3
          try clear hx3
          try clear c4
          try clear c5
          try clear c5b0
          try clear c5b1
          try clear c7
          try clear c8
          try clear c8b0
          try clear c8b1
          try clear c9
          try clear c10
          try clear c12
          try clear c12b0
          try clear c12b2
          try clear c14
          try clear c15
          try clear c15b0
          try clear c16
          try clear c16b0
          try clear c17
          try clear c17b0
          try clear c17b1
          try clear c18
          try clear c18b0
          try clear c18b1
          try clear c20
          try clear c20b0
          try clear c20b1
          try clear c21
          try clear c21b0
          try clear c22
          try clear c22b0
          try clear c22b1
          try clear q26
          try clear p31
          try clear q31
          try clear hx31
          try clear c34
          try clear c34b0
          try clear c34b2
          try clear hx314_0
          try clear hx314_1
          try clear hx314_2
          try clear hx314_3
          try clear p2
          try clear p314
          try clear q26
          try clear q314
          obtain ⟨kq, x66_30, rfl, HA, HJ30, HB⟩ := hcut
          cases kq with
          | zero => exact absurd HA.out (by simp [tapearchivelaw28_LexerCuts.j1])
          | succ kj30 =>
            have H := HA.out
            clear HA
            simp only [tapearchivelaw28_LexerCuts.j1] at H
            by_cases c35 : x66_30 = true
            · subst c35
              have H1 : (some false) = some r := by rw [if_pos rfl] at H; exact H
              clear H
              have H := H1
              clear H1
              obtain rfl := Option.some.inj H
              go_wp2
              go_ret
              exact ⟨by first | rfl | (simp [errW_none, errW_some] <;> rfl) | (simp [*, errW_none, errW_some] <;> rfl), by repeat (first | (with_reducible first | exact HB.out | apply below_alloc | apply pw_below_drewN | apply below_drew1) | exact HB.out)⟩
            · replace c35 := Bool.eq_false_iff.mpr c35
              subst c35
              have H1 : (if 0 ≤ t310 then (if t310 ≤ (a0.size : Int) then ((lexer_Tokens.f kj30 (a0.extract 0 (t310 : Int).toNat)).bind fun bt325 => ((lexer_Tokens.f kj30 (a0.extract (t310 : Int).toNat a0.size)).bind fun bt330 => (if bt325.2.2 = 0 then (if bt330.2.1 = 0 then (some (bt330.2.2 == t311)) else (some false)) else (some false)))) else (none)) else (none)) = some r := by rw [if_neg (show ¬ (false = true) by decide)] at H; exact H
              clear H
              have H := H1
              clear H1
              by_cases c36 : 0 ≤ t310
              · rw [if_pos c36] at H
                have c36b0 := eq_true c36
                have c36b1 : decide (0 ≤ t310) = true := decide_eq_true c36
                clear c36
                by_cases c37 : t310 ≤ (a0.size : Int)
                · rw [if_pos c37] at H
                  have c37b0 := eq_true c37
                  have c37b1 : decide (t310 ≤ (a0.size : Int)) = true := decide_eq_true c37
                  clear c37
                  replace H := Option.bind_eq_some_iff.mp H
                  obtain ⟨⟨t325, t326, t327⟩, A380, H⟩ := H
                  replace H : ((lexer_Tokens.f kj30 (a0.extract (t310 : Int).toNat a0.size)).bind fun bt330 => (if t327 = 0 then (if bt330.2.1 = 0 then (some (bt330.2.2 == t311)) else (some false)) else (some false))) = some r := H
                  have A38 := Aside0.mk A380
                  clear A380
                  have c39b0 := eq_true (of_decide_eq_true (by first | (with_reducible assumption) | assumption) : 0 ≤ t310)
                  have c40b0 := eq_true (of_decide_eq_true (by first | (with_reducible assumption) | assumption) : t310 ≤ (a0.size : Int))
                  replace H := Option.bind_eq_some_iff.mp H
                  obtain ⟨⟨t330, t331, t332⟩, A410, H⟩ := H
                  replace H : (if t327 = 0 then (if t331 = 0 then (some (t332 == t311)) else (some false)) else (some false)) = some r := H
                  have A41 := Aside0.mk A410
                  clear A410
                  by_cases c42 : t327 = 0
                  · rw [if_pos c42] at H
                    have c42b0 : (t327 == 0) = true := beq_iff_eq.mpr c42
                    have c42b1 : (t327 != 0) = false := bne_eq_false_iff_eq.mpr c42
                    clear c42
                    by_cases c43 : t331 = 0
                    · rw [if_pos c43] at H
                      have c43b0 : (t331 == 0) = true := beq_iff_eq.mpr c43
                      have c43b1 : (t331 != 0) = false := bne_eq_false_iff_eq.mpr c43
                      clear c43
                      obtain rfl := Option.some.inj H
                      go_wp2_with (first | ((with_reducible refine gate_callee (f := 10) rfl ?_); refine goesL_ (some 71) rfl rfl Tryd.func10 (by kernel_rfl) rfl #[.string (a0.extract 0 (t310 : Int).toNat)] rfl (by (try simp only [List.map_toArray, List.map_cons, List.map_nil]); first | done | rfl | (simp only [List.length_drop, List.length_take]; rfl)) ?_; (with_reducible refine (lexer_Tokens.calls kj30 (a0.extract 0 (t310 : Int).toNat) t325 t326 t327 _ A38.out).mono ?_); rintro e w44 ⟨v328, rfl, ho0, hb⟩; refine ⟨_, rfl, ?_⟩; have n0_ := Aside0.mk (Kd.R_lower ho0 (below_size (by repeat (first | (with_reducible first | exact HB.out | apply below_alloc | apply pw_below_drewN | apply below_drew1) | exact HB.out)))); have n1_ := Aside0.mk (below_step (by repeat (first | (with_reducible first | exact HB.out | apply below_alloc | apply pw_below_drewN | apply below_drew1) | exact HB.out)) hb); clear HB; have HO329 := n0_; have HB := n1_; clear n0_ n1_; (try clear hb); (try clear hb2); (try clear hk); (try clear hi); (try clear ho0)) | ((with_reducible refine gate_callee (f := 10) rfl ?_); refine goesL_ (some 79) rfl rfl Tryd.func10 (by kernel_rfl) rfl #[.string (a0.extract (t310 : Int).toNat a0.size)] rfl (by (try simp only [List.map_toArray, List.map_cons, List.map_nil]); first | done | rfl | (simp only [List.length_drop, List.length_take]; rfl)) ?_; (with_reducible refine (lexer_Tokens.calls kj30 (a0.extract (t310 : Int).toNat a0.size) t330 t331 t332 _ A41.out).mono ?_); rintro e w45 ⟨v333, rfl, ho0, hb⟩; refine ⟨_, rfl, ?_⟩; have n0_ := Aside0.mk (Kd.R_elder' (by (with_reducible repeat (first | apply Kd.R_alloc | apply Kd.R_drewN | apply Kd.R_drew)); exact HO329.out) (Kd.R_base ho0) hb); have n1_ := Aside0.mk (Kd.R_lower (Kd.R_new' ho0 (Kd.R_lt (by (with_reducible repeat (first | apply Kd.R_alloc | apply Kd.R_drewN | apply Kd.R_drew)); exact HO329.out))) (below_size (by repeat (first | (with_reducible first | exact HB.out | apply below_alloc | apply pw_below_drewN | apply below_drew1) | exact HB.out)))); have n2_ := Aside0.mk (below_step (by repeat (first | (with_reducible first | exact HB.out | apply below_alloc | apply pw_below_drewN | apply below_drew1) | exact HB.out)) hb); clear HO329; clear HB; have HO329 := n0_; have HO334 := n1_; have HB := n2_; clear n0_ n1_ n2_; (try clear hb); (try clear hb2); (try clear hk); (try clear hi); (try clear ho0)))
                      go_ret
                      exact ⟨by first | rfl | (simp [errW_none, errW_some] <;> rfl) | (simp [*, errW_none, errW_some] <;> rfl), by repeat (first | (with_reducible first | exact HB.out | apply below_alloc | apply pw_below_drewN | apply below_drew1) | exact HB.out)⟩
                    · rw [if_neg c43] at H
                      have c43b0 : (t331 == 0) = false := beq_eq_false_iff_ne.mpr c43
                      have c43b1 : (t331 != 0) = true := bne_iff_ne.mpr c43
                      obtain rfl := Option.some.inj H
                      go_wp2_with (first | ((with_reducible refine gate_callee (f := 10) rfl ?_); refine goesL_ (some 71) rfl rfl Tryd.func10 (by kernel_rfl) rfl #[.string (a0.extract 0 (t310 : Int).toNat)] rfl (by (try simp only [List.map_toArray, List.map_cons, List.map_nil]); first | done | rfl | (simp only [List.length_drop, List.length_take]; rfl)) ?_; (with_reducible refine (lexer_Tokens.calls kj30 (a0.extract 0 (t310 : Int).toNat) t325 t326 t327 _ A38.out).mono ?_); rintro e w46 ⟨v328, rfl, ho0, hb⟩; refine ⟨_, rfl, ?_⟩; have n0_ := Aside0.mk (Kd.R_lower ho0 (below_size (by repeat (first | (with_reducible first | exact HB.out | apply below_alloc | apply pw_below_drewN | apply below_drew1) | exact HB.out)))); have n1_ := Aside0.mk (below_step (by repeat (first | (with_reducible first | exact HB.out | apply below_alloc | apply pw_below_drewN | apply below_drew1) | exact HB.out)) hb); clear HB; have HO329 := n0_; have HB := n1_; clear n0_ n1_; (try clear hb); (try clear hb2); (try clear hk); (try clear hi); (try clear ho0)) | ((with_reducible refine gate_callee (f := 10) rfl ?_); refine goesL_ (some 79) rfl rfl Tryd.func10 (by kernel_rfl) rfl #[.string (a0.extract (t310 : Int).toNat a0.size)] rfl (by (try simp only [List.map_toArray, List.map_cons, List.map_nil]); first | done | rfl | (simp only [List.length_drop, List.length_take]; rfl)) ?_; (with_reducible refine (lexer_Tokens.calls kj30 (a0.extract (t310 : Int).toNat a0.size) t330 t331 t332 _ A41.out).mono ?_); rintro e w47 ⟨v333, rfl, ho0, hb⟩; refine ⟨_, rfl, ?_⟩; have n0_ := Aside0.mk (Kd.R_elder' (by (with_reducible repeat (first | apply Kd.R_alloc | apply Kd.R_drewN | apply Kd.R_drew)); exact HO329.out) (Kd.R_base ho0) hb); have n1_ := Aside0.mk (Kd.R_lower (Kd.R_new' ho0 (Kd.R_lt (by (with_reducible repeat (first | apply Kd.R_alloc | apply Kd.R_drewN | apply Kd.R_drew)); exact HO329.out))) (below_size (by repeat (first | (with_reducible first | exact HB.out | apply below_alloc | apply pw_below_drewN | apply below_drew1) | exact HB.out)))); have n2_ := Aside0.mk (below_step (by repeat (first | (with_reducible first | exact HB.out | apply below_alloc | apply pw_below_drewN | apply below_drew1) | exact HB.out)) hb); clear HO329; clear HB; have HO329 := n0_; have HO334 := n1_; have HB := n2_; clear n0_ n1_ n2_; (try clear hb); (try clear hb2); (try clear hk); (try clear hi); (try clear ho0)))
                      go_ret
                      exact ⟨by first | rfl | (simp [errW_none, errW_some] <;> rfl) | (simp [*, errW_none, errW_some] <;> rfl), by repeat (first | (with_reducible first | exact HB.out | apply below_alloc | apply pw_below_drewN | apply below_drew1) | exact HB.out)⟩
                  · rw [if_neg c42] at H
                    have c42b0 : (t327 == 0) = false := beq_eq_false_iff_ne.mpr c42
                    have c42b1 : (t327 != 0) = true := bne_iff_ne.mpr c42
                    obtain rfl := Option.some.inj H
                    go_wp2_with (first | ((with_reducible refine gate_callee (f := 10) rfl ?_); refine goesL_ (some 71) rfl rfl Tryd.func10 (by kernel_rfl) rfl #[.string (a0.extract 0 (t310 : Int).toNat)] rfl (by (try simp only [List.map_toArray, List.map_cons, List.map_nil]); first | done | rfl | (simp only [List.length_drop, List.length_take]; rfl)) ?_; (with_reducible refine (lexer_Tokens.calls kj30 (a0.extract 0 (t310 : Int).toNat) t325 t326 t327 _ A38.out).mono ?_); rintro e w48 ⟨v328, rfl, ho0, hb⟩; refine ⟨_, rfl, ?_⟩; have n0_ := Aside0.mk (Kd.R_lower ho0 (below_size (by repeat (first | (with_reducible first | exact HB.out | apply below_alloc | apply pw_below_drewN | apply below_drew1) | exact HB.out)))); have n1_ := Aside0.mk (below_step (by repeat (first | (with_reducible first | exact HB.out | apply below_alloc | apply pw_below_drewN | apply below_drew1) | exact HB.out)) hb); clear HB; have HO329 := n0_; have HB := n1_; clear n0_ n1_; (try clear hb); (try clear hb2); (try clear hk); (try clear hi); (try clear ho0)) | ((with_reducible refine gate_callee (f := 10) rfl ?_); refine goesL_ (some 79) rfl rfl Tryd.func10 (by kernel_rfl) rfl #[.string (a0.extract (t310 : Int).toNat a0.size)] rfl (by (try simp only [List.map_toArray, List.map_cons, List.map_nil]); first | done | rfl | (simp only [List.length_drop, List.length_take]; rfl)) ?_; (with_reducible refine (lexer_Tokens.calls kj30 (a0.extract (t310 : Int).toNat a0.size) t330 t331 t332 _ A41.out).mono ?_); rintro e w49 ⟨v333, rfl, ho0, hb⟩; refine ⟨_, rfl, ?_⟩; have n0_ := Aside0.mk (Kd.R_elder' (by (with_reducible repeat (first | apply Kd.R_alloc | apply Kd.R_drewN | apply Kd.R_drew)); exact HO329.out) (Kd.R_base ho0) hb); have n1_ := Aside0.mk (Kd.R_lower (Kd.R_new' ho0 (Kd.R_lt (by (with_reducible repeat (first | apply Kd.R_alloc | apply Kd.R_drewN | apply Kd.R_drew)); exact HO329.out))) (below_size (by repeat (first | (with_reducible first | exact HB.out | apply below_alloc | apply pw_below_drewN | apply below_drew1) | exact HB.out)))); have n2_ := Aside0.mk (below_step (by repeat (first | (with_reducible first | exact HB.out | apply below_alloc | apply pw_below_drewN | apply below_drew1) | exact HB.out)) hb); clear HO329; clear HB; have HO329 := n0_; have HO334 := n1_; have HB := n2_; clear n0_ n1_ n2_; (try clear hb); (try clear hb2); (try clear hk); (try clear hi); (try clear ho0)))
                    go_ret
                    exact ⟨by first | rfl | (simp [errW_none, errW_some] <;> rfl) | (simp [*, errW_none, errW_some] <;> rfl), by repeat (first | (with_reducible first | exact HB.out | apply below_alloc | apply pw_below_drewN | apply below_drew1) | exact HB.out)⟩
                · rw [if_neg c37] at H
                  exact absurd H (by simp)
              · rw [if_neg c36] at H
                exact absurd H (by simp)
  · replace c4 := Bool.eq_false_iff.mpr c4
    subst c4
    have H1 : (some false) = some r := by rw [if_neg (show ¬ (false = true) by decide)] at H; exact H
    clear H
    have H := H1
    clear H1
    obtain rfl := Option.some.inj H
    go_enter Tryd.func7, Tryd.ntmps7
    go_wp2_with (first | ((with_reducible refine gate_callee (f := 9) rfl ?_); refine goesL_ (some 17) rfl rfl Tryd.func9 (by kernel_rfl) rfl #[] rfl (by (try simp only [List.map_toArray, List.map_cons, List.map_nil]); first | done | rfl | (simp only [List.length_drop, List.length_take]; rfl)) ?_; (with_reducible refine (tapearchivelaw28_lives.calls k  false _ ?side1 A3.out).mono ?_); (case side1 => exact Go.Proofs.YtifhmdlgjojodaaDoorX.Glob.below hG (by repeat (first | (with_reducible first | exact HB.out | apply below_alloc | apply pw_below_drewN | apply below_drew1) | exact HB.out))); rintro e w50 ⟨rfl, hb⟩; refine ⟨_, rfl, ?_⟩; have n0_ := Aside0.mk (below_step (by repeat (first | (with_reducible first | exact HB.out | apply below_alloc | apply pw_below_drewN | apply below_drew1) | exact HB.out)) hb); clear HB; have HB := n0_; clear n0_; (try clear hb); (try clear hb2); (try clear hk); (try clear hi)))
    go_ret
    exact ⟨by first | rfl | (simp [errW_none, errW_some] <;> rfl) | (simp [*, errW_none, errW_some] <;> rfl), by repeat (first | (with_reducible first | exact HB.out | apply below_alloc | apply pw_below_drewN | apply below_drew1) | exact HB.out)⟩
end Go.Proofs.YtifhmdlgjojodaaDoor.Q
end
section
namespace Go.Proofs.YtifhmdlgjojodaaDoor.SLexerCuts
open Go.RowKit Go.Proofs.YtifhmdlgjojodaaDoor.Q Go.Proofs.YtifhmdlgjojodaaDoorW.PrintWords Go.Proofs.YtifhmdlgjojodaaDoorW.PrintLast Go.Proofs.YtifhmdlgjojodaaDoorW.Opens Go.Proofs.YtifhmdlgjojodaaDoorW
set_option linter.unusedVariables false
def Pure : Prop := ∀ (x0 : ByteArray) (x1 : Int), x0.size ≤ 140737488351232 → (Lit.int .i64 x1).wf = true → ∃ k, tapearchivelaw28_LexerCuts.f k x0 x1 = some true
end Go.Proofs.YtifhmdlgjojodaaDoor.SLexerCuts
end
section
namespace Go.Proofs.YtifhmdlgjojodaaDoor.Lex
open Go.RowKit Go.Proofs.YtifhmdlgjojodaaDoorW.PrintWords Go.Proofs.YtifhmdlgjojodaaDoorW.EvMore
def dig (c : UInt8) : Bool := decide (48 ≤ c.toNat) && decide (c.toNat ≤ 57)
def alp (c : UInt8) : Bool := (decide (97 ≤ c.toNat) && decide (c.toNat ≤ 122)) || (decide (65 ≤ c.toNat) && decide (c.toNat ≤ 90))
def nam (c : UInt8) : Bool := alp c || dig c || c == 95 || c == 45 || c == 46 || c == 47 || c == 42 || c == 63
def pln (c : UInt8) : Bool := decide (32 ≤ c.toNat) && decide (c.toNat ≤ 126) && c != 34
def sym (c : UInt8) : Bool := c == 40 || c == 41 || c == 123 || c == 125 || c == 60 || c == 61 || c == 33 || c == 59 || c == 44 || c == 58
def symT (l : List UInt8) : Bool := l == [62, 61] || (match l with | [c] => sym c | _ => false)
def unit (l : List UInt8) : Nat × Bool :=
  if l = [75] then (1024, true) else if l = [77] then (1048576, true) else if l = [115] then (1, true) else if l = [109] then (60, true) else if l = [104] then (3600, true) else if l = [100] then (86400, true) else (0, false)
def val (l : List UInt8) : Nat := l.foldl (fun n c => 10 * n + (c.toNat - 48)) 0
abbrev Tk := Int × List UInt8 × Int × Nat × Int
def bad (e : Int) : Tk := (0, [], 0, 0, e)
def numFin (ds rs : List UInt8) (f : Nat) : Tk :=
  if 1 < ds.length ∧ ds.head? = some 48 then bad 1
  else if 1125899906842624 / f < val ds then bad 7
  else (2, [], ((val ds * f : Nat) : Int), ds.length + rs.length, 0)
def numTk (l : List UInt8) : Tk :=
  let ds := l.takeWhile dig
  let rs := (l.drop ds.length).takeWhile nam
  if rs = [] then numFin ds rs 1
  else if (unit rs).2 = true then numFin ds rs (unit rs).1
  else bad 1
def txtTk (r : List UInt8) : Tk :=
  let t := r.takeWhile pln
  if r[t.length]? = some 34 then (3, t, 0, t.length + 2, 0) else bad 1
def tk : List UInt8 → Tk
  | [] => bad 1
  | c :: r =>
    if dig c = true then numTk (c :: r)
    else if c = 34 then txtTk r
    else if (nam c && c != 45) = true then (1, (c :: r).takeWhile nam, 0, ((c :: r).takeWhile nam).length, 0)
    else if c = 62 ∧ r.head? = some 61 then (4, [62, 61], 0, 2, 0)
    else if sym c = true then (4, [c], 0, 1, 0)
    else bad 1
def blank : List UInt8 → Bool → Nat
  | [], _ => 0
  | c :: r, false => if c = 32 ∨ c = 10 then 1 + blank r false else if c = 35 then 1 + blank r true else 0
  | c :: r, true => if c = 10 then 1 + blank r false else 1 + blank r true
structure Tok where
  kind : Int
  text : List UInt8
  int : Int
  at_ : Nat
def lexGo : Nat → Nat → List UInt8 → List Tok × Int × Int
  | 0, _, _ => ([], 0, 0)
  | f + 1, p, l =>
    if l = [] then ([], 0, 0)
    else
      let t := tk l
      if t.2.2.2.2 ≠ 0 then ([], p, t.2.2.2.2)
      else
        let l' := l.drop t.2.2.2.1
        let b := blank l' false
        let r := lexGo f (p + t.2.2.2.1 + b) (l'.drop b)
        if r.2.2 ≠ 0 then ([], r.2.1, r.2.2) else (⟨t.1, t.2.1, t.2.2.1, p⟩ :: r.1, 0, 0)
def lex (l : List UInt8) : List Tok × Int × Int :=
  if 16384 < l.length then ([], 0, 6) else lexGo (l.length + 1) (blank l false) (l.drop (blank l false))
theorem blank_le : ∀ (l : List UInt8) (c : Bool), blank l c ≤ l.length
  | [], c => by simp [blank]
  | x :: r, false => by
    have h1 := blank_le r false
    have h2 := blank_le r true
    simp only [blank, List.length_cons]
    split
    · omega
    · split <;> omega
  | x :: r, true => by
    have h1 := blank_le r false
    have h2 := blank_le r true
    simp only [blank, List.length_cons]
    split <;> omega
theorem unit_one {l : List UInt8} (h : (unit l).2 = true) : 1 ≤ (unit l).1 ∧ (unit l).1 ≤ 1048576 ∧ l.length = 1 := by
  unfold unit at h ⊢
  repeat' split
  all_goals simp_all
theorem tk_len (l : List UInt8) (h : (tk l).2.2.2.2 = 0) : 1 ≤ (tk l).2.2.2.1 ∧ (tk l).2.2.2.1 ≤ l.length := by
  cases l with
  | nil => simp [tk, bad] at h
  | cons c r =>
    simp only [tk] at h ⊢
    split
    · rename_i hd
      rw [if_pos hd] at h
      have hl : 1 ≤ ((c :: r).takeWhile dig).length := by simp [List.takeWhile_cons, hd]
      have h2 : ((c :: r).takeWhile dig).length ≤ (c :: r).length := (List.takeWhile_sublist _).length_le
      have h3 : (((c :: r).drop ((c :: r).takeWhile dig).length).takeWhile nam).length ≤ ((c :: r).drop ((c :: r).takeWhile dig).length).length := (List.takeWhile_sublist _).length_le
      rw [List.length_drop] at h3
      have fin : ∀ f, (numFin ((c :: r).takeWhile dig) (((c :: r).drop ((c :: r).takeWhile dig).length).takeWhile nam) f).2.2.2.2 = 0 →
          1 ≤ (numFin ((c :: r).takeWhile dig) (((c :: r).drop ((c :: r).takeWhile dig).length).takeWhile nam) f).2.2.2.1 ∧ (numFin ((c :: r).takeWhile dig) (((c :: r).drop ((c :: r).takeWhile dig).length).takeWhile nam) f).2.2.2.1 ≤ (c :: r).length := by
        intro f hf
        unfold numFin at hf ⊢
        split
        · rename_i h0; rw [if_pos h0] at hf; simp [bad] at hf
        · rename_i h0
          rw [if_neg h0] at hf
          split
          · rename_i h1; rw [if_pos h1] at hf; simp [bad] at hf
          · exact ⟨by show 1 ≤ _ + _; omega, by show _ + _ ≤ _; omega⟩
      unfold numTk at h ⊢
      simp only at h ⊢
      split
      · rename_i h0; rw [if_pos h0] at h; exact fin _ h
      · rename_i h0
        rw [if_neg h0] at h
        split
        · rename_i h1; rw [if_pos h1] at h; exact fin _ h
        · rename_i h1; rw [if_neg h1] at h; simp [bad] at h
    · rename_i hd
      rw [if_neg hd] at h
      split
      · rename_i hq
        rw [if_pos hq] at h
        unfold txtTk at h ⊢
        simp only at h ⊢
        split
        · rename_i h1
          obtain ⟨hlt, _⟩ := List.getElem?_eq_some_iff.1 h1
          exact ⟨by show 1 ≤ _ + 2; omega, by show _ + 2 ≤ _; simp only [List.length_cons]; omega⟩
        · rename_i h1; rw [if_neg h1] at h; simp [bad] at h
      · rename_i hq
        rw [if_neg hq] at h
        split
        · rename_i hn
          have hn' : nam c = true := by simp at hn; exact hn.1
          have h2 : ((c :: r).takeWhile nam).length ≤ (c :: r).length := (List.takeWhile_sublist _).length_le
          refine ⟨?_, h2⟩
          show 1 ≤ ((c :: r).takeWhile nam).length
          simp [List.takeWhile_cons, hn']
        · rename_i hn
          rw [if_neg hn] at h
          split
          · rename_i h1
            have : r ≠ [] := by rintro rfl; simp at h1
            have : 1 ≤ r.length := by cases r with | nil => exact absurd rfl this | cons _ _ => simp
            exact ⟨by show 1 ≤ 2; omega, by show 2 ≤ _; simp only [List.length_cons]; omega⟩
          · rename_i h1
            rw [if_neg h1] at h
            split
            · exact ⟨Nat.le_refl 1, by show 1 ≤ _; simp⟩
            · rename_i h2; rw [if_neg h2] at h; simp [bad] at h
end Go.Proofs.YtifhmdlgjojodaaDoor.Lex
end
section
namespace Go.Proofs.YtifhmdlgjojodaaDoor.Lex
open Go.RowKit Go.Proofs.YtifhmdlgjojodaaDoor.Q Go.Proofs.YtifhmdlgjojodaaDoorW.PrintWords Go.Proofs.YtifhmdlgjojodaaDoorW.PrintMore Go.Proofs.YtifhmdlgjojodaaDoorW.EvMore
theorem dig_f (c : UInt8) : lexer_digit.f (c.toNat : Int) = some (dig c) := by
  unfold lexer_digit.f dig
  by_cases h : 48 ≤ c.toNat
  · rw [if_pos (by omega)]
    simp only [h, decide_true, Bool.true_and, Option.some.injEq, decide_eq_decide]
    omega
  · rw [if_neg (by omega)]
    simp [h]
theorem alp_f (c : UInt8) : lexer_letter.f (c.toNat : Int) = some (alp c) := by
  unfold lexer_letter.f alp
  by_cases h : 97 ≤ c.toNat
  · rw [if_pos (by omega)]
    by_cases h2 : c.toNat ≤ 122
    · rw [if_pos (by omega)]; simp [h, h2]
    · rw [if_neg (by omega), if_pos (by omega)]
      have : ¬ c.toNat ≤ 90 := by omega
      simp [h2, this]
      omega
  · rw [if_neg (by omega)]
    by_cases h2 : 65 ≤ c.toNat
    · rw [if_pos (by omega)]
      simp only [h, h2, decide_true, decide_false, Bool.false_and, Bool.true_and, Bool.false_or, Option.some.injEq, decide_eq_decide]
      omega
    · rw [if_neg (by omega)]
      simp [h, h2]
theorem plain_f (c : UInt8) : lexer_plain.f (c.toNat : Int) = some (pln c) := by
  unfold lexer_plain.f pln
  have e34 : (((c.toNat : Int) != 34) : Bool) = (c != 34) := by
    rw [Bool.eq_iff_iff]
    simp only [bne_iff_ne, ne_eq]
    constructor
    · intro h e; subst e; exact h rfl
    · intro h e; apply h; apply UInt8.toNat_inj.1; have : c.toNat = 34 := by omega
      rw [this]; rfl
  by_cases h : 32 ≤ c.toNat
  · rw [if_pos (by omega)]
    by_cases h2 : c.toNat ≤ 126
    · rw [if_pos (by omega), e34]; simp [h, h2]
    · rw [if_neg (by omega)]; simp [h2]
  · rw [if_neg (by omega)]
    simp [h]
theorem idx_has (c : UInt8) : ∀ l : List UInt8, decide (Lib.indexByte l c ≥ 0) = l.contains c
  | [] => by simp [Lib.indexByte]
  | b :: l => by
    have ih := idx_has c l
    have hg := Lib.indexByte_ge l c
    rw [Lib.indexByte, List.contains_cons]
    by_cases e : b = c
    · subst e; simp
    · rw [if_neg (by simpa using e)]
      have e2 : (c == b) = false := by simpa using fun h => e h.symm
      rw [e2, Bool.false_or, ← ih]
      by_cases h1 : Lib.indexByte l c = -1
      · simp [h1]
      · rw [if_neg (by simpa using h1)]
        simp only [decide_eq_decide]
        omega
theorem byte_back (c : UInt8) : (c.toNat : Int).toNat.toUInt8 = c := by simp
theorem name_f (c : UInt8) : lexer_nameByte.f (c.toNat : Int) = some (nam c) := by
  unfold lexer_nameByte.f nam
  rw [alp_f, Option.bind_some]
  cases ha : alp c with
  | true => simp
  | false =>
    rw [if_neg (by simp), dig_f, Option.bind_some]
    cases hd : dig c with
    | true => simp
    | false =>
      rw [if_neg (by simp)]
      unfold strings_IndexByte.f
      rw [Option.bind_some, byte_back, idx_has]
      simp [Bool.or_assoc, Bool.beq_eq_decide_eq]
theorem run_gen (g : Nat → ByteArray → Int → Int → Option ByteArray) (pf : Int → Option Bool) (p : UInt8 → Bool) (hp : ∀ c : UInt8, pf (c.toNat : Int) = some (p c))
    (hg : ∀ k x n i, g (k + 1) x n i = if i < n then (if 0 ≤ i then (if i < (x.size : Int) then ((pf (bt x i)).bind fun t => (if t = true then (g k x n (wrap64 (i + 1))) else (if i ≤ (x.size : Int) then (some (x.extract 0 (i : Int).toNat)) else (none)))) else (none)) else (none)) else (some x))
    (s : ByteArray) (hs : s.size ≤ 4611686018427387904) (d : Nat) : ∀ (i : Nat), i ≤ s.size → s.size - i = d → ((bs s).take i).all p = true →
    Ev (fun k => g k s s.size i) (s.extract 0 ((bs s).takeWhile p).length) := by
  have hw : ∀ i, i ≤ s.size → ((bs s).take i).all p = true → ((bs s).takeWhile p).length = i + (((bs s).drop i).takeWhile p).length := by
    intro i hi ha
    conv => lhs; rw [← List.take_append_drop i (bs s)]
    rw [List.takeWhile_append_of_pos (fun a h => List.all_eq_true.1 ha a h), List.length_append, List.length_take, bs_length]
    omega
  induction d with
  | zero =>
    intro i hi hd ha
    have h1 := hw i hi ha
    rw [List.drop_of_length_le (by rw [bs_length]; omega)] at h1
    have e : ((bs s).takeWhile p).length = s.size := by simp at h1; omega
    refine Ev.next (fun k => hg k s _ _) ?_
    refine Ev.neg (by omega) (Ev.done fun _ => ?_)
    rw [e]
    congr 1
    apply bs_inj
    rw [bs_extract]
    simp [← bs_length]
  | succ d ih =>
    intro i hi hd ha
    have hlt : i < s.size := by omega
    have hltL : i < (bs s).length := hlt
    have h1 := hw i hi ha
    have hc : (bs s)[i]? = some ((bs s)[i]'hltL) := List.getElem?_eq_getElem hltL
    refine Ev.next (fun k => hg k s _ _) ?_
    refine Ev.pos (by omega) (Ev.pos (by omega) (Ev.pos (by omega) ?_))
    rw [bt_get s i _ hc]
    refine Ev.bindS (hp _) ?_
    cases hv : p ((bs s)[i]'hltL) with
    | true =>
      refine Ev.pos rfl ?_
      have e : wrap64 ((i : Int) + 1) = ((i + 1 : Nat) : Int) := by rw [wrap_in (by omega) (by omega)]; rfl
      rw [e]
      refine ih (i + 1) (by omega) (by omega) ?_
      rw [List.take_succ_eq_append_getElem hltL, List.all_append, ha]
      simp [hv]
    | false =>
      refine Ev.neg (by simp) (Ev.pos (by omega) (Ev.done fun _ => ?_))
      have h2 : ((bs s).drop i).takeWhile p = [] := by
        rw [List.drop_eq_getElem_cons hltL, List.takeWhile_cons, hv]
        rfl
      rw [h2] at h1
      rw [h1]
      simp
theorem run_digit (s : ByteArray) (hs : s.size ≤ 4611686018427387904) : Ev (fun k => lexer_run_lexer_digit.f k s) (s.extract 0 ((bs s).takeWhile dig).length) :=
  Ev.same (run_gen lexer_run_lexer_digit.l0 lexer_digit.f dig dig_f (fun k x n i => by rw [lexer_run_lexer_digit.l0]) s hs _ 0 (Nat.zero_le _) rfl (by simp)) (fun k => rfl)
theorem run_name (s : ByteArray) (hs : s.size ≤ 4611686018427387904) : Ev (fun k => lexer_run_lexer_nameByte.f k s) (s.extract 0 ((bs s).takeWhile nam).length) :=
  Ev.same (run_gen lexer_run_lexer_nameByte.l0 lexer_nameByte.f nam name_f (fun k x n i => by rw [lexer_run_lexer_nameByte.l0]) s hs _ 0 (Nat.zero_le _) rfl (by simp)) (fun k => rfl)
theorem run_plain (s : ByteArray) (hs : s.size ≤ 4611686018427387904) : Ev (fun k => lexer_run_lexer_plain.f k s) (s.extract 0 ((bs s).takeWhile pln).length) :=
  Ev.same (run_gen lexer_run_lexer_plain.l0 lexer_plain.f pln plain_f (fun k x n i => by rw [lexer_run_lexer_plain.l0]) s hs _ 0 (Nat.zero_le _) rfl (by simp)) (fun k => rfl)
theorem take_takeWhile (p : UInt8 → Bool) (l : List UInt8) : l.take (l.takeWhile p).length = l.takeWhile p := by
  induction l with
  | nil => rfl
  | cons c r ih =>
    rw [List.takeWhile_cons]
    cases p c with
    | true => simp [ih]
    | false => rfl
theorem bs_run (s : ByteArray) (p : UInt8 → Bool) : bs (s.extract 0 ((bs s).takeWhile p).length) = (bs s).takeWhile p := by
  rw [bs_extract, List.drop_zero, Nat.sub_zero, take_takeWhile]
theorem takeWhile_le (p : UInt8 → Bool) (l : List UInt8) : (l.takeWhile p).length ≤ l.length := (List.takeWhile_sublist _).length_le
theorem bs_eq_iff (s : ByteArray) (l : List UInt8) : s.toList = l ↔ bs s = l := by rw [toList_bs]
theorem unit_f (s : ByteArray) : lexer_Unit.f s = some (((unit (bs s)).1 : Int), (unit (bs s)).2) := by
  unfold lexer_Unit.f unit
  simp only [bs_eq_iff]
  repeat' split
  all_goals rfl
end Go.Proofs.YtifhmdlgjojodaaDoor.Lex
end
section
namespace Go.Proofs.YtifhmdlgjojodaaDoor.Lex
open Go.RowKit Go.Proofs.YtifhmdlgjojodaaDoor.Q Go.Proofs.YtifhmdlgjojodaaDoorW.PrintWords Go.Proofs.YtifhmdlgjojodaaDoorW.PrintMore Go.Proofs.YtifhmdlgjojodaaDoorW.EvMore
def outP (t : Tk) : Int × ByteArray × Int × Int × Int × Int := (t.1, ⟨t.2.1.toArray⟩, t.2.2.1, 0, (t.2.2.2.1 : Int), t.2.2.2.2)
theorem val_snoc (l : List UInt8) (c : UInt8) : val (l ++ [c]) = 10 * val l + (c.toNat - 48) := by simp [val, List.foldl_append]
theorem val_from (l : List UInt8) : ∀ n : Nat, n ≤ l.foldl (fun n c => 10 * n + (c.toNat - 48)) n := by
  induction l with
  | nil => intro n; exact Nat.le_refl _
  | cons c r ih => intro n; exact Nat.le_trans (show n ≤ 10 * n + (c.toNat - 48) by omega) (ih _)
theorem val_take_le (l : List UInt8) (i : Nat) : val (l.take i) ≤ val l := by
  conv => rhs; rw [← List.take_append_drop i l]
  unfold val
  rw [List.foldl_append]
  exact val_from _ _
theorem tdiv_nat (a b : Nat) : Int.tdiv (a : Int) (b : Int) = ((a / b : Nat) : Int) := rfl
theorem takeWhile_all (p : UInt8 → Bool) (l : List UInt8) : (l.takeWhile p).all p = true := by
  induction l with
  | nil => rfl
  | cons c r ih =>
    rw [List.takeWhile_cons]
    cases h : p c with
    | true => simp [h]
    | false => rfl
theorem num_loop (x5 x6 : ByteArray) (f : Nat) (h1 : 1 ≤ f) (h2 : f ≤ 1048576) (hs : x5.size ≤ 4611686018427387904) (hs6 : x6.size ≤ 1) (hd : (bs x5).all dig = true) (d : Nat) :
    ∀ (i : Nat), i ≤ x5.size → x5.size - i = d → val ((bs x5).take i) ≤ 1125899906842624 →
    Ev (fun k => lexer_number.l0 k x5 x6 f (val ((bs x5).take i) : Nat) x5.size i)
      (outP (if 1125899906842624 / f < val (bs x5) then bad 7 else (2, [], ((val (bs x5) * f : Nat) : Int), (bs x5).length + (bs x6).length, 0))) := by
  have hdiv : 1125899906842624 / f ≤ 1125899906842624 := Nat.div_le_self _ _
  induction d with
  | zero =>
    intro i hi hdi hv
    have e : (bs x5).take i = bs x5 := List.take_of_length_le (by rw [bs_length]; omega)
    rw [e] at hv ⊢
    refine Ev.next (fun k => by rw [lexer_number.l0]) ?_
    refine Ev.neg (by omega) (Ev.neg (by omega) ?_)
    have et : wrap64 (Int.tdiv (1125899906842624 : Int) (f : Int)) = ((1125899906842624 / f : Nat) : Int) := by
      rw [show (1125899906842624 : Int) = ((1125899906842624 : Nat) : Int) from rfl, tdiv_nat]
      exact wrap_nat (by omega)
    rw [et]
    by_cases hc : 1125899906842624 / f < val (bs x5)
    · refine Ev.pos (by omega) (Ev.done fun _ => ?_)
      rw [if_pos hc]
      rfl
    · refine Ev.neg (by omega) (Ev.done fun _ => ?_)
      rw [if_neg hc]
      have hm : val (bs x5) * f ≤ 1125899906842624 := by
        have := Nat.mul_le_mul_right f (Nat.le_of_not_lt hc)
        exact Nat.le_trans this (Nat.div_mul_le_self _ _)
      have e1 : wrap64 ((val (bs x5) : Nat) * (f : Int)) = ((val (bs x5) * f : Nat) : Int) := by
        rw [show ((val (bs x5) : Nat) : Int) * (f : Int) = ((val (bs x5) * f : Nat) : Int) from by simp]
        exact wrap_nat (by omega)
      have e2 : wrap64 ((x5.size : Int) + (x6.size : Int)) = (((bs x5).length + (bs x6).length : Nat) : Int) := by
        rw [bs_length, bs_length, show (x5.size : Int) + (x6.size : Int) = ((x5.size + x6.size : Nat) : Int) from by simp]
        exact wrap_nat (by omega)
      rw [e1, e2]
      rfl
  | succ d ih =>
    intro i hi hdi hv
    have hlt : i < x5.size := by omega
    have hltL : i < (bs x5).length := hlt
    have hc : (bs x5)[i]? = some ((bs x5)[i]'hltL) := List.getElem?_eq_getElem hltL
    have hdc : dig ((bs x5)[i]'hltL) = true := List.all_eq_true.1 hd _ (List.getElem_mem hltL)
    have hsn : val ((bs x5).take (i + 1)) = 10 * val ((bs x5).take i) + (((bs x5)[i]'hltL).toNat - 48) := by
      rw [List.take_succ_eq_append_getElem hltL, val_snoc]
    generalize (bs x5)[i]'hltL = c at hc hdc hsn
    have hb : 48 ≤ c.toNat ∧ c.toNat ≤ 57 := by simpa [dig] using hdc
    refine Ev.next (fun k => by rw [lexer_number.l0]) ?_
    refine Ev.pos (by omega) (Ev.pos (by omega) (Ev.pos (by omega) ?_))
    rw [bt_get x5 i c hc]
    have hle1 := val_take_le (bs x5) (i + 1)
    have ih1 := ih (i + 1) (by omega) (by omega)
    clear ih
    generalize val ((bs x5).take (i + 1)) = v1 at hsn hle1 ih1 ⊢
    generalize val ((bs x5).take i) = v0 at hsn hv ⊢
    generalize val (bs x5) = vt at hle1 ih1 ⊢
    have e0 : wrap64 (10 * (v0 : Int)) = 10 * (v0 : Int) := wrap_in (by omega) (by omega)
    have e1 : wrap64 (10 * (v0 : Int) + ((c.toNat : Int) - 48) % 256) = (v1 : Int) := by
      rw [wrap_in (by omega) (by omega)]
      omega
    have e2 : wrap64 ((i : Int) + 1) = ((i + 1 : Nat) : Int) := by rw [wrap_in (by omega) (by omega)]; rfl
    rw [e0, e1, e2]
    by_cases hbig : 1125899906842624 < v1
    · have hb1 : (v1 : Int) > 1125899906842624 := by omega
      have hb2 : 1125899906842624 / f < vt := by omega
      refine Ev.pos hb1 (Ev.done fun _ => ?_)
      rw [if_pos hb2]
      rfl
    · have hb1 : ¬ (v1 : Int) > 1125899906842624 := by omega
      have hb2 : v1 ≤ 1125899906842624 := by omega
      exact Ev.neg hb1 (ih1 hb2)
theorem num_fin (x5 x6 : ByteArray) (f : Nat) (h1 : 1 ≤ f) (h2 : f ≤ 1048576) (hs : x5.size ≤ 4611686018427387904) (hs6 : x6.size ≤ 1) (hd : (bs x5).all dig = true) :
    Ev (fun k => lexer_number.j0 k x5 x6 f) (outP (numFin (bs x5) (bs x6) f)) := by
  have go : ∀ b : Bool, b = decide (1 < (bs x5).length ∧ (bs x5).head? = some 48) → Ev (fun k => lexer_number.j1 k x5 x6 f b) (outP (numFin (bs x5) (bs x6) f)) := by
    intro b hb
    refine Ev.next (fun k => by rw [lexer_number.j1]) ?_
    unfold numFin
    cases b with
    | true =>
      rw [if_pos (of_decide_eq_true hb.symm)]
      exact Ev.pos rfl (Ev.done fun _ => rfl)
    | false =>
      rw [if_neg (of_decide_eq_false hb.symm)]
      refine Ev.neg (by simp) ?_
      exact num_loop x5 x6 f h1 h2 hs hs6 hd _ 0 (Nat.zero_le _) rfl (by simp [val])
  refine Ev.next (fun k => by rw [lexer_number.j0]) ?_
  by_cases hl : 1 < x5.size
  · refine Ev.pos (by omega) (Ev.pos (by omega) ?_)
    refine go _ ?_
    have hltL : 0 < (bs x5).length := by rw [bs_length]; omega
    have hc : (bs x5)[0]? = some ((bs x5)[0]'hltL) := List.getElem?_eq_getElem hltL
    have hh : (bs x5).head? = some ((bs x5)[0]'hltL) := by rw [List.head?_eq_getElem?]; exact hc
    have := bt_get x5 0 _ hc
    rw [show ((0 : Nat) : Int) = 0 from rfl] at this
    rw [this, hh]
    have hl' : 1 < (bs x5).length := hl
    generalize (bs x5)[0]'hltL = c
    rw [Bool.eq_iff_iff]
    simp only [beq_iff_eq, decide_eq_true_eq, Option.some.injEq, hl', true_and]
    constructor
    · intro h; apply UInt8.toNat_inj.1; have : c.toNat = 48 := by omega
      rw [this]; rfl
    · rintro rfl; rfl
  · refine Ev.neg (by omega) (go _ ?_)
    symm
    rw [decide_eq_false_iff_not, bs_length]
    exact fun h => hl h.1
theorem number_ev (s : ByteArray) (hs : s.size ≤ 4611686018427387904) : Ev (fun k => lexer_number.f k s) (outP (numTk (bs s))) := by
  have hle := takeWhile_le dig (bs s)
  rw [bs_length] at hle
  have hd := bs_run s dig
  have hsz : (s.extract 0 ((bs s).takeWhile dig).length).size = ((bs s).takeWhile dig).length := by rw [size_extract]; omega
  unfold lexer_number.f
  refine Ev.both (run_digit s hs) ?_
  refine Ev.pos (by omega) (Ev.pos (by omega) ?_)
  have he : bs (s.extract ((s.extract 0 ((bs s).takeWhile dig).length).size : Int).toNat s.size) = (bs s).drop ((bs s).takeWhile dig).length := by
    rw [bs_extract, hsz, Int.toNat_natCast]
    exact List.take_of_length_le (by rw [List.length_drop, bs_length]; omega)
  have hez : (s.extract ((s.extract 0 ((bs s).takeWhile dig).length).size : Int).toNat s.size).size ≤ 4611686018427387904 := by rw [size_extract]; omega
  refine Ev.both (run_name _ hez) ?_
  have hr := bs_run (s.extract ((s.extract 0 ((bs s).takeWhile dig).length).size : Int).toNat s.size) nam
  rw [he] at hr ⊢
  generalize (s.extract ((s.extract 0 ((bs s).takeWhile dig).length).size : Int).toNat s.size).extract 0 (((bs s).drop ((bs s).takeWhile dig).length).takeWhile nam).length = x6 at hr ⊢
  have hall : (bs (s.extract 0 ((bs s).takeWhile dig).length)).all dig = true := by rw [hd]; exact takeWhile_all _ _
  have hsz5 : (s.extract 0 ((bs s).takeWhile dig).length).size ≤ 4611686018427387904 := by omega
  generalize (s.extract 0 ((bs s).takeWhile dig).length) = x5 at hd hall hsz5 ⊢
  unfold numTk
  simp only
  rw [← hr, ← hd]
  by_cases h0 : bs x6 = []
  · refine Ev.pos ((bs_eq_iff _ _).2 h0) ?_
    rw [if_pos h0]
    exact num_fin x5 x6 1 (by omega) (by omega) hsz5 (by rw [← bs_length, h0]; simp) hall
  · refine Ev.neg (fun h => h0 ((bs_eq_iff _ _).1 h)) ?_
    rw [if_neg h0]
    refine Ev.bindS (unit_f x6) ?_
    by_cases hu : (unit (bs x6)).2 = true
    · refine Ev.pos hu ?_
      rw [if_pos hu]
      obtain ⟨u1, u2, u3⟩ := unit_one hu
      exact num_fin x5 x6 _ u1 u2 hsz5 (by rw [← bs_length, u3]; omega) hall
    · refine Ev.neg hu (Ev.done fun _ => ?_)
      rw [if_neg hu]
      rfl
theorem quoted_ev (s : ByteArray) (r : List UInt8) (hb : bs s = 34 :: r) (hs : s.size ≤ 4611686018427387904) : Ev (fun k => lexer_quoted.f k s) (outP (txtTk r)) := by
  have hl : s.size = r.length + 1 := by rw [← bs_length, hb]; rfl
  have he : bs (s.extract 1 s.size) = r := by
    rw [bs_extract, hb, List.drop_one, List.tail_cons]
    exact List.take_of_length_le (by omega)
  unfold lexer_quoted.f
  refine Ev.pos (by omega) ?_
  refine Ev.both (run_plain _ (by rw [size_extract]; omega)) ?_
  have ht := bs_run (s.extract 1 s.size) pln
  rw [he] at ht ⊢
  have hle := takeWhile_le pln r
  generalize (s.extract 1 s.size).extract 0 (r.takeWhile pln).length = t at ht ⊢
  have hts : t.size = (r.takeWhile pln).length := by rw [← bs_length, ht]
  have e1 : wrap64 ((t.size : Int) + 1) = (((r.takeWhile pln).length + 1 : Nat) : Int) := by rw [wrap_in (by omega) (by omega)]; omega
  have e2 : wrap64 ((t.size : Int) + 2) = (((r.takeWhile pln).length + 2 : Nat) : Int) := by rw [wrap_in (by omega) (by omega)]; omega
  rw [e1, e2]
  unfold txtTk
  simp only
  by_cases hend : (r.takeWhile pln).length + 1 = s.size
  · refine Ev.pos (by omega) (Ev.done fun _ => ?_)
    rw [if_neg (by rw [List.getElem?_eq_none (by omega)]; simp)]
    rfl
  · refine Ev.neg (by omega) (Ev.pos (by omega) (Ev.pos (by omega) ?_))
    have hlt : (r.takeWhile pln).length < r.length := by omega
    have hg : (bs s)[(r.takeWhile pln).length + 1]? = some (r[(r.takeWhile pln).length]'hlt) := by rw [hb, List.getElem?_cons_succ]; exact List.getElem?_eq_getElem hlt
    rw [bt_get s _ _ hg, List.getElem?_eq_getElem hlt]
    generalize r[(r.takeWhile pln).length]'hlt = c
    by_cases hq : c = 34
    · subst hq
      refine Ev.pos rfl (Ev.done fun _ => ?_)
      rw [if_pos rfl]
      rw [← ht]
      rfl
    · refine Ev.neg (fun h => hq ?_) (Ev.done fun _ => ?_)
      · apply UInt8.toNat_inj.1
        have : c.toNat = 34 := by omega
        rw [this]; rfl
      · rw [if_neg (by simpa using hq)]
        rfl
end Go.Proofs.YtifhmdlgjojodaaDoor.Lex
end
section
namespace Go.Proofs.YtifhmdlgjojodaaDoor.Lex
open Go.RowKit Go.Proofs.YtifhmdlgjojodaaDoor.Q Go.Proofs.YtifhmdlgjojodaaDoorW.PrintWords Go.Proofs.YtifhmdlgjojodaaDoorW.PrintMore Go.Proofs.YtifhmdlgjojodaaDoorW.EvMore
theorem u8_eq {c d : UInt8} (h : (c.toNat : Int) = (d.toNat : Int)) : c = d := UInt8.toNat_inj.1 (by omega)
def symb : List UInt8 → List UInt8
  | [] => []
  | c :: r => if c = 62 ∧ r.head? = some 61 then [62, 61] else if sym c = true then [c] else []
theorem sym_has (c : UInt8) : decide (Lib.indexByte [40, 41, 123, 125, 60, 61, 33, 59, 44, 58] c ≥ 0) = sym c := by
  rw [idx_has]
  simp [sym, Bool.or_assoc, Bool.beq_eq_decide_eq]
theorem symbol_f (s : ByteArray) : ∃ t, lexer_symbol.f s = some t ∧ bs t = symb (bs s) := by
  unfold lexer_symbol.f strings_HasPrefix.f stringslite_HasPrefix.f
  have e2 : ((⟨#[62, 61]⟩ : ByteArray).size : Int) = 2 := rfl
  have hx : (s.extract 0 ((2 : Int)).toNat).toList = (bs s).take 2 := by rw [toList_bs, bs_extract]; rfl
  have hp : ∃ b, ((if (s.size : Int) ≥ ((⟨#[62, 61]⟩ : ByteArray).size : Int) then (if 0 ≤ ((⟨#[62, 61]⟩ : ByteArray).size : Int) then (if ((⟨#[62, 61]⟩ : ByteArray).size : Int) ≤ (s.size : Int) then (some ((s.extract 0 (((⟨#[62, 61]⟩ : ByteArray).size : Int) : Int).toNat).toList == (⟨#[62, 61]⟩ : ByteArray).toList)) else (none)) else (none)) else (some false)) : Option Bool) = some b ∧ (b = true ↔ (bs s).take 2 = [62, 61]) := by
    rw [e2, hx]
    by_cases h : (s.size : Int) ≥ 2
    · rw [if_pos h, if_pos (by omega), if_pos h]
      refine ⟨_, rfl, ?_⟩
      rw [beq_iff_eq, toList_bs]
      rfl
    · rw [if_neg h]
      refine ⟨_, rfl, ?_⟩
      simp only [Bool.false_eq_true, false_iff]
      intro e
      have := congrArg List.length e
      simp [bs_length] at this
      omega
  obtain ⟨b, hb, hbi⟩ := hp
  rw [hb]
  simp only [Option.bind_some]
  cases b with
  | true =>
    rw [if_pos rfl]
    refine ⟨_, rfl, ?_⟩
    have := hbi.1 rfl
    cases h : bs s with
    | nil => rw [h] at this; cases this
    | cons c r =>
      rw [h] at this
      cases r with
      | nil => simp at this
      | cons d r =>
        simp at this
        rw [symb, if_pos (by simp [this])]
        rfl
  | false =>
    rw [if_neg (by simp)]
    cases h : bs s with
    | nil =>
      rw [if_pos ((bs_eq_iff _ _).2 h)]
      exact ⟨_, rfl, rfl⟩
    | cons c r =>
      have hn : ¬ (c = 62 ∧ r.head? = some 61) := by
        rintro ⟨rfl, hr⟩
        cases r with
        | nil => simp at hr
        | cons d r => simp at hr; subst hr; exact absurd (hbi.2 (by rw [h]; rfl)) (by simp)
      have hsz : s.size = r.length + 1 := by rw [← bs_length, h]; rfl
      have hg := bt_get s 0 c (by rw [h]; rfl)
      rw [show ((0 : Nat) : Int) = 0 from rfl] at hg
      rw [if_neg (fun e => by rw [bs_eq_iff, h] at e; cases e), if_pos (by omega), hg]
      unfold strings_IndexByte.f
      rw [Option.bind_some, byte_back]
      rw [symb, if_neg hn]
      have hs := sym_has c
      cases hv : sym c with
      | true =>
        rw [hv] at hs
        rw [if_pos (of_decide_eq_true hs), if_pos (by omega), if_pos (by omega), if_pos rfl]
        refine ⟨_, rfl, ?_⟩
        rw [bs_extract, h]
        rfl
      | false =>
        rw [hv] at hs
        rw [if_neg (of_decide_eq_false hs), if_neg (by simp)]
        exact ⟨_, rfl, rfl⟩
theorem one_sym (s t : ByteArray) (l : List UInt8) (ht : lexer_symbol.f s = some t) (hl : bs t = l) (hn : l ≠ []) : Ev (fun k => lexer_one.j0 k s false) (outP (4, l, 0, l.length, 0)) := by
  refine Ev.next (fun k => by rw [lexer_one.j0]) ?_
  refine Ev.neg (by simp) ?_
  refine Ev.bindS ht ?_
  refine Ev.neg (fun e => hn (by rw [bs_eq_iff, hl] at e; exact e)) (Ev.done fun _ => ?_)
  subst hl
  rfl
theorem one_none (s t : ByteArray) (ht : lexer_symbol.f s = some t) (hl : bs t = []) : Ev (fun k => lexer_one.j0 k s false) (outP (bad 1)) := by
  refine Ev.next (fun k => by rw [lexer_one.j0]) ?_
  refine Ev.neg (by simp) ?_
  refine Ev.bindS ht ?_
  exact Ev.pos ((bs_eq_iff _ _).2 hl) (Ev.done fun _ => rfl)
theorem one_name (s : ByteArray) (hs : s.size ≤ 4611686018427387904) : Ev (fun k => lexer_one.j0 k s true) (outP (1, (bs s).takeWhile nam, 0, ((bs s).takeWhile nam).length, 0)) := by
  refine Ev.next (fun k => by rw [lexer_one.j0]) ?_
  refine Ev.pos rfl (Ev.both (run_name s hs) (Ev.done fun _ => ?_))
  have hr := bs_run s nam
  generalize s.extract 0 ((bs s).takeWhile nam).length = t at hr ⊢
  rw [← hr]
  rfl
theorem one_ev (s : ByteArray) (hne : bs s ≠ []) (hs : s.size ≤ 4611686018427387904) : Ev (fun k => lexer_one.f k s) (outP (tk (bs s))) := by
  cases h : bs s with
  | nil => exact absurd h hne
  | cons c r =>
    have hsz : s.size = r.length + 1 := by rw [← bs_length, h]; rfl
    have hg := bt_get s 0 c (by rw [h]; rfl)
    rw [show ((0 : Nat) : Int) = 0 from rfl] at hg
    have go : ∀ b, b = (nam c && c != 45) → Ev (fun k => lexer_one.j0 k s b) (outP (if (nam c && c != 45) = true then (1, (c :: r).takeWhile nam, 0, ((c :: r).takeWhile nam).length, 0)
            else if c = 62 ∧ r.head? = some 61 then (4, [62, 61], 0, 2, 0) else if sym c = true then (4, [c], 0, 1, 0) else bad 1)) := by
      intro b hb
      cases b with
      | true =>
        rw [if_pos hb.symm, ← h]
        exact one_name s hs
      | false =>
        rw [if_neg (by rw [← hb]; simp)]
        obtain ⟨t, ht, hts⟩ := symbol_f s
        rw [h, symb] at hts
        by_cases h1 : c = 62 ∧ r.head? = some 61
        · rw [if_pos h1] at hts ⊢
          exact one_sym s t _ ht hts (by simp)
        · rw [if_neg h1] at hts ⊢
          by_cases h2 : sym c = true
          · rw [if_pos h2] at hts ⊢
            exact one_sym s t _ ht hts (by simp)
          · rw [if_neg h2] at hts ⊢
            exact one_none s t ht hts
    unfold lexer_one.f
    refine Ev.pos (by omega) ?_
    rw [hg]
    refine Ev.bindS (dig_f c) ?_
    simp only [tk]
    by_cases hd : dig c = true
    · rw [if_pos hd]
      refine Ev.pos hd ?_
      rw [← h]
      exact Ev.both (number_ev s hs) (Ev.done fun _ => rfl)
    · rw [if_neg hd]
      refine Ev.neg hd ?_
      by_cases hq : c = 34
      · rw [if_pos hq]
        refine Ev.pos (by rw [hq]; rfl) ?_
        subst hq
        exact Ev.both (quoted_ev s r h hs) (Ev.done fun _ => rfl)
      · rw [if_neg hq]
        refine Ev.neg (fun e => hq (u8_eq e)) ?_
        refine Ev.bindS (name_f c) ?_
        cases hn : nam c with
        | true =>
          refine Ev.pos rfl ?_
          rw [hn] at go
          refine go _ ?_
          rw [Bool.true_and, Bool.eq_iff_iff]
          simp only [bne_iff_ne, ne_eq]
          exact ⟨fun h e => h (by rw [e]; rfl), fun h e => h (u8_eq e)⟩
        | false =>
          refine Ev.neg (by simp) ?_
          rw [hn] at go
          exact go _ rfl
end Go.Proofs.YtifhmdlgjojodaaDoor.Lex
end
section
namespace Go.Proofs.YtifhmdlgjojodaaDoor.Lex
open Go.RowKit Go.Proofs.YtifhmdlgjojodaaDoor.Q Go.Proofs.YtifhmdlgjojodaaDoorW.PrintWords Go.Proofs.YtifhmdlgjojodaaDoorW.PrintMore Go.Proofs.YtifhmdlgjojodaaDoorW.EvMore
theorem get_bs (s : ByteArray) (p : Nat) (h : p < s.size) : ∃ d, (bs s)[p]? = some d ∧ (s.get! p) = d := by
  have hl : p < (bs s).length := h
  refine ⟨(bs s)[p]'hl, List.getElem?_eq_getElem hl, ?_⟩
  have := get_at s p h
  rw [Nat.add_zero] at this
  rw [this]
  rfl
theorem decode_wide (s : ByteArray) (pos : Nat) (h : pos < s.size) (ha : 128 ≤ (s.get! pos).toNat) :
    pos + (Utf8.decode s pos).2 ≤ s.size ∧ ∀ j, 0 < j → j < (Utf8.decode s pos).2 → 128 ≤ (s.get! (pos + j)).toNat := by
  have hn : ¬ (s.get! (pos + 0)).toNat < 128 := by rw [Nat.add_zero]; omega
  simp only [Utf8.decode, hn, if_false]
  have k1 : ∀ k : Nat, ((decide (pos + k < s.size) && ((s.get! (pos + k)).toNat / 64 == 2)) = true) → pos + k < s.size ∧ 128 ≤ (s.get! (pos + k)).toNat := by
    intro k hk
    simp only [Bool.and_eq_true, decide_eq_true_eq, beq_iff_eq] at hk
    omega
  split
  · rename_i h2
    simp only [Bool.and_eq_true] at h2
    have c1 := k1 1 (by simpa using h2.2)
    split
    · exact ⟨by show pos + 2 ≤ _; omega, fun j h0 h1 => by
        have h1' : j < 2 := h1
        obtain rfl : j = 1 := by omega
        exact c1.2⟩
    · exact ⟨by show pos + 1 ≤ _; omega, fun j h0 h1 => by have h1' : j < 1 := h1; omega⟩
  · split
    · rename_i h2
      simp only [Bool.and_eq_true] at h2
      have c1 := k1 1 (by simpa using h2.1.2)
      have c2 := k1 2 (by simpa using h2.2)
      split
      · exact ⟨by show pos + 3 ≤ _; omega, fun j h0 h1 => by
          have h1' : j < 3 := h1
          rcases (by omega : j = 1 ∨ j = 2) with rfl | rfl
          · exact c1.2
          · exact c2.2⟩
      · exact ⟨by show pos + 1 ≤ _; omega, fun j h0 h1 => by have h1' : j < 1 := h1; omega⟩
    · split
      · rename_i h2
        simp only [Bool.and_eq_true] at h2
        have c1 := k1 1 (by simpa using h2.1.1.2)
        have c2 := k1 2 (by simpa using h2.1.2)
        have c3 := k1 3 (by simpa using h2.2)
        split
        · exact ⟨by show pos + 4 ≤ _; omega, fun j h0 h1 => by
            have h1' : j < 4 := h1
            rcases (by omega : j = 1 ∨ j = 2 ∨ j = 3) with rfl | rfl | rfl
            · exact c1.2
            · exact c2.2
            · exact c3.2⟩
        · exact ⟨by show pos + 1 ≤ _; omega, fun j h0 h1 => by have h1' : j < 1 := h1; omega⟩
      · exact ⟨by show pos + 1 ≤ _; omega, fun j h0 h1 => by have h1' : j < 1 := h1; omega⟩
theorem blank_skip (l : List UInt8) : ∀ (n : Nat), n ≤ l.length → (∀ j, j < n → ∃ d, l[j]? = some d ∧ 128 ≤ d.toNat) → blank l true = n + blank (l.drop n) true := by
  induction l with
  | nil => intro n hn _; simp at hn; subst hn; simp
  | cons c r ih =>
    intro n hn hd
    cases n with
    | zero => simp
    | succ n =>
      obtain ⟨d, hd0, hd1⟩ := hd 0 (by omega)
      simp at hd0
      subst hd0
      have hc : c ≠ 10 := by rintro rfl; exact absurd hd1 (by decide)
      rw [blank, if_neg hc, List.drop_succ_cons, ih n (by simpa using hn) (fun j hj => by simpa using hd (j + 1) (by omega))]
      omega
theorem blankGo_eq (s : ByteArray) : ∀ (b pos : Nat) (c : Bool), pos ≤ s.size → s.size < pos + b → blankGo s b pos c = ((pos + blank ((bs s).drop pos) c : Nat) : Int)
  | 0, pos, c, hp, hb => by omega
  | b + 1, pos, c, hp, hb => by
    by_cases h : pos < s.size
    · obtain ⟨d, hd, hdg⟩ := get_bs s pos h
      have hdr : (bs s).drop pos = d :: (bs s).drop (pos + 1) := by
        obtain ⟨hl, e⟩ := List.getElem?_eq_some_iff.1 hd
        rw [List.drop_eq_getElem_cons hl, e]
      rw [blankGo, if_pos h]
      by_cases ha : d.toNat < 128
      · have hdec : Utf8.decode s pos = (d.toNat, 1) := by
          have e : s[pos]'h = d := by
            have := get_at s pos h
            rw [Nat.add_zero, hdg] at this
            exact this.symm
          rw [decode_ascii s pos h (by rw [e]; exact ha), e]
        have k10 : (d.toNat = 10) ↔ d = 10 := ⟨fun e => UInt8.toNat_inj.1 (by rw [e]; rfl), fun e => by rw [e]; rfl⟩
        have k32 : (d.toNat = 32) ↔ d = 32 := ⟨fun e => UInt8.toNat_inj.1 (by rw [e]; rfl), fun e => by rw [e]; rfl⟩
        have k35 : (d.toNat = 35) ↔ d = 35 := ⟨fun e => UInt8.toNat_inj.1 (by rw [e]; rfl), fun e => by rw [e]; rfl⟩
        rw [hdec, hdr]
        simp only [k10, k32, k35]
        have i0 := blankGo_eq s b (pos + 1) false (by omega) (by omega)
        have i1 := blankGo_eq s b (pos + 1) true (by omega) (by omega)
        by_cases h10 : d = 10
        · rw [if_pos h10, i0]
          cases c with
          | false => rw [blank, if_pos (.inr h10)]; congr 1; omega
          | true => rw [blank, if_pos h10]; congr 1; omega
        · rw [if_neg h10]
          cases c with
          | true => rw [if_pos (.inr rfl), i1, blank, if_neg h10]; congr 1; omega
          | false =>
            by_cases h32 : d = 32
            · rw [if_pos (.inl h32), i0, blank, if_pos (.inl h32)]; congr 1; omega
            · have n1 : ¬ (d = 32 ∨ false = true) := by
                rintro (h | h)
                · exact h32 h
                · cases h
              have n2 : ¬ (d = 32 ∨ d = 10) := by
                rintro (h | h)
                · exact h32 h
                · exact h10 h
              rw [if_neg n1, blank, if_neg n2]
              by_cases h35 : d = 35
              · rw [if_pos h35, if_pos h35, i1]; congr 1; omega
              · rw [if_neg h35, if_neg h35]; rfl
      · have ha' : 128 ≤ (s.get! pos).toNat := by rw [hdg]; omega
        have hw := decode_wide s pos h ha'
        have hh := decode_high s pos h (by
          have := get_at s pos h
          rw [Nat.add_zero] at this
          rw [← this]; exact ha')
        generalize hde : Utf8.decode s pos = de at hw hh ⊢
        rw [if_neg (by omega), if_neg (c := de.1 = 35) (by omega)]
        have hall : ∀ j, j < de.2 → ∃ x, ((bs s).drop pos)[j]? = some x ∧ 128 ≤ x.toNat := by
          intro j hj
          obtain ⟨x, hx, hxg⟩ := get_bs s (pos + j) (by omega)
          refine ⟨x, by rw [List.getElem?_drop]; exact hx, ?_⟩
          rw [← hxg]
          rcases Nat.eq_zero_or_pos j with rfl | h0
          · rw [Nat.add_zero]; exact ha'
          · exact hw.2 j h0 hj
        cases c with
        | true =>
          rw [if_pos (.inr rfl), blankGo_eq s b (pos + de.2) true hw.1 (by omega), blank_skip ((bs s).drop pos) de.2 (by rw [List.length_drop, bs_length]; omega) hall, List.drop_drop]
          congr 1
          omega
        | false =>
          have hn : d ≠ 10 ∧ d ≠ 32 ∧ d ≠ 35 := by
            refine ⟨?_, ?_, ?_⟩ <;> (rintro rfl; exact ha (by decide))
          rw [if_neg (by simp; omega), hdr, blank, if_neg (by simp [hn]), if_neg hn.2.2]
          rfl
    · rw [blankGo, if_neg h, List.drop_of_length_le (by rw [bs_length]; omega)]
      simp [blank]
      omega
theorem blank_f (s : ByteArray) : lexer_blank.f s = some ((blank (bs s) false : Nat) : Int) := by
  unfold lexer_blank.f
  rw [blankGo_eq s _ 0 false (Nat.zero_le _) (by omega), List.drop_zero, Nat.zero_add]
def Rel (a : S36) (t : Tok) : Prop := a.f0 = t.kind ∧ bs a.f1 = t.text ∧ a.f2 = t.int ∧ a.f3 = (t.at_ : Int)
inductive Rels : List S36 → List Tok → Prop where
  | nil : Rels [] []
  | cons {a t xs ts} : Rel a t → Rels xs ts → Rels (a :: xs) (t :: ts)
theorem Rels.append {xs ys ts us} (h : Rels xs ts) (k : Rels ys us) : Rels (xs ++ ys) (ts ++ us) := by
  induction h with
  | nil => exact k
  | cons h1 _ ih => exact .cons h1 ih
theorem Rels.length {xs ts} (h : Rels xs ts) : xs.length = ts.length := by
  induction h with
  | nil => rfl
  | cons _ _ ih => simp [ih]
theorem tokens_step (s : ByteArray) (acc : List S36) (p n b : Nat) (o : Int × ByteArray × Int × Int × Int × Int) (hlt : p < s.size) (hone : Ev (fun k => lexer_one.f k (s.extract (p : Int).toNat s.size)) o) (he : o.2.2.2.2.2 = 0) (hn : o.2.2.2.2.1 = (n : Int))
    (hs : s.size ≤ 16384) (hpn : p + n ≤ s.size) (hacc : acc.length ≤ p) (hbf : lexer_blank.f (s.extract (((p + n : Nat) : Int)).toNat s.size) = some (b : Int)) (hb : p + n + b ≤ s.size) (res : List S36 × Int × Int)
    (hres : Ev (fun k => lexer_Tokens.l0 k s (acc ++ [(⟨o.1, o.2.1, o.2.2.1, (p : Int)⟩ : S36)]) ((p + n + b : Nat) : Int)) res) : Ev (fun k => lexer_Tokens.l0 k s acc p) res := by
  have e1 : wrap64 ((p : Int) + o.2.2.2.2.1) = ((p + n : Nat) : Int) := by
    rw [hn, wrap_in (by omega) (by omega)]
    omega
  have e2 : wrap64 (((p + n : Nat) : Int) + (b : Int)) = ((p + n + b : Nat) : Int) := by
    rw [wrap_in (by omega) (by omega)]
    omega
  have q1 : (p : Int) < (s.size : Int) := by omega
  have q2 : 0 ≤ (p : Int) := by omega
  have q3 : (p : Int) ≤ (s.size : Int) := by omega
  have q4 : acc.length < 3518437208883 := by omega
  have q5 : 0 ≤ ((p + n : Nat) : Int) := by omega
  have q6 : ((p + n : Nat) : Int) ≤ (s.size : Int) := by omega
  refine Ev.next (fun k => by rw [lexer_Tokens.l0]) ?_
  refine Ev.pos q1 (Ev.pos q2 (Ev.pos q3 ?_))
  refine Ev.both hone ?_
  refine Ev.pos he ?_
  refine Ev.pos q4 ?_
  rw [e1]
  refine Ev.pos q5 (Ev.pos q6 ?_)
  refine Ev.bindS hbf ?_
  rw [e2]
  exact hres
theorem tokens_bad (s : ByteArray) (acc : List S36) (p : Nat) (o : Int × ByteArray × Int × Int × Int × Int) (hlt : p < s.size) (hone : Ev (fun k => lexer_one.f k (s.extract (p : Int).toNat s.size)) o) (he : o.2.2.2.2.2 ≠ 0) : Ev (fun k => lexer_Tokens.l0 k s acc p) ([], (p : Int), o.2.2.2.2.2) := by
  have q1 : (p : Int) < (s.size : Int) := by omega
  have q2 : 0 ≤ (p : Int) := by omega
  have q3 : (p : Int) ≤ (s.size : Int) := by omega
  refine Ev.next (fun k => by rw [lexer_Tokens.l0]) ?_
  refine Ev.pos q1 (Ev.pos q2 (Ev.pos q3 ?_))
  refine Ev.both hone ?_
  exact Ev.neg he (Ev.done fun _ => rfl)
theorem tokens_end (s : ByteArray) (acc : List S36) (p : Nat) (hlt : ¬ p < s.size) : Ev (fun k => lexer_Tokens.l0 k s acc p) (acc, 0, 0) := by
  have q1 : ¬ (p : Int) < (s.size : Int) := by omega
  refine Ev.next (fun k => by rw [lexer_Tokens.l0]) ?_
  exact Ev.neg q1 (Ev.done fun _ => rfl)
def Outs (acc : List S36) (r : List Tok × Int × Int) (o : List S36 × Int × Int) : Prop :=
  ∃ xs, Rels xs r.1 ∧ o = (if r.2.2 = 0 then acc ++ xs else [], r.2.1, r.2.2)
theorem bs_tail (s : ByteArray) (p : Nat) : bs (s.extract (p : Int).toNat s.size) = (bs s).drop p := by
  rw [bs_extract, Int.toNat_natCast]
  exact List.take_of_length_le (by rw [List.length_drop, bs_length]; omega)
theorem lexGo_shape : ∀ (f p : Nat) (l : List UInt8), (lexGo f p l).2.2 = 0 → (lexGo f p l).2.1 = 0
  | 0, _, _, _ => rfl
  | f + 1, p, l, h => by
    rw [lexGo] at h ⊢
    split
    · rfl
    · rename_i hl
      rw [if_neg hl] at h
      simp only at h ⊢
      split
      · rename_i h1; rw [if_pos h1] at h; exact absurd h h1
      · rename_i h1
        rw [if_neg h1] at h
        split
        · rename_i h2; rw [if_pos h2] at h; exact absurd h h2
        · rfl
theorem tokens_loop (s : ByteArray) (hs : s.size ≤ 16384) : ∀ (f p : Nat) (acc : List S36), p ≤ s.size → s.size < p + f → acc.length ≤ p →
    ∃ o, Ev (fun k => lexer_Tokens.l0 k s acc p) o ∧ Outs acc (lexGo f p ((bs s).drop p)) o
  | 0, p, acc, h1, h2, h3 => by omega
  | f + 1, p, acc, h1, h2, h3 => by
    by_cases hlt : p < s.size
    · have hlen : ((bs s).drop p).length = s.size - p := by rw [List.length_drop, bs_length]
      have hne : (bs s).drop p ≠ [] := by
        intro e
        rw [e] at hlen
        simp at hlen
        omega
      have hone := one_ev (s.extract (p : Int).toNat s.size) (by rw [bs_tail]; exact hne) (by rw [size_extract]; omega)
      rw [bs_tail] at hone
      have htl := tk_len ((bs s).drop p)
      rw [hlen] at htl
      rw [lexGo, if_neg hne]
      simp only [List.drop_drop]
      generalize tk ((bs s).drop p) = t at hone htl ⊢
      by_cases he : t.2.2.2.2 = 0
      · have htl := htl he
        rw [if_neg (show ¬ t.2.2.2.2 ≠ 0 from fun h => h he)]
        have hbl := blank_le ((bs s).drop (p + t.2.2.2.1)) false
        rw [List.length_drop, bs_length] at hbl
        have hbf := blank_f (s.extract (((p + t.2.2.2.1 : Nat) : Int)).toNat s.size)
        rw [bs_tail] at hbf
        generalize blank ((bs s).drop (p + t.2.2.2.1)) false = b at hbl hbf ⊢
        obtain ⟨o, hev, xs, hrel, ho⟩ := tokens_loop s hs f (p + t.2.2.2.1 + b) (acc ++ [(⟨t.1, ⟨t.2.1.toArray⟩, t.2.2.1, (p : Int)⟩ : S36)]) (by omega) (by omega) (by simp; omega)
        have hres := tokens_step s acc p t.2.2.2.1 b (outP t) hlt hone he rfl hs (by omega) h3 hbf (by omega) o hev
        have hsh := lexGo_shape f (p + t.2.2.2.1 + b) ((bs s).drop (p + t.2.2.2.1 + b))
        generalize lexGo f (p + t.2.2.2.1 + b) ((bs s).drop (p + t.2.2.2.1 + b)) = r at hrel ho hsh ⊢
        refine ⟨o, hres, ?_⟩
        by_cases hr : r.2.2 = 0
        · rw [if_neg (fun h => h hr)]
          refine ⟨(⟨t.1, ⟨t.2.1.toArray⟩, t.2.2.1, (p : Int)⟩ : S36) :: xs, .cons ⟨rfl, rfl, rfl, rfl⟩ hrel, ?_⟩
          rw [ho, if_pos hr, hr, hsh hr, List.append_assoc]
          rfl
        · rw [if_pos hr]
          refine ⟨[], .nil, ?_⟩
          rw [ho, if_neg hr, if_neg hr]
      · rw [if_pos he]
        exact ⟨_, tokens_bad s acc p _ hlt hone he, [], .nil, by rw [if_neg he]; rfl⟩
    · have hnil : (bs s).drop p = [] := List.drop_of_length_le (by rw [bs_length]; omega)
      rw [hnil, lexGo, if_pos rfl]
      exact ⟨_, tokens_end s acc p hlt, [], .nil, by simp⟩
theorem tokens_ev (s : ByteArray) (hs : s.size ≤ 4611686018427387904) : ∃ o, Ev (fun k => lexer_Tokens.f k s) o ∧ Outs [] (lex (bs s)) o := by
  unfold lexer_Tokens.f lex
  by_cases hbig : 16384 < s.size
  · rw [if_pos (show 16384 < (bs s).length from hbig)]
    exact ⟨_, Ev.pos (by omega) (Ev.done fun _ => rfl), [], .nil, rfl⟩
  · have hbl := blank_le (bs s) false
    rw [if_neg (show ¬ 16384 < (bs s).length from hbig)]
    obtain ⟨o, hev, ho⟩ := tokens_loop s (by omega) ((bs s).length + 1) (blank (bs s) false) [] hbl (by rw [bs_length]; omega) (by simp)
    exact ⟨o, Ev.neg (by omega) (Ev.bindS (blank_f s) hev), ho⟩
end Go.Proofs.YtifhmdlgjojodaaDoor.Lex
end
section
namespace Go.Proofs.YtifhmdlgjojodaaDoor.Lex
open Go.RowKit Go.Proofs.YtifhmdlgjojodaaDoor.Q Go.Proofs.YtifhmdlgjojodaaDoorW.PrintWords
set_option maxRecDepth 100000 in
theorem lives_f : tapearchivelaw28_lives.f 40 = some true := by kernel_rfl
end Go.Proofs.YtifhmdlgjojodaaDoor.Lex
end
section
namespace Go.Proofs.YtifhmdlgjojodaaDoor.Lex
open Go.RowKit Go.Proofs.YtifhmdlgjojodaaDoor.Q Go.Proofs.YtifhmdlgjojodaaDoorW.PrintWords Go.Proofs.YtifhmdlgjojodaaDoorW.PrintMore Go.Proofs.YtifhmdlgjojodaaDoorW.EvMore
theorem lives_ev : Ev (fun k => tapearchivelaw28_lives.f k) true := by
  refine ⟨40, fun k hk => ?_⟩
  induction k with
  | zero => omega
  | succ k ih =>
    by_cases h : 40 ≤ k
    · exact tapearchivelaw28_lives.mono k _ (ih h)
    · have : k + 1 = 40 := by omega
      rw [this]
      exact lives_f
def Sm (b : Bool) (x y : S36) : Prop := x.f0 = y.f0 ∧ x.f1 = y.f1 ∧ x.f2 = y.f2 ∧ (b = true → x.f3 = y.f3)
theorem same_loop (b : Bool) (xs ys : List S36) (hl : xs.length = ys.length) (hn : xs.length ≤ 4611686018427387904) (h : ∀ i, i < xs.length → Sm b (xs.getD i z36) (ys.getD i z36)) (d : Nat) : ∀ i, i ≤ xs.length → xs.length - i = d → Ev (fun k => tapearchiveref28_Same.l0 k xs ys b i) true := by
  induction d with
  | zero =>
    intro i h1 h2
    have q : ¬ (i : Int) < (xs.length : Int) := by omega
    refine Ev.next (fun k => by rw [tapearchiveref28_Same.l0]) ?_
    exact Ev.neg q (Ev.done fun _ => rfl)
  | succ d ih =>
    intro i h1 h2
    have hlt : i < xs.length := by omega
    have q1 : (i : Int) < (xs.length : Int) := by omega
    have q2 : 0 ≤ (i : Int) := by omega
    have q3 : (i : Int) < (ys.length : Int) := by omega
    have hw : wrap64 ((i : Int) + 1) = ((i + 1 : Nat) : Int) := by rw [wrap_in (by omega) (by omega)]; omega
    obtain ⟨g0, g1, g2, g3⟩ := h i hlt
    have ihn := ih (i + 1) (by omega) (by omega)
    have j : Ev (fun k => tapearchiveref28_Same.j1 k xs ys b i false) true := by
      refine Ev.next (fun k => by rw [tapearchiveref28_Same.j1]) ?_
      rw [hw]
      exact Ev.neg (by simp) ihn
    refine Ev.next (fun k => by rw [tapearchiveref28_Same.l0]) ?_
    refine Ev.pos q1 (Ev.pos q2 (Ev.pos q3 (Ev.pos g0 (Ev.pos (by unfold rd_T36; rw [Int.toNat_natCast, g1]) (Ev.pos g2 ?_)))))
    cases b with
    | false => exact Ev.neg (by simp) j
    | true =>
      have e : ((rd_T36 xs (i : Int)).f3 != (rd_T36 ys (i : Int)).f3) = false := by
        unfold rd_T36
        rw [Int.toNat_natCast, g3 rfl]
        simp
      rw [e]
      exact Ev.pos rfl j
theorem same_ev (b : Bool) (xs ys : List S36) (hl : xs.length = ys.length) (hn : xs.length ≤ 4611686018427387904) (h : ∀ i, i < xs.length → Sm b (xs.getD i z36) (ys.getD i z36)) : Ev (fun k => tapearchiveref28_Same.f k xs ys b) true :=
  Ev.pos (by omega) (same_loop b xs ys hl hn h _ 0 (Nat.zero_le _) rfl)
theorem Rels.get {xs ts} (h : Rels xs ts) : ∀ i, i < xs.length → ∃ t, ts[i]? = some t ∧ Rel (xs.getD i z36) t := by
  induction h with
  | nil => intro i hi; simp at hi
  | @cons a t xs ts h1 _ ih =>
    intro i hi
    cases i with
    | zero => exact ⟨t, rfl, h1⟩
    | succ i =>
      obtain ⟨u, hu, hr⟩ := ih i (by simpa using hi)
      exact ⟨u, by simpa using hu, by simpa using hr⟩
theorem Rel.uniq {a b : S36} {t : Tok} (h : Rel a t) (k : Rel b t) : a = b := by
  obtain ⟨h0, h1, h2, h3⟩ := h
  obtain ⟨k0, k1, k2, k3⟩ := k
  cases a; cases b
  simp only at h0 h1 h2 h3 k0 k1 k2 k3
  rw [h0, k0, h2, k2, h3, k3, bs_inj (h1.trans k1.symm)]
theorem Rels.uniq {xs ys ts} (h : Rels xs ts) (k : Rels ys ts) : xs = ys := by
  induction h generalizing ys with
  | nil => cases k; rfl
  | cons h1 _ ih =>
    cases k with
    | cons k1 k2 => rw [h1.uniq k1, ih k2]
theorem Outs.uniq {acc r o o'} (h : Outs acc r o) (k : Outs acc r o') : o = o' := by
  obtain ⟨xs, hx, rfl⟩ := h
  obtain ⟨ys, hy, rfl⟩ := k
  rw [hx.uniq hy]
theorem tokens_count (s : ByteArray) (o) (h : Outs [] (lex (bs s)) o) : o.1.length ≤ 16384 := by
  obtain ⟨xs, hx, rfl⟩ := h
  have cnt : ∀ (f p : Nat) (l : List UInt8), (lexGo f p l).1.length ≤ l.length := by
    intro f
    induction f with
    | zero => intro p l; simp [lexGo]
    | succ f ih =>
      intro p l
      rw [lexGo]
      split
      · simp
      · simp only
        split
        · simp
        · rename_i h1
          have htl := tk_len l (Classical.byContradiction fun h => h1 h)
          have := ih (p + (tk l).2.2.2.1 + blank (l.drop (tk l).2.2.2.1) false) ((l.drop (tk l).2.2.2.1).drop (blank (l.drop (tk l).2.2.2.1) false))
          rw [List.length_drop, List.length_drop] at this
          split
          · simp
          · simp only [List.length_cons]; omega
  have h2 : (lex (bs s)).1.length ≤ 16384 := by
    unfold lex
    split
    · simp
    · rename_i hb
      have := cnt ((bs s).length + 1) (blank (bs s) false) ((bs s).drop (blank (bs s) false))
      rw [List.length_drop] at this
      omega
  have h3 := hx.length
  split
  · show ([] ++ xs).length ≤ 16384
    rw [List.nil_append]
    omega
  · simp
end Go.Proofs.YtifhmdlgjojodaaDoor.Lex
end
section
namespace Go.Proofs.YtifhmdlgjojodaaDoor.Lex
open Go.RowKit Go.Proofs.YtifhmdlgjojodaaDoor.Q Go.Proofs.YtifhmdlgjojodaaDoorW.PrintWords Go.Proofs.YtifhmdlgjojodaaDoorW.PrintMore Go.Proofs.YtifhmdlgjojodaaDoorW.EvMore
def isName : List UInt8 → Bool
  | [] => false
  | c :: r => !dig c && c != 45 && (c :: r).all nam
def quo (t : List UInt8) : List UInt8 := if t.all pln = true then 34 :: t ++ [34] else []
def wd (k : Int) (t : List UInt8) (n : Int) : List UInt8 :=
  if k = 2 then (if t = [] ∧ 0 ≤ n ∧ n ≤ 1125899906842624 then Lib.decDigits n.toNat else [])
  else if k = 3 then (if n = 0 then quo t else [])
  else if k = 1 then (if n = 0 ∧ isName t = true then t else [])
  else if k = 4 then (if n = 0 ∧ symT t = true then t else [])
  else []
end Go.Proofs.YtifhmdlgjojodaaDoor.Lex
end
section
namespace Go.Proofs.YtifhmdlgjojodaaDoor.Lex
open Go.RowKit Go.Proofs.YtifhmdlgjojodaaDoor.Q Go.Proofs.YtifhmdlgjojodaaDoorW.PrintWords Go.Proofs.YtifhmdlgjojodaaDoorW.PrintMore Go.Proofs.YtifhmdlgjojodaaDoorW.EvMore
theorem byte_all (P : UInt8 → Bool) (h : ∀ n : Fin 256, P (UInt8.ofNat n.val) = true) (c : UInt8) : P c = true := by
  have := h ⟨c.toNat, c.toNat_lt⟩
  simpa using this
theorem sep_facts (c : UInt8) (h : c = 32 ∨ c = 10 ∨ c = 35) : nam c = false ∧ dig c = false := by
  rcases h with rfl | rfl | rfl <;> decide
theorem sym_facts (c : UInt8) (h : sym c = true) : dig c = false ∧ c ≠ 34 ∧ nam c = false ∧ c ≠ 62 ∧ c ≠ 32 ∧ c ≠ 10 ∧ c ≠ 35 := by
  have := byte_all (fun c => !sym c || (!dig c && c != 34 && !nam c && c != 62 && c != 32 && c != 10 && c != 35)) (by decide +kernel) c
  simp only [h, Bool.not_true, Bool.false_or, Bool.and_eq_true, bne_iff_ne, ne_eq, Bool.not_eq_true'] at this
  obtain ⟨⟨⟨⟨⟨⟨a, b⟩, c⟩, d⟩, e⟩, f⟩, g⟩ := this
  exact ⟨a, b, c, d, e, f, g⟩
def Sepd (r : List UInt8) : Prop := r = [] ∨ ∃ c r', r = c :: r' ∧ (c = 32 ∨ c = 10 ∨ c = 35)
theorem Sepd.nam {r : List UInt8} (h : Sepd r) : r.takeWhile nam = [] := by
  rcases h with rfl | ⟨c, r', rfl, hc⟩
  · rfl
  · rw [List.takeWhile_cons, (sep_facts c hc).1]; rfl
theorem Sepd.dig {r : List UInt8} (h : Sepd r) : r.takeWhile dig = [] := by
  rcases h with rfl | ⟨c, r', rfl, hc⟩
  · rfl
  · rw [List.takeWhile_cons, (sep_facts c hc).2]; rfl
def wx (x : S36) : List UInt8 := wd x.f0 (bs x.f1) x.f2
def body : List (S36 × List UInt8) → List UInt8
  | [] => []
  | (x, g) :: r => wx x ++ (g ++ body r)
end Go.Proofs.YtifhmdlgjojodaaDoor.Lex
end
section
namespace Go.Proofs.YtifhmdlgjojodaaDoor.Q
open Go.RowKit Go.Proofs.YtifhmdlgjojodaaDoorW.PrintWords Go.Proofs.YtifhmdlgjojodaaDoorW.PrintLast Go.Proofs.YtifhmdlgjojodaaDoorW.PrintMore
attribute [local go_sem] max2_int min2_int max_two min_two max_three min_three max_four min_four
attribute [local go_sem ↓] isSome_setCell
set_option linter.unusedVariables false
set_option linter.unusedSimpArgs false
end Go.Proofs.YtifhmdlgjojodaaDoor.Q
end
section
namespace Go.Proofs.YtifhmdlgjojodaaDoor.Lex
open Go.RowKit Go.Proofs.YtifhmdlgjojodaaDoor.Q Go.Proofs.YtifhmdlgjojodaaDoorW.PrintWords Go.Proofs.YtifhmdlgjojodaaDoorW.PrintMore Go.Proofs.YtifhmdlgjojodaaDoorW.EvMore
theorem tokens_ok (s : ByteArray) (hs : s.size ≤ 4611686018427387904) (ts : List Tok) (h : lex (bs s) = (ts, 0, 0)) : ∃ xs, Ev (fun k => lexer_Tokens.f k s) (xs, 0, 0) ∧ Rels xs ts := by
  obtain ⟨o, ho, xs, hx, e⟩ := tokens_ev s hs
  rw [h] at e hx
  refine ⟨xs, ?_, hx⟩
  simp only [if_true, List.nil_append] at e
  rw [← e]
  exact ho
theorem tokens_err (s : ByteArray) (hs : s.size ≤ 4611686018427387904) (p e : Int) (h : lex (bs s) = ([], p, e)) (he : e ≠ 0) : Ev (fun k => lexer_Tokens.f k s) ([], p, e) := by
  obtain ⟨o, ho, xs, hx, eo⟩ := tokens_ev s hs
  rw [h] at eo hx
  simp only [if_neg he] at eo
  rw [← eo]
  exact ho
end Go.Proofs.YtifhmdlgjojodaaDoor.Lex
end
