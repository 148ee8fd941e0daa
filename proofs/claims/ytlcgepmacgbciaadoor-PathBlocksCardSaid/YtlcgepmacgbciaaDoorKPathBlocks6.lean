import Derived.Test.YtlcgepmacgbciaaDoorKPathBlocks5
set_option linter.unusedVariables false
set_option linter.unusedSimpArgs false
namespace Go.Proofs.YtlcgepmacgbciaaDoorW.Opens
end Go.Proofs.YtlcgepmacgbciaaDoorW.Opens
section
namespace Go.Proofs.YtlcgepmacgbciaaDoor.Q
open Go.RowKit Go.Proofs.YtlcgepmacgbciaaDoorW.PrintWords Go.Proofs.YtlcgepmacgbciaaDoorW.PrintLast Go.Proofs.YtlcgepmacgbciaaDoorW.PrintMore
attribute [local go_sem] max2_int min2_int max_two min_two max_three min_three max_four min_four
attribute [local go_sem ↓] isSome_setCell
attribute [local go_sem] string_gtr
set_option linter.unusedVariables false
set_option linter.unusedSimpArgs false
mutual
def tapearchiveref19_Less.j0 : Nat → List ByteArray → List ByteArray → Bool → Option (Bool)
  | 0, _, _, _ => none
  | k + 1, x5, x7, x25 => if x25 = true then (some false) else (tapearchiveref19_Less.l0 k x5 x7 0)
def tapearchiveref19_Less.l0 : Nat → List ByteArray → List ByteArray → Int → Option (Bool)
  | 0, _, _, _ => none
  | k + 1, x5, x7, x9 => if x9 < (x5.length : Int) then (tapearchiveref19_Less.j2 k x5 x7 x9 (decide (x9 < (x7.length : Int)))) else (tapearchiveref19_Less.j2 k x5 x7 x9 false)
def tapearchiveref19_Less.j2 : Nat → List ByteArray → List ByteArray → Int → Bool → Option (Bool)
  | 0, _, _, _, _ => none
  | k + 1, x5, x7, x9, x35 => if x35 = true then (if 0 ≤ x9 then (if x9 < (x5.length : Int) then (if x9 < (x7.length : Int) then (if (rdOf ByteArray.empty x5 x9).toList = (rdOf ByteArray.empty x7 x9).toList then (tapearchiveref19_Less.l0 k x5 x7 (wrap64 (x9 + 1))) else (some (Op.bytesLess ((rdOf ByteArray.empty x5 x9).toList) ((rdOf ByteArray.empty x7 x9).toList)))) else (none)) else (none)) else (none)) else (some (decide ((x5.length : Int) < (x7.length : Int))))
end
def tapearchiveref19_Less.f (k : Nat) (a0 : ByteArray) (a1 : ByteArray) : Option (Bool) := (tapearchiveref19_Parse.f k a0).bind fun bt352 => ((tapearchiveref19_Parse.f k a1).bind fun bt356 => (if bt352.2 = 0 then (tapearchiveref19_Less.j0 k bt352.1 bt356.1 (bt356.2 != 0)) else (tapearchiveref19_Less.j0 k bt352.1 bt356.1 true)))
set_option maxHeartbeats 8000000 in
set_option maxRecDepth 100000 in
theorem tapearchiveref19_Less.calls (k : Nat) (a0 : ByteArray) (a1 : ByteArray) (r : Bool) (w : World) (h : tapearchiveref19_Less.f k a0 a1 = some r) :
    Calls Tryd.prog 27 #[.string a0, .string a1] w fun e w' => e = .returned (.bool r) ∧ Below w.heap.size w w' := by
  have HB := Aside0.mk (Below.refl w.heap.size w)
  have H : ((tapearchiveref19_Parse.f k a0).bind fun bt352 => ((tapearchiveref19_Parse.f k a1).bind fun bt356 => (if bt352.2 = 0 then (tapearchiveref19_Less.j0 k bt352.1 bt356.1 (bt356.2 != 0)) else (tapearchiveref19_Less.j0 k bt352.1 bt356.1 true)))) = some r := h
  clear h
  replace H := Option.bind_eq_some_iff.mp H
  obtain ⟨⟨t352, t353⟩, A30, H⟩ := H
  replace H : ((tapearchiveref19_Parse.f k a1).bind fun bt356 => (if t353 = 0 then (tapearchiveref19_Less.j0 k t352 bt356.1 (bt356.2 != 0)) else (tapearchiveref19_Less.j0 k t352 bt356.1 true))) = some r := H
  have A3 := Aside0.mk A30
  clear A30
  replace H := Option.bind_eq_some_iff.mp H
  obtain ⟨⟨t356, t357⟩, A40, H⟩ := H
  replace H : (if t353 = 0 then (tapearchiveref19_Less.j0 k t352 t356 (t357 != 0)) else (tapearchiveref19_Less.j0 k t352 t356 true)) = some r := H
  have A4 := Aside0.mk A40
  clear A40
  have HC5 := Aside0.mk H
  clear H
  go_enter Tryd.func27, Tryd.ntmps27
  go_upto_region 3 with (first | (go_at_call 14; (with_reducible refine (tapearchiveref19_Parse.calls k a0 t352 t353 _ A3.out).mono ?_); rintro e w6 ⟨v354, rfl, ho0, hb⟩; have n0_ := Aside0.mk (Kd.R_lower ho0 (below_size (by repeat (first | (with_reducible first | exact HB.out | apply below_alloc | apply pw_below_drewN | apply below_drew1) | exact HB.out)))); have n1_ := Aside0.mk (below_step (by repeat (first | (with_reducible first | exact HB.out | apply below_alloc | apply pw_below_drewN | apply below_drew1) | exact HB.out)) hb); clear HB; have HO355 := n0_; have HB := n1_; clear n0_ n1_; (try clear hb); (try clear hb2); (try clear hk); (try clear hi); (try clear ho0)) | (go_at_call 14; (with_reducible refine (tapearchiveref19_Parse.calls k a1 t356 t357 _ A4.out).mono ?_); rintro e w7 ⟨v358, rfl, ho0, hb⟩; have n0_ := Aside0.mk (Kd.R_elder' (by (with_reducible repeat (first | apply Kd.R_alloc | apply Kd.R_drewN | apply Kd.R_drew)); exact HO355.out) (Kd.R_base ho0) hb); have n1_ := Aside0.mk (Kd.R_lower (Kd.R_new' ho0 (Kd.R_lt (by (with_reducible repeat (first | apply Kd.R_alloc | apply Kd.R_drewN | apply Kd.R_drew)); exact HO355.out))) (below_size (by repeat (first | (with_reducible first | exact HB.out | apply below_alloc | apply pw_below_drewN | apply below_drew1) | exact HB.out)))); have n2_ := Aside0.mk (below_step (by repeat (first | (with_reducible first | exact HB.out | apply below_alloc | apply pw_below_drewN | apply below_drew1) | exact HB.out)) hb); clear HO355; clear HB; have HO355 := n0_; have HO359 := n1_; have HB := n2_; clear n0_ n1_ n2_; (try clear hb); (try clear hb2); (try clear hk); (try clear hi); (try clear ho0)))
  repeat (go_quiet (first | (go_at_call 14; (with_reducible refine (tapearchiveref19_Parse.calls k a0 t352 t353 _ A3.out).mono ?_); rintro e w6 ⟨v354, rfl, ho0, hb⟩; have n0_ := Aside0.mk (Kd.R_lower ho0 (below_size (by repeat (first | (with_reducible first | exact HB.out | apply below_alloc | apply pw_below_drewN | apply below_drew1) | exact HB.out)))); have n1_ := Aside0.mk (below_step (by repeat (first | (with_reducible first | exact HB.out | apply below_alloc | apply pw_below_drewN | apply below_drew1) | exact HB.out)) hb); clear HB; have HO355 := n0_; have HB := n1_; clear n0_ n1_; (try clear hb); (try clear hb2); (try clear hk); (try clear hi); (try clear ho0)) | (go_at_call 14; (with_reducible refine (tapearchiveref19_Parse.calls k a1 t356 t357 _ A4.out).mono ?_); rintro e w7 ⟨v358, rfl, ho0, hb⟩; have n0_ := Aside0.mk (Kd.R_elder' (by (with_reducible repeat (first | apply Kd.R_alloc | apply Kd.R_drewN | apply Kd.R_drew)); exact HO355.out) (Kd.R_base ho0) hb); have n1_ := Aside0.mk (Kd.R_lower (Kd.R_new' ho0 (Kd.R_lt (by (with_reducible repeat (first | apply Kd.R_alloc | apply Kd.R_drewN | apply Kd.R_drew)); exact HO355.out))) (below_size (by repeat (first | (with_reducible first | exact HB.out | apply below_alloc | apply pw_below_drewN | apply below_drew1) | exact HB.out)))); have n2_ := Aside0.mk (below_step (by repeat (first | (with_reducible first | exact HB.out | apply below_alloc | apply pw_below_drewN | apply below_drew1) | exact HB.out)) hb); clear HO355; clear HB; have HO355 := n0_; have HO359 := n1_; have HB := n2_; clear n0_ n1_ n2_; (try clear hb); (try clear hb2); (try clear hk); (try clear hi); (try clear ho0))); go_upto_region 3 with (first | (go_at_call 14; (with_reducible refine (tapearchiveref19_Parse.calls k a0 t352 t353 _ A3.out).mono ?_); rintro e w6 ⟨v354, rfl, ho0, hb⟩; have n0_ := Aside0.mk (Kd.R_lower ho0 (below_size (by repeat (first | (with_reducible first | exact HB.out | apply below_alloc | apply pw_below_drewN | apply below_drew1) | exact HB.out)))); have n1_ := Aside0.mk (below_step (by repeat (first | (with_reducible first | exact HB.out | apply below_alloc | apply pw_below_drewN | apply below_drew1) | exact HB.out)) hb); clear HB; have HO355 := n0_; have HB := n1_; clear n0_ n1_; (try clear hb); (try clear hb2); (try clear hk); (try clear hi); (try clear ho0)) | (go_at_call 14; (with_reducible refine (tapearchiveref19_Parse.calls k a1 t356 t357 _ A4.out).mono ?_); rintro e w7 ⟨v358, rfl, ho0, hb⟩; have n0_ := Aside0.mk (Kd.R_elder' (by (with_reducible repeat (first | apply Kd.R_alloc | apply Kd.R_drewN | apply Kd.R_drew)); exact HO355.out) (Kd.R_base ho0) hb); have n1_ := Aside0.mk (Kd.R_lower (Kd.R_new' ho0 (Kd.R_lt (by (with_reducible repeat (first | apply Kd.R_alloc | apply Kd.R_drewN | apply Kd.R_drew)); exact HO355.out))) (below_size (by repeat (first | (with_reducible first | exact HB.out | apply below_alloc | apply pw_below_drewN | apply below_drew1) | exact HB.out)))); have n2_ := Aside0.mk (below_step (by repeat (first | (with_reducible first | exact HB.out | apply below_alloc | apply pw_below_drewN | apply below_drew1) | exact HB.out)) hb); clear HO355; clear HB; have HO355 := n0_; have HO359 := n1_; have HB := n2_; clear n0_ n1_ n2_; (try clear hb); (try clear hb2); (try clear hk); (try clear hi); (try clear ho0))))
  (try simp only [Act.put, List.setIfInBounds_toArray, List.set_cons_zero, List.set_cons_succ])
  go_cut [25] (fun v25 wc => ∃ (kq : Nat) (x25_4 : Bool), v25 = .bool x25_4 ∧ Aside0 (tapearchiveref19_Less.j0 kq t352 t356 x25_4 = some r) ∧ Aside0 (kq ≤ k) ∧ Aside0 (Kd.R Kd.string 9 wc w.heap.size (fun k_ => some k_ ≠ (v358 : Value).ownBlock) v354 t352) ∧ Aside0 (Kd.R Kd.string 9 wc w.heap.size (fun k_ => some k_ ≠ (v354 : Value).ownBlock) v358 t356) ∧ Aside0 (Below w.heap.size w wc))
  case first =>
    have H := HC5.out
    clear HC5
    by_cases c8 : t353 = 0
    · rw [if_pos c8] at H
      have c8b0 : (t353 == 0) = true := beq_iff_eq.mpr c8
      have c8b1 : (t353 != 0) = false := bne_eq_false_iff_eq.mpr c8
      clear c8
      (first | rw [c8b0] | (simp only [i64_w, i32_w]; rw [c8b0]) | rw [c8b2] | skip)
      have H' := Aside0.mk H
      clear H
      go_wp2
      repeat (go_quiet (fail); try go_wp2)
      go_meet
      case rel => exact ⟨_, ((t357 != 0)), (by first | rfl | (simp; done) | (simp [*]; done)), H', ⟨by first | omega | exact Nat.le_refl _⟩, ⟨by (with_reducible repeat (first | apply Kd.R_alloc | apply Kd.R_drewN | apply Kd.R_drew)); exact Kd.R_mono HO355.out (fun _ hk => hk.2)⟩, ⟨by (with_reducible repeat (first | apply Kd.R_alloc | apply Kd.R_drewN | apply Kd.R_drew)); exact Kd.R_mono HO359.out (fun _ hk => hk.2)⟩, ⟨by repeat (first | (with_reducible first | exact HB.out | apply below_alloc | apply pw_below_drewN | apply below_drew1) | exact HB.out)⟩⟩
    · rw [if_neg c8] at H
      have c8b0 : (t353 == 0) = false := beq_eq_false_iff_ne.mpr c8
      have c8b1 : (t353 != 0) = true := bne_iff_ne.mpr c8
      (first | rw [c8b0] | (simp only [i64_w, i32_w]; rw [c8b0]) | rw [c8b2] | skip)
      have H' := Aside0.mk H
      clear H
      go_wp2
      repeat (go_quiet (fail); try go_wp2)
      go_meet
      case rel => exact ⟨_, (true), (by first | rfl | (simp; done) | (simp [*]; done)), H', ⟨by first | omega | exact Nat.le_refl _⟩, ⟨by (with_reducible repeat (first | apply Kd.R_alloc | apply Kd.R_drewN | apply Kd.R_drew)); exact Kd.R_mono HO355.out (fun _ hk => hk.2)⟩, ⟨by (with_reducible repeat (first | apply Kd.R_alloc | apply Kd.R_drewN | apply Kd.R_drew)); exact Kd.R_mono HO359.out (fun _ hk => hk.2)⟩, ⟨by repeat (first | (with_reducible first | exact HB.out | apply below_alloc | apply pw_below_drewN | apply below_drew1) | exact HB.out)⟩⟩
  case rest =>
    clear HC5
    try clear c2
    try clear p2
    try clear c8
    try clear c8b0
    try clear c8b1
    try clear c8b2
    obtain ⟨kq, x25_4, rfl, HA, HJ4, HO_5, HO_7, HB⟩ := hcut
    cases kq with
    | zero => exact absurd HA.out (by simp [tapearchiveref19_Less.j0])
    | succ kj4 =>
      have H := HA.out
      clear HA
      simp only [tapearchiveref19_Less.j0] at H
      by_cases c9 : x25_4 = true
      · subst c9
        have H1 : (some false) = some r := by rw [if_pos rfl] at H; exact H
        clear H
        have H := H1
        clear H1
        obtain rfl := Option.some.inj H
        go_wp2
        repeat (go_quiet (fail); try go_wp2)
        go_ret
        exact ⟨by first | rfl | (simp [errW_none, errW_some] <;> rfl) | (simp [*, errW_none, errW_some] <;> rfl), by repeat (first | (with_reducible first | exact HB.out | apply below_alloc | apply pw_below_drewN | apply below_drew1) | exact HB.out)⟩
      · replace c9 := Bool.eq_false_iff.mpr c9
        subst c9
        have H1 : (tapearchiveref19_Less.l0 kj4 t352 t356 0) = some r := by rw [if_neg (show ¬ (false = true) by decide)] at H; exact H
        clear H
        have H := H1
        clear H1
        have H' := Aside0.mk H
        clear H
        go_wp2
        repeat (go_quiet (fail); try go_wp2)
        go_loopg [9] kj4 (fun kq v9 w' => ∃ (x9_2 : Int), v9 = .int .i64 x9_2 ∧ Aside0 (tapearchiveref19_Less.l0 kq t352 t356 x9_2 = some r) ∧ Aside0 (kq ≤ kj4) ∧ Aside0 (Kd.R Kd.string 9 w' w.heap.size (fun k_ => some k_ ≠ (v358 : Value).ownBlock) v354 t352) ∧ Aside0 (Kd.R Kd.string 9 w' w.heap.size (fun k_ => some k_ ≠ (v354 : Value).ownBlock) v358 t356) ∧ Aside0 (Below w.heap.size w w'))
        case atStart => exact ⟨(0), (by first | rfl | (simp; done) | (simp [*]; done)), H', ⟨Nat.le_refl _⟩, ⟨by (with_reducible repeat (first | apply Kd.R_alloc | apply Kd.R_drewN | apply Kd.R_drew)); exact HO_5.out⟩, ⟨by (with_reducible repeat (first | apply Kd.R_alloc | apply Kd.R_drewN | apply Kd.R_drew)); exact HO_7.out⟩, ⟨by repeat (first | (with_reducible first | exact HB.out | apply below_alloc | apply pw_below_drewN | apply below_drew1) | exact HB.out)⟩⟩
        case round =>
          clear H'
          try clear c2
          try clear p2
          try clear c8
          try clear c8b0
          try clear c8b1
          try clear c8b2
          try clear c9
          try clear p2
          obtain ⟨x9_2, rfl, HA, HK2, HO_5, HO_7, HB⟩ := hrel
          cases gk with
          | zero => exact absurd HA.out (by simp [tapearchiveref19_Less.l0])
          | succ k2 =>
            have H := HA.out
            clear HA
            simp only [tapearchiveref19_Less.l0] at H
            have HC10 := Aside0.mk H
            clear H
            go_upto_region 6 with (fail)
            repeat (go_quiet (fail); go_upto_region 6 with (fail))
            go_cut [35] (fun v35 wc => ∃ (kq : Nat) (x35_9 : Bool), v35 = .bool x35_9 ∧ Aside0 (tapearchiveref19_Less.j2 kq t352 t356 x9_2 x35_9 = some r) ∧ Aside0 (kq ≤ k2) ∧ Aside0 (Kd.R Kd.string 9 wc w.heap.size (fun k_ => some k_ ≠ (v358 : Value).ownBlock) v354 t352) ∧ Aside0 (Kd.R Kd.string 9 wc w.heap.size (fun k_ => some k_ ≠ (v354 : Value).ownBlock) v358 t356) ∧ Aside0 (Below w.heap.size w wc))
            case first =>
              have H := HC10.out
              clear HC10
              by_cases c11 : x9_2 < (t352.length : Int)
              · rw [if_pos c11] at H
                have c11b0 : decide (x9_2 < (t352.length : Int)) = true := decide_eq_true c11
                clear c11
                (first | rw [c11b0] | (simp only [i64_w, i32_w]; rw [c11b0]) | rw [c11b2] | skip)
                have H' := Aside0.mk H
                clear H
                obtain ⟨Ao12, co12, eo12⟩ := Kd.R_slice HO_5.out
                subst eo12
                obtain ⟨Ao13, co13, eo13⟩ := Kd.R_slice HO_7.out
                subst eo13
                go_wp2
                repeat (go_quiet (fail); try go_wp2)
                go_meet
                case rel => exact ⟨_, (decide (x9_2 < (t356.length : Int))), (by first | rfl | (simp; done) | (simp [*]; done)), H', ⟨by have := HJ4.out; have := HK2.out; first | omega | exact Nat.le_refl _⟩, ⟨by (with_reducible repeat (first | apply Kd.R_alloc | apply Kd.R_drewN | apply Kd.R_drew)); exact HO_5.out⟩, ⟨by (with_reducible repeat (first | apply Kd.R_alloc | apply Kd.R_drewN | apply Kd.R_drew)); exact HO_7.out⟩, ⟨by repeat (first | (with_reducible first | exact HB.out | apply below_alloc | apply pw_below_drewN | apply below_drew1) | exact HB.out)⟩⟩
              · rw [if_neg c11] at H
                have c11b0 : decide (x9_2 < (t352.length : Int)) = false := decide_eq_false c11
                clear c11
                (first | rw [c11b0] | (simp only [i64_w, i32_w]; rw [c11b0]) | rw [c11b2] | skip)
                have H' := Aside0.mk H
                clear H
                obtain ⟨Ao14, co14, eo14⟩ := Kd.R_slice HO_5.out
                subst eo14
                go_wp2
                repeat (go_quiet (fail); try go_wp2)
                go_meet
                case rel => exact ⟨_, (false), (by first | rfl | (simp; done) | (simp [*]; done)), H', ⟨by have := HJ4.out; have := HK2.out; first | omega | exact Nat.le_refl _⟩, ⟨by (with_reducible repeat (first | apply Kd.R_alloc | apply Kd.R_drewN | apply Kd.R_drew)); exact HO_5.out⟩, ⟨by (with_reducible repeat (first | apply Kd.R_alloc | apply Kd.R_drewN | apply Kd.R_drew)); exact HO_7.out⟩, ⟨by repeat (first | (with_reducible first | exact HB.out | apply below_alloc | apply pw_below_drewN | apply below_drew1) | exact HB.out)⟩⟩
            case rest =>
              clear HC10
              try clear c1
              try clear c2
              try clear p2
              try clear c8
              try clear c8b0
              try clear c8b1
              try clear c8b2
              try clear c9
              try clear c11
              try clear c11b0
              try clear c11b2
              try clear p2
              obtain ⟨kq, x35_9, rfl, HA, HJ9, HO_5, HO_7, HB⟩ := hcut
              cases kq with
              | zero => exact absurd HA.out (by simp [tapearchiveref19_Less.j2])
              | succ kj9 =>
                have H := HA.out
                clear HA
                simp only [tapearchiveref19_Less.j2] at H
                by_cases c15 : x35_9 = true
                · subst c15
                  have H1 : (if 0 ≤ x9_2 then (if x9_2 < (t352.length : Int) then (if x9_2 < (t356.length : Int) then (if (rdOf ByteArray.empty t352 x9_2).toList = (rdOf ByteArray.empty t356 x9_2).toList then (tapearchiveref19_Less.l0 kj9 t352 t356 (wrap64 (x9_2 + 1))) else (some (Op.bytesLess ((rdOf ByteArray.empty t352 x9_2).toList) ((rdOf ByteArray.empty t356 x9_2).toList)))) else (none)) else (none)) else (none)) = some r := by rw [if_pos rfl] at H; exact H
                  clear H
                  have H := H1
                  clear H1
                  by_cases c16 : 0 ≤ x9_2
                  · rw [if_pos c16] at H
                    have c16b0 : decide (0 ≤ x9_2) = true := decide_eq_true c16
                    clear c16
                    by_cases c17 : x9_2 < (t352.length : Int)
                    · rw [if_pos c17] at H
                      have c17b0 : decide (x9_2 < (t352.length : Int)) = true := decide_eq_true c17
                      clear c17
                      by_cases c18 : x9_2 < (t356.length : Int)
                      · rw [if_pos c18] at H
                        have c18b0 : decide (x9_2 < (t356.length : Int)) = true := decide_eq_true c18
                        clear c18
                        by_cases c19 : (rdOf ByteArray.empty t352 x9_2).toList = (rdOf ByteArray.empty t356 x9_2).toList
                        · rw [if_pos c19] at H
                          have c19b0 : ((rdOf ByteArray.empty t352 x9_2).toList == (rdOf ByteArray.empty t356 x9_2).toList) = true := beq_iff_eq.mpr c19
                          have c19b1 : ((rdOf ByteArray.empty t352 x9_2).toList != (rdOf ByteArray.empty t356 x9_2).toList) = false := bne_eq_false_iff_eq.mpr c19
                          clear c19
                          have H' := Aside0.mk H
                          clear H
                          obtain ⟨Ao20, co20, eo20⟩ := Kd.R_slice HO_5.out
                          subst eo20
                          have p360 : 0 ≤ (x9_2 : Int) := of_decide_eq_true (by first | (with_reducible assumption) | assumption)
                          have q360 : x9_2 < (t352.length : Int) := of_decide_eq_true (by first | (with_reducible assumption) | assumption)
                          obtain ⟨ad360, e360, hx360_0⟩ := Kd.at_string (Kd.R_reads' HO_5.out).2.2 x9_2 p360 q360
                          cases e360
                          replace p360 := eq_true p360
                          replace q360 := eq_true q360
                          obtain ⟨Ao21, co21, eo21⟩ := Kd.R_slice HO_7.out
                          subst eo21
                          have p361 : 0 ≤ (x9_2 : Int) := of_decide_eq_true (by first | (with_reducible assumption) | assumption)
                          have q361 : x9_2 < (t356.length : Int) := of_decide_eq_true (by first | (with_reducible assumption) | assumption)
                          obtain ⟨ad361, e361, hx361_0⟩ := Kd.at_string (Kd.R_reads' HO_7.out).2.2 x9_2 p361 q361
                          cases e361
                          replace p361 := eq_true p361
                          replace q361 := eq_true q361
                          go_wp2
                          repeat (go_quiet (fail); try go_wp2)
                          go_roundg kj9
                          case measure => have := HJ4.out; have := HK2.out; have := HJ9.out; omega
                          case rel => exact ⟨(wrap64 (x9_2 + 1)), (by first | rfl | (simp; done) | (simp [*]; done)), H', ⟨by have := HJ4.out; have := HK2.out; have := HJ9.out; omega⟩, ⟨by (with_reducible repeat (first | apply Kd.R_alloc | apply Kd.R_drewN | apply Kd.R_drew)); exact HO_5.out⟩, ⟨by (with_reducible repeat (first | apply Kd.R_alloc | apply Kd.R_drewN | apply Kd.R_drew)); exact HO_7.out⟩, ⟨by repeat (first | (with_reducible first | exact HB.out | apply below_alloc | apply pw_below_drewN | apply below_drew1) | exact HB.out)⟩⟩
                        · rw [if_neg c19] at H
                          have c19b0 : ((rdOf ByteArray.empty t352 x9_2).toList == (rdOf ByteArray.empty t356 x9_2).toList) = false := beq_eq_false_iff_ne.mpr c19
                          have c19b1 : ((rdOf ByteArray.empty t352 x9_2).toList != (rdOf ByteArray.empty t356 x9_2).toList) = true := bne_iff_ne.mpr c19
                          obtain rfl := Option.some.inj H
                          obtain ⟨Ao22, co22, eo22⟩ := Kd.R_slice HO_5.out
                          subst eo22
                          have p360 : 0 ≤ (x9_2 : Int) := of_decide_eq_true (by first | (with_reducible assumption) | assumption)
                          have q360 : x9_2 < (t352.length : Int) := of_decide_eq_true (by first | (with_reducible assumption) | assumption)
                          obtain ⟨ad360, e360, hx360_0⟩ := Kd.at_string (Kd.R_reads' HO_5.out).2.2 x9_2 p360 q360
                          cases e360
                          replace p360 := eq_true p360
                          replace q360 := eq_true q360
                          obtain ⟨Ao23, co23, eo23⟩ := Kd.R_slice HO_7.out
                          subst eo23
                          have p361 : 0 ≤ (x9_2 : Int) := of_decide_eq_true (by first | (with_reducible assumption) | assumption)
                          have q361 : x9_2 < (t356.length : Int) := of_decide_eq_true (by first | (with_reducible assumption) | assumption)
                          obtain ⟨ad361, e361, hx361_0⟩ := Kd.at_string (Kd.R_reads' HO_7.out).2.2 x9_2 p361 q361
                          cases e361
                          replace p361 := eq_true p361
                          replace q361 := eq_true q361
                          have p362 : 0 ≤ (x9_2 : Int) := of_decide_eq_true (by first | (with_reducible assumption) | assumption)
                          have q362 : x9_2 < (t352.length : Int) := of_decide_eq_true (by first | (with_reducible assumption) | assumption)
                          obtain ⟨ad362, e362, hx362_0⟩ := Kd.at_string (Kd.R_reads' HO_5.out).2.2 x9_2 p362 q362
                          obtain rfl : ad360 = ad362 := (by injection e362)
                          replace p362 := eq_true p362
                          replace q362 := eq_true q362
                          have p363 : 0 ≤ (x9_2 : Int) := of_decide_eq_true (by first | (with_reducible assumption) | assumption)
                          have q363 : x9_2 < (t356.length : Int) := of_decide_eq_true (by first | (with_reducible assumption) | assumption)
                          obtain ⟨ad363, e363, hx363_0⟩ := Kd.at_string (Kd.R_reads' HO_7.out).2.2 x9_2 p363 q363
                          obtain rfl : ad361 = ad363 := (by injection e363)
                          replace p363 := eq_true p363
                          replace q363 := eq_true q363
                          go_wp2
                          repeat (go_quiet (fail); try go_wp2)
                          go_ret
                          exact ⟨by first | rfl | (simp [errW_none, errW_some] <;> rfl) | (simp [*, errW_none, errW_some] <;> rfl), by repeat (first | (with_reducible first | exact HB.out | apply below_alloc | apply pw_below_drewN | apply below_drew1) | exact HB.out)⟩
                      · rw [if_neg c18] at H
                        exact absurd H (by simp)
                    · rw [if_neg c17] at H
                      exact absurd H (by simp)
                  · rw [if_neg c16] at H
                    exact absurd H (by simp)
                · replace c15 := Bool.eq_false_iff.mpr c15
                  subst c15
                  have H1 : (some (decide ((t352.length : Int) < (t356.length : Int)))) = some r := by rw [if_neg (show ¬ (false = true) by decide)] at H; exact H
                  clear H
                  have H := H1
                  clear H1
                  obtain rfl := Option.some.inj H
                  obtain ⟨Ao24, co24, eo24⟩ := Kd.R_slice HO_5.out
                  subst eo24
                  obtain ⟨Ao25, co25, eo25⟩ := Kd.R_slice HO_7.out
                  subst eo25
                  go_wp2
                  repeat (go_quiet (fail); try go_wp2)
                  go_ret
                  exact ⟨by first | rfl | (simp [errW_none, errW_some] <;> rfl) | (simp [*, errW_none, errW_some] <;> rfl), by repeat (first | (with_reducible first | exact HB.out | apply below_alloc | apply pw_below_drewN | apply below_drew1) | exact HB.out)⟩
end Go.Proofs.YtlcgepmacgbciaaDoor.Q
end
section
namespace Go.Proofs.YtlcgepmacgbciaaDoor.Q
open Go.RowKit Go.Proofs.YtlcgepmacgbciaaDoorW.PrintWords Go.Proofs.YtlcgepmacgbciaaDoorW.PrintLast Go.Proofs.YtlcgepmacgbciaaDoorW.PrintMore
attribute [local go_sem] max2_int min2_int max_two min_two max_three min_three max_four min_four
attribute [local go_sem ↓] isSome_setCell
attribute [local go_sem] string_gtr
set_option linter.unusedVariables false
set_option linter.unusedSimpArgs false
def tapearchivelaw19_PathBlocks.j0 : Nat → ByteArray → ByteArray → ByteArray → Bool → Option (Bool)
  | 0, _, _, _, _ => none
  | k + 1, x0, x1, x2, x37 => if x37 = true then ((tapearchivelaw19_awake.f k).bind fun t387 => (some t387)) else ((path_Less.f k x0 x1).bind fun t388 => (if t388 = true then ((path_Less.f k x1 x2).bind fun t389 => (if t389 = true then ((path_Under.f k x2 x0).bind fun t390 => (if t390 = true then ((path_Under.f k x1 x0).bind fun t391 => (if t391 = true then ((tapearchivelaw19_awake.f k).bind fun t392 => (some t392)) else (some false))) else (some false))) else (some false))) else (some false)))
def tapearchivelaw19_PathBlocks.f (k : Nat) (a0 : ByteArray) (a1 : ByteArray) (a2 : ByteArray) : Option (Bool) := (tapearchivelaw19_few.f a0).bind fun t381 => (if t381 = true then ((tapearchivelaw19_few.f a1).bind fun t382 => (if t382 = true then ((tapearchivelaw19_few.f a2).bind fun t383 => (if t383 = true then ((tapearchiveref19_Under.f k a2 a0).bind fun t384 => (if t384 = true then ((tapearchiveref19_Less.f k a0 a1).bind fun t385 => (if t385 = true then ((tapearchiveref19_Less.f k a1 a2).bind fun t386 => (tapearchivelaw19_PathBlocks.j0 k a0 a1 a2 (!t386))) else (tapearchivelaw19_PathBlocks.j0 k a0 a1 a2 true))) else (tapearchivelaw19_PathBlocks.j0 k a0 a1 a2 true))) else (tapearchivelaw19_PathBlocks.j0 k a0 a1 a2 true))) else (tapearchivelaw19_PathBlocks.j0 k a0 a1 a2 true))) else (tapearchivelaw19_PathBlocks.j0 k a0 a1 a2 true))
set_option maxHeartbeats 8000000 in
set_option maxRecDepth 100000 in
theorem tapearchivelaw19_PathBlocks.calls (k : Nat) (a0 : ByteArray) (a1 : ByteArray) (a2 : ByteArray) (r : Bool) (w : World) (hG : Go.Proofs.YtlcgepmacgbciaaDoorX.Glob w) (h : tapearchivelaw19_PathBlocks.f k a0 a1 a2 = some r) :
    Calls Tryd.prog 10 #[.string a0, .string a1, .string a2] w fun e w' => e = .returned (.bool r) ∧ Below w.heap.size w w' := by
  have HB := Aside0.mk (Below.refl w.heap.size w)
  have H : ((tapearchivelaw19_few.f a0).bind fun t381 => (if t381 = true then ((tapearchivelaw19_few.f a1).bind fun t382 => (if t382 = true then ((tapearchivelaw19_few.f a2).bind fun t383 => (if t383 = true then ((tapearchiveref19_Under.f k a2 a0).bind fun t384 => (if t384 = true then ((tapearchiveref19_Less.f k a0 a1).bind fun t385 => (if t385 = true then ((tapearchiveref19_Less.f k a1 a2).bind fun t386 => (tapearchivelaw19_PathBlocks.j0 k a0 a1 a2 (!t386))) else (tapearchivelaw19_PathBlocks.j0 k a0 a1 a2 true))) else (tapearchivelaw19_PathBlocks.j0 k a0 a1 a2 true))) else (tapearchivelaw19_PathBlocks.j0 k a0 a1 a2 true))) else (tapearchivelaw19_PathBlocks.j0 k a0 a1 a2 true))) else (tapearchivelaw19_PathBlocks.j0 k a0 a1 a2 true))) = some r := h
  clear h
  have HC4 := Aside0.mk H
  clear H
  go_enter Tryd.func10, Tryd.ntmps10
  go_upto_region 1 with (fail)
  go_cut [37] (fun v37 wc => ∃ (kq : Nat) (x37_3 : Bool), v37 = .bool x37_3 ∧ Aside0 (tapearchivelaw19_PathBlocks.j0 kq a0 a1 a2 x37_3 = some r) ∧ Aside0 (kq ≤ k) ∧ Aside0 (Below w.heap.size w wc))
  case first =>
    have H := HC4.out
    clear HC4
    replace H := Option.bind_eq_some_iff.mp H
    obtain ⟨t381, A50, H⟩ := H
    replace H : (if t381 = true then ((tapearchivelaw19_few.f a1).bind fun t382 => (if t382 = true then ((tapearchivelaw19_few.f a2).bind fun t383 => (if t383 = true then ((tapearchiveref19_Under.f k a2 a0).bind fun t384 => (if t384 = true then ((tapearchiveref19_Less.f k a0 a1).bind fun t385 => (if t385 = true then ((tapearchiveref19_Less.f k a1 a2).bind fun t386 => (tapearchivelaw19_PathBlocks.j0 k a0 a1 a2 (!t386))) else (tapearchivelaw19_PathBlocks.j0 k a0 a1 a2 true))) else (tapearchivelaw19_PathBlocks.j0 k a0 a1 a2 true))) else (tapearchivelaw19_PathBlocks.j0 k a0 a1 a2 true))) else (tapearchivelaw19_PathBlocks.j0 k a0 a1 a2 true))) else (tapearchivelaw19_PathBlocks.j0 k a0 a1 a2 true)) = some r := H
    have A5 := Aside0.mk A50
    clear A50
    by_cases c6 : t381 = true
    · subst c6
      have H1 : ((tapearchivelaw19_few.f a1).bind fun t382 => (if t382 = true then ((tapearchivelaw19_few.f a2).bind fun t383 => (if t383 = true then ((tapearchiveref19_Under.f k a2 a0).bind fun t384 => (if t384 = true then ((tapearchiveref19_Less.f k a0 a1).bind fun t385 => (if t385 = true then ((tapearchiveref19_Less.f k a1 a2).bind fun t386 => (tapearchivelaw19_PathBlocks.j0 k a0 a1 a2 (!t386))) else (tapearchivelaw19_PathBlocks.j0 k a0 a1 a2 true))) else (tapearchivelaw19_PathBlocks.j0 k a0 a1 a2 true))) else (tapearchivelaw19_PathBlocks.j0 k a0 a1 a2 true))) else (tapearchivelaw19_PathBlocks.j0 k a0 a1 a2 true))) = some r := by rw [if_pos rfl] at H; exact H
      clear H
      have H := H1
      clear H1
      replace H := Option.bind_eq_some_iff.mp H
      obtain ⟨t382, A70, H⟩ := H
      replace H : (if t382 = true then ((tapearchivelaw19_few.f a2).bind fun t383 => (if t383 = true then ((tapearchiveref19_Under.f k a2 a0).bind fun t384 => (if t384 = true then ((tapearchiveref19_Less.f k a0 a1).bind fun t385 => (if t385 = true then ((tapearchiveref19_Less.f k a1 a2).bind fun t386 => (tapearchivelaw19_PathBlocks.j0 k a0 a1 a2 (!t386))) else (tapearchivelaw19_PathBlocks.j0 k a0 a1 a2 true))) else (tapearchivelaw19_PathBlocks.j0 k a0 a1 a2 true))) else (tapearchivelaw19_PathBlocks.j0 k a0 a1 a2 true))) else (tapearchivelaw19_PathBlocks.j0 k a0 a1 a2 true)) = some r := H
      have A7 := Aside0.mk A70
      clear A70
      by_cases c8 : t382 = true
      · subst c8
        have H1 : ((tapearchivelaw19_few.f a2).bind fun t383 => (if t383 = true then ((tapearchiveref19_Under.f k a2 a0).bind fun t384 => (if t384 = true then ((tapearchiveref19_Less.f k a0 a1).bind fun t385 => (if t385 = true then ((tapearchiveref19_Less.f k a1 a2).bind fun t386 => (tapearchivelaw19_PathBlocks.j0 k a0 a1 a2 (!t386))) else (tapearchivelaw19_PathBlocks.j0 k a0 a1 a2 true))) else (tapearchivelaw19_PathBlocks.j0 k a0 a1 a2 true))) else (tapearchivelaw19_PathBlocks.j0 k a0 a1 a2 true))) = some r := by rw [if_pos rfl] at H; exact H
        clear H
        have H := H1
        clear H1
        replace H := Option.bind_eq_some_iff.mp H
        obtain ⟨t383, A90, H⟩ := H
        replace H : (if t383 = true then ((tapearchiveref19_Under.f k a2 a0).bind fun t384 => (if t384 = true then ((tapearchiveref19_Less.f k a0 a1).bind fun t385 => (if t385 = true then ((tapearchiveref19_Less.f k a1 a2).bind fun t386 => (tapearchivelaw19_PathBlocks.j0 k a0 a1 a2 (!t386))) else (tapearchivelaw19_PathBlocks.j0 k a0 a1 a2 true))) else (tapearchivelaw19_PathBlocks.j0 k a0 a1 a2 true))) else (tapearchivelaw19_PathBlocks.j0 k a0 a1 a2 true)) = some r := H
        have A9 := Aside0.mk A90
        clear A90
        by_cases c10 : t383 = true
        · subst c10
          have H1 : ((tapearchiveref19_Under.f k a2 a0).bind fun t384 => (if t384 = true then ((tapearchiveref19_Less.f k a0 a1).bind fun t385 => (if t385 = true then ((tapearchiveref19_Less.f k a1 a2).bind fun t386 => (tapearchivelaw19_PathBlocks.j0 k a0 a1 a2 (!t386))) else (tapearchivelaw19_PathBlocks.j0 k a0 a1 a2 true))) else (tapearchivelaw19_PathBlocks.j0 k a0 a1 a2 true))) = some r := by rw [if_pos rfl] at H; exact H
          clear H
          have H := H1
          clear H1
          replace H := Option.bind_eq_some_iff.mp H
          obtain ⟨t384, A110, H⟩ := H
          replace H : (if t384 = true then ((tapearchiveref19_Less.f k a0 a1).bind fun t385 => (if t385 = true then ((tapearchiveref19_Less.f k a1 a2).bind fun t386 => (tapearchivelaw19_PathBlocks.j0 k a0 a1 a2 (!t386))) else (tapearchivelaw19_PathBlocks.j0 k a0 a1 a2 true))) else (tapearchivelaw19_PathBlocks.j0 k a0 a1 a2 true)) = some r := H
          have A11 := Aside0.mk A110
          clear A110
          by_cases c12 : t384 = true
          · subst c12
            have H1 : ((tapearchiveref19_Less.f k a0 a1).bind fun t385 => (if t385 = true then ((tapearchiveref19_Less.f k a1 a2).bind fun t386 => (tapearchivelaw19_PathBlocks.j0 k a0 a1 a2 (!t386))) else (tapearchivelaw19_PathBlocks.j0 k a0 a1 a2 true))) = some r := by rw [if_pos rfl] at H; exact H
            clear H
            have H := H1
            clear H1
            replace H := Option.bind_eq_some_iff.mp H
            obtain ⟨t385, A130, H⟩ := H
            replace H : (if t385 = true then ((tapearchiveref19_Less.f k a1 a2).bind fun t386 => (tapearchivelaw19_PathBlocks.j0 k a0 a1 a2 (!t386))) else (tapearchivelaw19_PathBlocks.j0 k a0 a1 a2 true)) = some r := H
            have A13 := Aside0.mk A130
            clear A130
            by_cases c14 : t385 = true
            · subst c14
              have H1 : ((tapearchiveref19_Less.f k a1 a2).bind fun t386 => (tapearchivelaw19_PathBlocks.j0 k a0 a1 a2 (!t386))) = some r := by rw [if_pos rfl] at H; exact H
              clear H
              have H := H1
              clear H1
              replace H := Option.bind_eq_some_iff.mp H
              obtain ⟨t386, A150, H⟩ := H
              replace H : (tapearchivelaw19_PathBlocks.j0 k a0 a1 a2 (!t386)) = some r := H
              have A15 := Aside0.mk A150
              clear A150
              have H' := Aside0.mk H
              clear H
              go_wp2_with (first | ((with_reducible refine gate_callee (f := 11) rfl ?_); refine goesL_ (some 8) rfl rfl Tryd.func11 (by kernel_rfl) rfl #[.string a0] rfl (by (try simp only [List.map_toArray, List.map_cons, List.map_nil]); first | done | rfl | (simp only [List.length_drop, List.length_take]; rfl)) ?_; (with_reducible refine (tapearchivelaw19_few.calls a0 true _ A5.out).mono ?_); rintro e w' ⟨rfl, ⟨nd, rfl⟩⟩; refine ⟨_, rfl, ?_⟩) | (go_at_call 11; (with_reducible refine (tapearchivelaw19_few.calls a1 true _ A7.out).mono ?_); rintro e w' ⟨rfl, ⟨nd, rfl⟩⟩) | (go_at_call 11; (with_reducible refine (tapearchivelaw19_few.calls a2 true _ A9.out).mono ?_); rintro e w' ⟨rfl, ⟨nd, rfl⟩⟩) | (go_at_call 22; (with_reducible refine (tapearchiveref19_Under.calls k a2 a0 true _ A11.out).mono ?_); rintro e w16 ⟨rfl, hb⟩; have n0_ := Aside0.mk (below_step (by repeat (first | (with_reducible first | exact HB.out | apply below_alloc | apply pw_below_drewN | apply below_drew1) | exact HB.out)) hb); clear HB; have HB := n0_; clear n0_; (try clear hb); (try clear hb2); (try clear hk); (try clear hi)) | (go_at_call 27; (with_reducible refine (tapearchiveref19_Less.calls k a0 a1 true _ A13.out).mono ?_); rintro e w17 ⟨rfl, hb⟩; have n0_ := Aside0.mk (below_step (by repeat (first | (with_reducible first | exact HB.out | apply below_alloc | apply pw_below_drewN | apply below_drew1) | exact HB.out)) hb); clear HB; have HB := n0_; clear n0_; (try clear hb); (try clear hb2); (try clear hk); (try clear hi)) | (go_at_call 27; (with_reducible refine (tapearchiveref19_Less.calls k a1 a2 t386 _ A15.out).mono ?_); rintro e w18 ⟨rfl, hb⟩; have n0_ := Aside0.mk (below_step (by repeat (first | (with_reducible first | exact HB.out | apply below_alloc | apply pw_below_drewN | apply below_drew1) | exact HB.out)) hb); clear HB; have HB := n0_; clear n0_; (try clear hb); (try clear hb2); (try clear hk); (try clear hi)))
              go_meet
              case rel => exact ⟨_, (!t386), (by first | rfl | (simp; done) | (simp [*]; done)), H', ⟨by first | omega | exact Nat.le_refl _⟩, ⟨by repeat (first | (with_reducible first | exact HB.out | apply below_alloc | apply pw_below_drewN | apply below_drew1) | exact HB.out)⟩⟩
            · replace c14 := Bool.eq_false_iff.mpr c14
              subst c14
              have H1 : (tapearchivelaw19_PathBlocks.j0 k a0 a1 a2 true) = some r := by rw [if_neg (show ¬ (false = true) by decide)] at H; exact H
              clear H
              have H := H1
              clear H1
              have H' := Aside0.mk H
              clear H
              go_wp2_with (first | ((with_reducible refine gate_callee (f := 11) rfl ?_); refine goesL_ (some 8) rfl rfl Tryd.func11 (by kernel_rfl) rfl #[.string a0] rfl (by (try simp only [List.map_toArray, List.map_cons, List.map_nil]); first | done | rfl | (simp only [List.length_drop, List.length_take]; rfl)) ?_; (with_reducible refine (tapearchivelaw19_few.calls a0 true _ A5.out).mono ?_); rintro e w' ⟨rfl, ⟨nd, rfl⟩⟩; refine ⟨_, rfl, ?_⟩) | (go_at_call 11; (with_reducible refine (tapearchivelaw19_few.calls a1 true _ A7.out).mono ?_); rintro e w' ⟨rfl, ⟨nd, rfl⟩⟩) | (go_at_call 11; (with_reducible refine (tapearchivelaw19_few.calls a2 true _ A9.out).mono ?_); rintro e w' ⟨rfl, ⟨nd, rfl⟩⟩) | (go_at_call 22; (with_reducible refine (tapearchiveref19_Under.calls k a2 a0 true _ A11.out).mono ?_); rintro e w19 ⟨rfl, hb⟩; have n0_ := Aside0.mk (below_step (by repeat (first | (with_reducible first | exact HB.out | apply below_alloc | apply pw_below_drewN | apply below_drew1) | exact HB.out)) hb); clear HB; have HB := n0_; clear n0_; (try clear hb); (try clear hb2); (try clear hk); (try clear hi)) | (go_at_call 27; (with_reducible refine (tapearchiveref19_Less.calls k a0 a1 false _ A13.out).mono ?_); rintro e w20 ⟨rfl, hb⟩; have n0_ := Aside0.mk (below_step (by repeat (first | (with_reducible first | exact HB.out | apply below_alloc | apply pw_below_drewN | apply below_drew1) | exact HB.out)) hb); clear HB; have HB := n0_; clear n0_; (try clear hb); (try clear hb2); (try clear hk); (try clear hi)))
              go_meet
              case rel => exact ⟨_, (true), (by first | rfl | (simp; done) | (simp [*]; done)), H', ⟨by first | omega | exact Nat.le_refl _⟩, ⟨by repeat (first | (with_reducible first | exact HB.out | apply below_alloc | apply pw_below_drewN | apply below_drew1) | exact HB.out)⟩⟩
          · replace c12 := Bool.eq_false_iff.mpr c12
            subst c12
            have H1 : (tapearchivelaw19_PathBlocks.j0 k a0 a1 a2 true) = some r := by rw [if_neg (show ¬ (false = true) by decide)] at H; exact H
            clear H
            have H := H1
            clear H1
            have H' := Aside0.mk H
            clear H
            go_wp2_with (first | ((with_reducible refine gate_callee (f := 11) rfl ?_); refine goesL_ (some 8) rfl rfl Tryd.func11 (by kernel_rfl) rfl #[.string a0] rfl (by (try simp only [List.map_toArray, List.map_cons, List.map_nil]); first | done | rfl | (simp only [List.length_drop, List.length_take]; rfl)) ?_; (with_reducible refine (tapearchivelaw19_few.calls a0 true _ A5.out).mono ?_); rintro e w' ⟨rfl, ⟨nd, rfl⟩⟩; refine ⟨_, rfl, ?_⟩) | (go_at_call 11; (with_reducible refine (tapearchivelaw19_few.calls a1 true _ A7.out).mono ?_); rintro e w' ⟨rfl, ⟨nd, rfl⟩⟩) | (go_at_call 11; (with_reducible refine (tapearchivelaw19_few.calls a2 true _ A9.out).mono ?_); rintro e w' ⟨rfl, ⟨nd, rfl⟩⟩) | (go_at_call 22; (with_reducible refine (tapearchiveref19_Under.calls k a2 a0 false _ A11.out).mono ?_); rintro e w21 ⟨rfl, hb⟩; have n0_ := Aside0.mk (below_step (by repeat (first | (with_reducible first | exact HB.out | apply below_alloc | apply pw_below_drewN | apply below_drew1) | exact HB.out)) hb); clear HB; have HB := n0_; clear n0_; (try clear hb); (try clear hb2); (try clear hk); (try clear hi)))
            go_meet
            case rel => exact ⟨_, (true), (by first | rfl | (simp; done) | (simp [*]; done)), H', ⟨by first | omega | exact Nat.le_refl _⟩, ⟨by repeat (first | (with_reducible first | exact HB.out | apply below_alloc | apply pw_below_drewN | apply below_drew1) | exact HB.out)⟩⟩
        · replace c10 := Bool.eq_false_iff.mpr c10
          subst c10
          have H1 : (tapearchivelaw19_PathBlocks.j0 k a0 a1 a2 true) = some r := by rw [if_neg (show ¬ (false = true) by decide)] at H; exact H
          clear H
          have H := H1
          clear H1
          have H' := Aside0.mk H
          clear H
          go_wp2_with (first | ((with_reducible refine gate_callee (f := 11) rfl ?_); refine goesL_ (some 8) rfl rfl Tryd.func11 (by kernel_rfl) rfl #[.string a0] rfl (by (try simp only [List.map_toArray, List.map_cons, List.map_nil]); first | done | rfl | (simp only [List.length_drop, List.length_take]; rfl)) ?_; (with_reducible refine (tapearchivelaw19_few.calls a0 true _ A5.out).mono ?_); rintro e w' ⟨rfl, ⟨nd, rfl⟩⟩; refine ⟨_, rfl, ?_⟩) | (go_at_call 11; (with_reducible refine (tapearchivelaw19_few.calls a1 true _ A7.out).mono ?_); rintro e w' ⟨rfl, ⟨nd, rfl⟩⟩) | (go_at_call 11; (with_reducible refine (tapearchivelaw19_few.calls a2 false _ A9.out).mono ?_); rintro e w' ⟨rfl, ⟨nd, rfl⟩⟩))
          go_meet
          case rel => exact ⟨_, (true), (by first | rfl | (simp; done) | (simp [*]; done)), H', ⟨by first | omega | exact Nat.le_refl _⟩, ⟨by repeat (first | (with_reducible first | exact HB.out | apply below_alloc | apply pw_below_drewN | apply below_drew1) | exact HB.out)⟩⟩
      · replace c8 := Bool.eq_false_iff.mpr c8
        subst c8
        have H1 : (tapearchivelaw19_PathBlocks.j0 k a0 a1 a2 true) = some r := by rw [if_neg (show ¬ (false = true) by decide)] at H; exact H
        clear H
        have H := H1
        clear H1
        have H' := Aside0.mk H
        clear H
        go_wp2_with (first | ((with_reducible refine gate_callee (f := 11) rfl ?_); refine goesL_ (some 8) rfl rfl Tryd.func11 (by kernel_rfl) rfl #[.string a0] rfl (by (try simp only [List.map_toArray, List.map_cons, List.map_nil]); first | done | rfl | (simp only [List.length_drop, List.length_take]; rfl)) ?_; (with_reducible refine (tapearchivelaw19_few.calls a0 true _ A5.out).mono ?_); rintro e w' ⟨rfl, ⟨nd, rfl⟩⟩; refine ⟨_, rfl, ?_⟩) | (go_at_call 11; (with_reducible refine (tapearchivelaw19_few.calls a1 false _ A7.out).mono ?_); rintro e w' ⟨rfl, ⟨nd, rfl⟩⟩))
        go_meet
        case rel => exact ⟨_, (true), (by first | rfl | (simp; done) | (simp [*]; done)), H', ⟨by first | omega | exact Nat.le_refl _⟩, ⟨by repeat (first | (with_reducible first | exact HB.out | apply below_alloc | apply pw_below_drewN | apply below_drew1) | exact HB.out)⟩⟩
    · replace c6 := Bool.eq_false_iff.mpr c6
      subst c6
      have H1 : (tapearchivelaw19_PathBlocks.j0 k a0 a1 a2 true) = some r := by rw [if_neg (show ¬ (false = true) by decide)] at H; exact H
      clear H
      have H := H1
      clear H1
      have H' := Aside0.mk H
      clear H
      go_wp2_with (first | ((with_reducible refine gate_callee (f := 11) rfl ?_); refine goesL_ (some 8) rfl rfl Tryd.func11 (by kernel_rfl) rfl #[.string a0] rfl (by (try simp only [List.map_toArray, List.map_cons, List.map_nil]); first | done | rfl | (simp only [List.length_drop, List.length_take]; rfl)) ?_; (with_reducible refine (tapearchivelaw19_few.calls a0 false _ A5.out).mono ?_); rintro e w' ⟨rfl, ⟨nd, rfl⟩⟩; refine ⟨_, rfl, ?_⟩))
      go_meet
      case rel => exact ⟨_, (true), (by first | rfl | (simp; done) | (simp [*]; done)), H', ⟨by first | omega | exact Nat.le_refl _⟩, ⟨by repeat (first | (with_reducible first | exact HB.out | apply below_alloc | apply pw_below_drewN | apply below_drew1) | exact HB.out)⟩⟩
  case rest =>
    clear HC4
    try clear c1
    try clear p2
    try clear c6
    try clear c8
    try clear c10
    try clear c11
    try clear c12
    try clear c14
    obtain ⟨kq, x37_3, rfl, HA, HJ3, HB⟩ := hcut
    cases kq with
    | zero => exact absurd HA.out (by simp [tapearchivelaw19_PathBlocks.j0])
    | succ kj3 =>
      have H := HA.out
      clear HA
      simp only [tapearchivelaw19_PathBlocks.j0] at H
      by_cases c22 : x37_3 = true
      · subst c22
        have H1 : ((tapearchivelaw19_awake.f kj3).bind fun t387 => (some t387)) = some r := by rw [if_pos rfl] at H; exact H
        clear H
        have H := H1
        clear H1
        replace H := Option.bind_eq_some_iff.mp H
        obtain ⟨t387, A230, H⟩ := H
        replace H : (some t387) = some r := H
        have A23 := Aside0.mk A230
        clear A230
        obtain rfl := Option.some.inj H
        go_wp2_with (first | ((with_reducible refine gate_callee (f := 12) rfl ?_); refine goesL_ (some 38) rfl rfl Tryd.func12 (by kernel_rfl) rfl #[] rfl (by (try simp only [List.map_toArray, List.map_cons, List.map_nil]); first | done | rfl | (simp only [List.length_drop, List.length_take]; rfl)) ?_; (with_reducible refine (tapearchivelaw19_awake.calls kj3  t387 _ ?side1 A23.out).mono ?_); (case side1 => exact Go.Proofs.YtlcgepmacgbciaaDoorX.Glob.below hG (by repeat (first | (with_reducible first | exact HB.out | apply below_alloc | apply pw_below_drewN | apply below_drew1) | exact HB.out))); rintro e w24 ⟨rfl, hb⟩; refine ⟨_, rfl, ?_⟩; have n0_ := Aside0.mk (below_step (by repeat (first | (with_reducible first | exact HB.out | apply below_alloc | apply pw_below_drewN | apply below_drew1) | exact HB.out)) hb); clear HB; have HB := n0_; clear n0_; (try clear hb); (try clear hb2); (try clear hk); (try clear hi)))
        go_ret
        exact ⟨by first | rfl | (simp [errW_none, errW_some] <;> rfl) | (simp [*, errW_none, errW_some] <;> rfl), by repeat (first | (with_reducible first | exact HB.out | apply below_alloc | apply pw_below_drewN | apply below_drew1) | exact HB.out)⟩
      · replace c22 := Bool.eq_false_iff.mpr c22
        subst c22
        have H1 : ((path_Less.f kj3 a0 a1).bind fun t388 => (if t388 = true then ((path_Less.f kj3 a1 a2).bind fun t389 => (if t389 = true then ((path_Under.f kj3 a2 a0).bind fun t390 => (if t390 = true then ((path_Under.f kj3 a1 a0).bind fun t391 => (if t391 = true then ((tapearchivelaw19_awake.f kj3).bind fun t392 => (some t392)) else (some false))) else (some false))) else (some false))) else (some false))) = some r := by rw [if_neg (show ¬ (false = true) by decide)] at H; exact H
        clear H
        have H := H1
        clear H1
        replace H := Option.bind_eq_some_iff.mp H
        obtain ⟨t388, A250, H⟩ := H
        replace H : (if t388 = true then ((path_Less.f kj3 a1 a2).bind fun t389 => (if t389 = true then ((path_Under.f kj3 a2 a0).bind fun t390 => (if t390 = true then ((path_Under.f kj3 a1 a0).bind fun t391 => (if t391 = true then ((tapearchivelaw19_awake.f kj3).bind fun t392 => (some t392)) else (some false))) else (some false))) else (some false))) else (some false)) = some r := H
        have A25 := Aside0.mk A250
        clear A250
        by_cases c26 : t388 = true
        · subst c26
          have H1 : ((path_Less.f kj3 a1 a2).bind fun t389 => (if t389 = true then ((path_Under.f kj3 a2 a0).bind fun t390 => (if t390 = true then ((path_Under.f kj3 a1 a0).bind fun t391 => (if t391 = true then ((tapearchivelaw19_awake.f kj3).bind fun t392 => (some t392)) else (some false))) else (some false))) else (some false))) = some r := by rw [if_pos rfl] at H; exact H
          clear H
          have H := H1
          clear H1
          replace H := Option.bind_eq_some_iff.mp H
          obtain ⟨t389, A270, H⟩ := H
          replace H : (if t389 = true then ((path_Under.f kj3 a2 a0).bind fun t390 => (if t390 = true then ((path_Under.f kj3 a1 a0).bind fun t391 => (if t391 = true then ((tapearchivelaw19_awake.f kj3).bind fun t392 => (some t392)) else (some false))) else (some false))) else (some false)) = some r := H
          have A27 := Aside0.mk A270
          clear A270
          by_cases c28 : t389 = true
          · subst c28
            have H1 : ((path_Under.f kj3 a2 a0).bind fun t390 => (if t390 = true then ((path_Under.f kj3 a1 a0).bind fun t391 => (if t391 = true then ((tapearchivelaw19_awake.f kj3).bind fun t392 => (some t392)) else (some false))) else (some false))) = some r := by rw [if_pos rfl] at H; exact H
            clear H
            have H := H1
            clear H1
            replace H := Option.bind_eq_some_iff.mp H
            obtain ⟨t390, A290, H⟩ := H
            replace H : (if t390 = true then ((path_Under.f kj3 a1 a0).bind fun t391 => (if t391 = true then ((tapearchivelaw19_awake.f kj3).bind fun t392 => (some t392)) else (some false))) else (some false)) = some r := H
            have A29 := Aside0.mk A290
            clear A290
            by_cases c30 : t390 = true
            · subst c30
              have H1 : ((path_Under.f kj3 a1 a0).bind fun t391 => (if t391 = true then ((tapearchivelaw19_awake.f kj3).bind fun t392 => (some t392)) else (some false))) = some r := by rw [if_pos rfl] at H; exact H
              clear H
              have H := H1
              clear H1
              replace H := Option.bind_eq_some_iff.mp H
              obtain ⟨t391, A310, H⟩ := H
              replace H : (if t391 = true then ((tapearchivelaw19_awake.f kj3).bind fun t392 => (some t392)) else (some false)) = some r := H
              have A31 := Aside0.mk A310
              clear A310
              by_cases c32 : t391 = true
              · subst c32
                have H1 : ((tapearchivelaw19_awake.f kj3).bind fun t392 => (some t392)) = some r := by rw [if_pos rfl] at H; exact H
                clear H
                have H := H1
                clear H1
                replace H := Option.bind_eq_some_iff.mp H
                obtain ⟨t392, A330, H⟩ := H
                replace H : (some t392) = some r := H
                have A33 := Aside0.mk A330
                clear A330
                obtain rfl := Option.some.inj H
                go_wp2_with (first | ((with_reducible refine gate_callee (f := 26) rfl ?_); refine goesL_ (some 41) rfl rfl Tryd.func26 (by kernel_rfl) rfl #[.string a0, .string a1] rfl (by (try simp only [List.map_toArray, List.map_cons, List.map_nil]); first | done | rfl | (simp only [List.length_drop, List.length_take]; rfl)) ?_; (with_reducible refine (path_Less.calls kj3 a0 a1 true _ ?side1 A25.out).mono ?_); (case side1 => exact Go.Proofs.YtlcgepmacgbciaaDoorX.Glob.below hG (by repeat (first | (with_reducible first | exact HB.out | apply below_alloc | apply pw_below_drewN | apply below_drew1) | exact HB.out))); rintro e w34 ⟨rfl, hb⟩; refine ⟨_, rfl, ?_⟩; have n0_ := Aside0.mk (below_step (by repeat (first | (with_reducible first | exact HB.out | apply below_alloc | apply pw_below_drewN | apply below_drew1) | exact HB.out)) hb); clear HB; have HB := n0_; clear n0_; (try clear hb); (try clear hb2); (try clear hk); (try clear hi)) | (go_at_call 26; (with_reducible refine (path_Less.calls kj3 a1 a2 true _ ?side1 A27.out).mono ?_); (case side1 => exact Go.Proofs.YtlcgepmacgbciaaDoorX.Glob.below hG (by repeat (first | (with_reducible first | exact HB.out | apply below_alloc | apply pw_below_drewN | apply below_drew1) | exact HB.out))); rintro e w35 ⟨rfl, hb⟩; have n0_ := Aside0.mk (below_step (by repeat (first | (with_reducible first | exact HB.out | apply below_alloc | apply pw_below_drewN | apply below_drew1) | exact HB.out)) hb); clear HB; have HB := n0_; clear n0_; (try clear hb); (try clear hb2); (try clear hk); (try clear hi)) | (go_at_call 21; (with_reducible refine (path_Under.calls kj3 a2 a0 true _ ?side1 A29.out).mono ?_); (case side1 => exact Go.Proofs.YtlcgepmacgbciaaDoorX.Glob.below hG (by repeat (first | (with_reducible first | exact HB.out | apply below_alloc | apply pw_below_drewN | apply below_drew1) | exact HB.out))); rintro e w36 ⟨rfl, hb⟩; have n0_ := Aside0.mk (below_step (by repeat (first | (with_reducible first | exact HB.out | apply below_alloc | apply pw_below_drewN | apply below_drew1) | exact HB.out)) hb); clear HB; have HB := n0_; clear n0_; (try clear hb); (try clear hb2); (try clear hk); (try clear hi)) | (go_at_call 21; (with_reducible refine (path_Under.calls kj3 a1 a0 true _ ?side1 A31.out).mono ?_); (case side1 => exact Go.Proofs.YtlcgepmacgbciaaDoorX.Glob.below hG (by repeat (first | (with_reducible first | exact HB.out | apply below_alloc | apply pw_below_drewN | apply below_drew1) | exact HB.out))); rintro e w37 ⟨rfl, hb⟩; have n0_ := Aside0.mk (below_step (by repeat (first | (with_reducible first | exact HB.out | apply below_alloc | apply pw_below_drewN | apply below_drew1) | exact HB.out)) hb); clear HB; have HB := n0_; clear n0_; (try clear hb); (try clear hb2); (try clear hk); (try clear hi)) | (go_at_call 12; (with_reducible refine (tapearchivelaw19_awake.calls kj3  t392 _ ?side1 A33.out).mono ?_); (case side1 => exact Go.Proofs.YtlcgepmacgbciaaDoorX.Glob.below hG (by repeat (first | (with_reducible first | exact HB.out | apply below_alloc | apply pw_below_drewN | apply below_drew1) | exact HB.out))); rintro e w38 ⟨rfl, hb⟩; have n0_ := Aside0.mk (below_step (by repeat (first | (with_reducible first | exact HB.out | apply below_alloc | apply pw_below_drewN | apply below_drew1) | exact HB.out)) hb); clear HB; have HB := n0_; clear n0_; (try clear hb); (try clear hb2); (try clear hk); (try clear hi)))
                go_ret
                exact ⟨by first | rfl | (simp [errW_none, errW_some] <;> rfl) | (simp [*, errW_none, errW_some] <;> rfl), by repeat (first | (with_reducible first | exact HB.out | apply below_alloc | apply pw_below_drewN | apply below_drew1) | exact HB.out)⟩
              · replace c32 := Bool.eq_false_iff.mpr c32
                subst c32
                have H1 : (some false) = some r := by rw [if_neg (show ¬ (false = true) by decide)] at H; exact H
                clear H
                have H := H1
                clear H1
                obtain rfl := Option.some.inj H
                go_wp2_with (first | ((with_reducible refine gate_callee (f := 26) rfl ?_); refine goesL_ (some 41) rfl rfl Tryd.func26 (by kernel_rfl) rfl #[.string a0, .string a1] rfl (by (try simp only [List.map_toArray, List.map_cons, List.map_nil]); first | done | rfl | (simp only [List.length_drop, List.length_take]; rfl)) ?_; (with_reducible refine (path_Less.calls kj3 a0 a1 true _ ?side1 A25.out).mono ?_); (case side1 => exact Go.Proofs.YtlcgepmacgbciaaDoorX.Glob.below hG (by repeat (first | (with_reducible first | exact HB.out | apply below_alloc | apply pw_below_drewN | apply below_drew1) | exact HB.out))); rintro e w39 ⟨rfl, hb⟩; refine ⟨_, rfl, ?_⟩; have n0_ := Aside0.mk (below_step (by repeat (first | (with_reducible first | exact HB.out | apply below_alloc | apply pw_below_drewN | apply below_drew1) | exact HB.out)) hb); clear HB; have HB := n0_; clear n0_; (try clear hb); (try clear hb2); (try clear hk); (try clear hi)) | (go_at_call 26; (with_reducible refine (path_Less.calls kj3 a1 a2 true _ ?side1 A27.out).mono ?_); (case side1 => exact Go.Proofs.YtlcgepmacgbciaaDoorX.Glob.below hG (by repeat (first | (with_reducible first | exact HB.out | apply below_alloc | apply pw_below_drewN | apply below_drew1) | exact HB.out))); rintro e w40 ⟨rfl, hb⟩; have n0_ := Aside0.mk (below_step (by repeat (first | (with_reducible first | exact HB.out | apply below_alloc | apply pw_below_drewN | apply below_drew1) | exact HB.out)) hb); clear HB; have HB := n0_; clear n0_; (try clear hb); (try clear hb2); (try clear hk); (try clear hi)) | (go_at_call 21; (with_reducible refine (path_Under.calls kj3 a2 a0 true _ ?side1 A29.out).mono ?_); (case side1 => exact Go.Proofs.YtlcgepmacgbciaaDoorX.Glob.below hG (by repeat (first | (with_reducible first | exact HB.out | apply below_alloc | apply pw_below_drewN | apply below_drew1) | exact HB.out))); rintro e w41 ⟨rfl, hb⟩; have n0_ := Aside0.mk (below_step (by repeat (first | (with_reducible first | exact HB.out | apply below_alloc | apply pw_below_drewN | apply below_drew1) | exact HB.out)) hb); clear HB; have HB := n0_; clear n0_; (try clear hb); (try clear hb2); (try clear hk); (try clear hi)) | (go_at_call 21; (with_reducible refine (path_Under.calls kj3 a1 a0 false _ ?side1 A31.out).mono ?_); (case side1 => exact Go.Proofs.YtlcgepmacgbciaaDoorX.Glob.below hG (by repeat (first | (with_reducible first | exact HB.out | apply below_alloc | apply pw_below_drewN | apply below_drew1) | exact HB.out))); rintro e w42 ⟨rfl, hb⟩; have n0_ := Aside0.mk (below_step (by repeat (first | (with_reducible first | exact HB.out | apply below_alloc | apply pw_below_drewN | apply below_drew1) | exact HB.out)) hb); clear HB; have HB := n0_; clear n0_; (try clear hb); (try clear hb2); (try clear hk); (try clear hi)))
                go_ret
                exact ⟨by first | rfl | (simp [errW_none, errW_some] <;> rfl) | (simp [*, errW_none, errW_some] <;> rfl), by repeat (first | (with_reducible first | exact HB.out | apply below_alloc | apply pw_below_drewN | apply below_drew1) | exact HB.out)⟩
            · replace c30 := Bool.eq_false_iff.mpr c30
              subst c30
              have H1 : (some false) = some r := by rw [if_neg (show ¬ (false = true) by decide)] at H; exact H
              clear H
              have H := H1
              clear H1
              obtain rfl := Option.some.inj H
              go_wp2_with (first | ((with_reducible refine gate_callee (f := 26) rfl ?_); refine goesL_ (some 41) rfl rfl Tryd.func26 (by kernel_rfl) rfl #[.string a0, .string a1] rfl (by (try simp only [List.map_toArray, List.map_cons, List.map_nil]); first | done | rfl | (simp only [List.length_drop, List.length_take]; rfl)) ?_; (with_reducible refine (path_Less.calls kj3 a0 a1 true _ ?side1 A25.out).mono ?_); (case side1 => exact Go.Proofs.YtlcgepmacgbciaaDoorX.Glob.below hG (by repeat (first | (with_reducible first | exact HB.out | apply below_alloc | apply pw_below_drewN | apply below_drew1) | exact HB.out))); rintro e w43 ⟨rfl, hb⟩; refine ⟨_, rfl, ?_⟩; have n0_ := Aside0.mk (below_step (by repeat (first | (with_reducible first | exact HB.out | apply below_alloc | apply pw_below_drewN | apply below_drew1) | exact HB.out)) hb); clear HB; have HB := n0_; clear n0_; (try clear hb); (try clear hb2); (try clear hk); (try clear hi)) | (go_at_call 26; (with_reducible refine (path_Less.calls kj3 a1 a2 true _ ?side1 A27.out).mono ?_); (case side1 => exact Go.Proofs.YtlcgepmacgbciaaDoorX.Glob.below hG (by repeat (first | (with_reducible first | exact HB.out | apply below_alloc | apply pw_below_drewN | apply below_drew1) | exact HB.out))); rintro e w44 ⟨rfl, hb⟩; have n0_ := Aside0.mk (below_step (by repeat (first | (with_reducible first | exact HB.out | apply below_alloc | apply pw_below_drewN | apply below_drew1) | exact HB.out)) hb); clear HB; have HB := n0_; clear n0_; (try clear hb); (try clear hb2); (try clear hk); (try clear hi)) | (go_at_call 21; (with_reducible refine (path_Under.calls kj3 a2 a0 false _ ?side1 A29.out).mono ?_); (case side1 => exact Go.Proofs.YtlcgepmacgbciaaDoorX.Glob.below hG (by repeat (first | (with_reducible first | exact HB.out | apply below_alloc | apply pw_below_drewN | apply below_drew1) | exact HB.out))); rintro e w45 ⟨rfl, hb⟩; have n0_ := Aside0.mk (below_step (by repeat (first | (with_reducible first | exact HB.out | apply below_alloc | apply pw_below_drewN | apply below_drew1) | exact HB.out)) hb); clear HB; have HB := n0_; clear n0_; (try clear hb); (try clear hb2); (try clear hk); (try clear hi)))
              go_ret
              exact ⟨by first | rfl | (simp [errW_none, errW_some] <;> rfl) | (simp [*, errW_none, errW_some] <;> rfl), by repeat (first | (with_reducible first | exact HB.out | apply below_alloc | apply pw_below_drewN | apply below_drew1) | exact HB.out)⟩
          · replace c28 := Bool.eq_false_iff.mpr c28
            subst c28
            have H1 : (some false) = some r := by rw [if_neg (show ¬ (false = true) by decide)] at H; exact H
            clear H
            have H := H1
            clear H1
            obtain rfl := Option.some.inj H
            go_wp2_with (first | ((with_reducible refine gate_callee (f := 26) rfl ?_); refine goesL_ (some 41) rfl rfl Tryd.func26 (by kernel_rfl) rfl #[.string a0, .string a1] rfl (by (try simp only [List.map_toArray, List.map_cons, List.map_nil]); first | done | rfl | (simp only [List.length_drop, List.length_take]; rfl)) ?_; (with_reducible refine (path_Less.calls kj3 a0 a1 true _ ?side1 A25.out).mono ?_); (case side1 => exact Go.Proofs.YtlcgepmacgbciaaDoorX.Glob.below hG (by repeat (first | (with_reducible first | exact HB.out | apply below_alloc | apply pw_below_drewN | apply below_drew1) | exact HB.out))); rintro e w46 ⟨rfl, hb⟩; refine ⟨_, rfl, ?_⟩; have n0_ := Aside0.mk (below_step (by repeat (first | (with_reducible first | exact HB.out | apply below_alloc | apply pw_below_drewN | apply below_drew1) | exact HB.out)) hb); clear HB; have HB := n0_; clear n0_; (try clear hb); (try clear hb2); (try clear hk); (try clear hi)) | (go_at_call 26; (with_reducible refine (path_Less.calls kj3 a1 a2 false _ ?side1 A27.out).mono ?_); (case side1 => exact Go.Proofs.YtlcgepmacgbciaaDoorX.Glob.below hG (by repeat (first | (with_reducible first | exact HB.out | apply below_alloc | apply pw_below_drewN | apply below_drew1) | exact HB.out))); rintro e w47 ⟨rfl, hb⟩; have n0_ := Aside0.mk (below_step (by repeat (first | (with_reducible first | exact HB.out | apply below_alloc | apply pw_below_drewN | apply below_drew1) | exact HB.out)) hb); clear HB; have HB := n0_; clear n0_; (try clear hb); (try clear hb2); (try clear hk); (try clear hi)))
            go_ret
            exact ⟨by first | rfl | (simp [errW_none, errW_some] <;> rfl) | (simp [*, errW_none, errW_some] <;> rfl), by repeat (first | (with_reducible first | exact HB.out | apply below_alloc | apply pw_below_drewN | apply below_drew1) | exact HB.out)⟩
        · replace c26 := Bool.eq_false_iff.mpr c26
          subst c26
          have H1 : (some false) = some r := by rw [if_neg (show ¬ (false = true) by decide)] at H; exact H
          clear H
          have H := H1
          clear H1
          obtain rfl := Option.some.inj H
          go_wp2_with (first | ((with_reducible refine gate_callee (f := 26) rfl ?_); refine goesL_ (some 41) rfl rfl Tryd.func26 (by kernel_rfl) rfl #[.string a0, .string a1] rfl (by (try simp only [List.map_toArray, List.map_cons, List.map_nil]); first | done | rfl | (simp only [List.length_drop, List.length_take]; rfl)) ?_; (with_reducible refine (path_Less.calls kj3 a0 a1 false _ ?side1 A25.out).mono ?_); (case side1 => exact Go.Proofs.YtlcgepmacgbciaaDoorX.Glob.below hG (by repeat (first | (with_reducible first | exact HB.out | apply below_alloc | apply pw_below_drewN | apply below_drew1) | exact HB.out))); rintro e w48 ⟨rfl, hb⟩; refine ⟨_, rfl, ?_⟩; have n0_ := Aside0.mk (below_step (by repeat (first | (with_reducible first | exact HB.out | apply below_alloc | apply pw_below_drewN | apply below_drew1) | exact HB.out)) hb); clear HB; have HB := n0_; clear n0_; (try clear hb); (try clear hb2); (try clear hk); (try clear hi)))
          go_ret
          exact ⟨by first | rfl | (simp [errW_none, errW_some] <;> rfl) | (simp [*, errW_none, errW_some] <;> rfl), by repeat (first | (with_reducible first | exact HB.out | apply below_alloc | apply pw_below_drewN | apply below_drew1) | exact HB.out)⟩
end Go.Proofs.YtlcgepmacgbciaaDoor.Q
end
section
namespace Go.Proofs.YtlcgepmacgbciaaDoor.SPathBlocks
open Go.RowKit Go.Proofs.YtlcgepmacgbciaaDoor.Q Go.Proofs.YtlcgepmacgbciaaDoorW.PrintWords Go.Proofs.YtlcgepmacgbciaaDoorW.PrintLast Go.Proofs.YtlcgepmacgbciaaDoorW.Opens Go.Proofs.YtlcgepmacgbciaaDoorW
set_option linter.unusedVariables false
def Pure : Prop := ∀ (x0 : ByteArray) (x1 : ByteArray) (x2 : ByteArray), x0.size ≤ 140737488351232 → x1.size ≤ 140737488351232 → x2.size ≤ 140737488351232 → ∃ k, tapearchivelaw19_PathBlocks.f k x0 x1 x2 = some true
end Go.Proofs.YtlcgepmacgbciaaDoor.SPathBlocks
end
section
namespace Go.Proofs.YtlcgepmacgbciaaDoor.Pth
variable {α β : Type} (st : α → Bool) (mt : α → β → Bool)
def glob : List α → List β → Bool
  | [], l => l.isEmpty
  | c :: p, l => if st c = true then (List.range (l.length + 1)).any fun i => glob p (l.drop i) else match l with
    | [] => false
    | x :: r => mt c x && glob p r
def lit (p : List α) (l : List β) : Prop := p.length = l.length ∧ (∀ c ∈ p, st c = false) ∧ ∀ (i : Nat) (h : i < p.length) (h' : i < l.length), mt p[i] l[i] = true
end Go.Proofs.YtlcgepmacgbciaaDoor.Pth
end
section
namespace Go.Proofs.YtlcgepmacgbciaaDoor.Pth
open Go.RowKit Go.Proofs.YtlcgepmacgbciaaDoorW.PrintWords Go.Proofs.YtlcgepmacgbciaaDoorW.EvMore
abbrev B := List UInt8
def mk (l : B) : ByteArray := ⟨l.toArray⟩
theorem bs_of_mk (l : B) : bs (mk l) = l := rfl
theorem mk_size (l : B) : (mk l).size = l.length := rfl
theorem mk_toList (l : B) : (mk l).toList = l := toList_bs _
theorem mk_inj {l m : B} (h : mk l = mk m) : l = m := congrArg bs h
theorem map_mk_inj : ∀ {l m : List B}, l.map mk = m.map mk → l = m
  | [], [], _ => rfl
  | [], _ :: _, h => by simp at h
  | _ :: _, [], h => by simp at h
  | a :: l, b :: m, h => by
    simp only [List.map_cons, List.cons.injEq] at h
    rw [mk_inj h.1, map_mk_inj h.2]
def pmtN (pat : Bool) (n : Nat) : Bool :=
  (decide (97 ≤ n) && decide (n ≤ 122)) || (decide (65 ≤ n) && decide (n ≤ 90)) || (decide (48 ≤ n) && decide (n ≤ 57)) || decide (n = 46) || decide (n = 95) || decide (n = 45) || (pat && (decide (n = 42) || decide (n = 63)))
def pmt (pat : Bool) (c : UInt8) : Bool := pmtN pat c.toNat
def nm (pat : Bool) (l : B) : Bool := !(l == []) && !(l == [46]) && !(l == [46, 46]) && l.all (pmt pat)
def pieces : B → List B
  | [] => [[]]
  | c :: r => if c = 47 then [] :: pieces r else match pieces r with
    | [] => [[c]]
    | p :: ps => (c :: p) :: ps
def parseS (pat : Bool) (l : B) : List B × Int :=
  if 200 < l.length then ([], 6)
  else match l with
    | [] => ([], 1)
    | c :: r => if c = 47 then
        if (pieces r).all (nm pat) = true then (if (pieces r).any (fun x => decide (24 < x.length)) = true ∨ 8 < (pieces r).length then ([], 6) else (pieces r, 0)) else ([], 1)
      else ([], 1)
def outS (p : List B × Int) : List ByteArray × Int := (p.1.map mk, p.2)
def cat (l : List B) : B := (l.map fun x => 47 :: x).flatten
theorem pieces_ne : ∀ l : B, pieces l ≠ []
  | [] => by simp [pieces]
  | c :: r => by
    unfold pieces
    split
    · simp
    · split <;> simp
theorem pieces_no : ∀ {l : B}, 47 ∉ l → pieces l = [l]
  | [], _ => rfl
  | c :: r, h => by
    have h1 : c ≠ 47 := fun e => h (by simp [e])
    have h2 := pieces_no (l := r) fun e => h (by simp [e])
    unfold pieces
    rw [if_neg h1, h2]
theorem pieces_cut : ∀ {a b : B}, 47 ∉ a → pieces (a ++ 47 :: b) = a :: pieces b
  | [], b, _ => by simp [pieces]
  | c :: r, b, h => by
    have h1 : c ≠ 47 := fun e => h (by simp [e])
    have h2 := pieces_cut (a := r) (b := b) fun e => h (by simp [e])
    rw [List.cons_append]
    conv => lhs; unfold pieces
    rw [if_neg h1, h2]
theorem pieces_pre : ∀ {a b : B}, 47 ∉ a → ∃ p ps, pieces b = p :: ps ∧ pieces (a ++ b) = (a ++ p) :: ps
  | [], b, _ => by
    cases h : pieces b with
    | nil => exact absurd h (pieces_ne b)
    | cons p ps => exact ⟨p, ps, rfl, by simpa using h⟩
  | c :: r, b, h => by
    have h1 : c ≠ 47 := fun e => h (by simp [e])
    obtain ⟨p, ps, h2, h3⟩ := pieces_pre (a := r) (b := b) fun e => h (by simp [e])
    refine ⟨p, ps, h2, ?_⟩
    rw [List.cons_append]
    conv => lhs; unfold pieces
    rw [if_neg h1, h3]
    rfl
theorem cut_cases (l : B) : 47 ∉ l ∨ ∃ a b, l = a ++ 47 :: b ∧ 47 ∉ a := by
  induction l with
  | nil => left; simp
  | cons c r ih =>
    by_cases hc : c = 47
    · right; exact ⟨[], r, by simp [hc], by simp⟩
    · rcases ih with h | ⟨a, b, h1, h2⟩
      · left; simp [h]; exact fun e => hc e.symm
      · right; exact ⟨c :: a, b, by simp [h1], by simp [h2]; exact fun e => hc e.symm⟩
theorem pieces_len : ∀ l : B, (pieces l).length ≤ l.length + 1
  | [] => by simp [pieces]
  | c :: r => by
    have ih := pieces_len r
    unfold pieces
    split
    · simp; omega
    · split
      · simp
      · rename_i p ps h; rw [h] at ih; simp at ih ⊢; omega
theorem parseS_ok {pat : Bool} {l : B} (h : (parseS pat l).2 = 0) : ∃ r, l = 47 :: r ∧ l.length ≤ 200 ∧ (parseS pat l).1 = pieces r ∧ (pieces r).all (nm pat) = true ∧ (∀ x ∈ pieces r, x.length ≤ 24) ∧ (pieces r).length ≤ 8 := by
  unfold parseS at h ⊢
  split at h
  · simp at h
  rename_i h200
  rw [if_neg h200]
  split at h
  · simp at h
  · rename_i c r
    split at h
    · rename_i hc
      split at h
      · rename_i ha
        split at h
        · simp at h
        · rename_i hb
          rw [not_or] at hb
          refine ⟨r, by rw [hc], by omega, ?_, ha, ?_, by omega⟩
          · simp only [if_pos hc, if_pos ha]
            rw [if_neg (by rw [not_or]; exact hb)]
          · intro x hx
            have := hb.1
            simp at this
            exact this x hx
      · simp at h
    · simp at h
theorem pmt_mono {c : UInt8} (h : pmt false c = true) : pmt true c = true := by
  unfold pmt pmtN at h ⊢
  simp only [Bool.false_and, Bool.or_false] at h
  rw [h]; simp
def underS (a b : B) : Bool := decide ((parseS false a).2 = 0) && (decide (b = [47]) || (decide ((parseS false b).2 = 0) && (parseS false b).1.isPrefixOf (parseS false a).1))
def lessL : List B → List B → Bool
  | [], [] => false
  | [], _ :: _ => true
  | _ :: _, [] => false
  | a :: l, b :: m => if a = b then lessL l m else Op.bytesLess a b
def lessS (a b : B) : Bool := decide ((parseS false a).2 = 0) && (decide ((parseS false b).2 = 0) && lessL (parseS false a).1 (parseS false b).1)
end Go.Proofs.YtlcgepmacgbciaaDoor.Pth
end
section
namespace Go.Proofs.YtlcgepmacgbciaaDoor.Q
open Go.RowKit Go.Proofs.YtlcgepmacgbciaaDoorW.PrintWords Go.Proofs.YtlcgepmacgbciaaDoorW.PrintLast Go.Proofs.YtlcgepmacgbciaaDoorW.PrintMore
attribute [local go_sem] max2_int min2_int max_two min_two max_three min_three max_four min_four
attribute [local go_sem ↓] isSome_setCell
attribute [local go_sem] string_gtr
set_option linter.unusedVariables false
set_option linter.unusedSimpArgs false
end Go.Proofs.YtlcgepmacgbciaaDoor.Q
end
section
namespace Go.Proofs.YtlcgepmacgbciaaDoor.Q
open Go.RowKit Go.Proofs.YtlcgepmacgbciaaDoorW.PrintWords Go.Proofs.YtlcgepmacgbciaaDoorW.PrintLast Go.Proofs.YtlcgepmacgbciaaDoorW.PrintMore
attribute [local go_sem] max2_int min2_int max_two min_two max_three min_three max_four min_four
attribute [local go_sem ↓] isSome_setCell
attribute [local go_sem] string_gtr
set_option linter.unusedVariables false
set_option linter.unusedSimpArgs false
end Go.Proofs.YtlcgepmacgbciaaDoor.Q
end
section
namespace Go.Proofs.YtlcgepmacgbciaaDoor.Q
open Go.RowKit Go.Proofs.YtlcgepmacgbciaaDoorW.PrintWords Go.Proofs.YtlcgepmacgbciaaDoorW.PrintLast Go.Proofs.YtlcgepmacgbciaaDoorW.PrintMore
attribute [local go_sem] max2_int min2_int max_two min_two max_three min_three max_four min_four
attribute [local go_sem ↓] isSome_setCell
attribute [local go_sem] string_gtr
set_option linter.unusedVariables false
set_option linter.unusedSimpArgs false
end Go.Proofs.YtlcgepmacgbciaaDoor.Q
end
section
namespace Go.Proofs.YtlcgepmacgbciaaDoor.Q
open Go.RowKit Go.Proofs.YtlcgepmacgbciaaDoorW.PrintWords Go.Proofs.YtlcgepmacgbciaaDoorW.PrintLast Go.Proofs.YtlcgepmacgbciaaDoorW.PrintMore
attribute [local go_sem] max2_int min2_int max_two min_two max_three min_three max_four min_four
attribute [local go_sem ↓] isSome_setCell
attribute [local go_sem] string_gtr
set_option linter.unusedVariables false
set_option linter.unusedSimpArgs false
end Go.Proofs.YtlcgepmacgbciaaDoor.Q
end
section
namespace Go.Proofs.YtlcgepmacgbciaaDoor.Pth
open Go.RowKit Go.Proofs.YtlcgepmacgbciaaDoor.Q Go.Proofs.YtlcgepmacgbciaaDoorW.PrintWords Go.Proofs.YtlcgepmacgbciaaDoorW.PrintMore Go.Proofs.YtlcgepmacgbciaaDoorW.EvMore
theorem permitted_ev (c : UInt8) (pat : Bool) : Ev (fun k => path_permitted.f k (c.toNat : Int) pat) (pmt pat c) := by
  refine Ev.of (fun k => path_permitted.mono _ _ k) (k := 3) ?_
  have key : ∀ n : Fin 256, ∀ pat : Bool, path_permitted.f 3 (n.val : Int) pat = some (pmtN pat n.val) := by decide +kernel
  exact key ⟨c.toNat, c.toNat_lt⟩ pat
theorem plain_f (c : UInt8) : tapearchiveref19_plain.f (c.toNat : Int) = some (pmt false c) := by
  have key : ∀ n : Fin 256, tapearchiveref19_plain.f (n.val : Int) = some (pmtN false n.val) := by decide +kernel
  exact key ⟨c.toNat, c.toNat_lt⟩
theorem name_loop (s : ByteArray) (pat : Bool) (hs : s.size ≤ 4611686018427387904) : ∀ (d i : Nat), i + d = s.size → Ev (fun k => path_name.l0 k s pat (s.size : Int) (i : Int)) (((bs s).drop i).all (pmt pat)) := by
  intro d
  induction d with
  | zero =>
    intro i hi
    refine Ev.next (fun k => by rw [path_name.l0]) ?_
    refine Ev.neg (by omega) ?_
    rw [List.drop_of_length_le (by rw [bs_length]; omega)]
    exact Ev.done fun _ => rfl
  | succ d ih =>
    intro i hi
    have hl : i < (bs s).length := by rw [bs_length]; omega
    refine Ev.next (fun k => by rw [path_name.l0]) ?_
    refine Ev.pos (by omega) (Ev.pos (by omega) (Ev.pos (by omega) ?_))
    rw [bt_get s i _ (List.getElem?_eq_getElem hl), List.drop_eq_getElem_cons hl, List.all_cons]
    refine Ev.both (permitted_ev _ pat) ?_
    have ih := ih (i + 1) (by omega)
    cases h : pmt pat (bs s)[i] with
    | true =>
      refine Ev.pos rfl ?_
      rw [wrap_in (by omega) (by omega), show (i : Int) + 1 = ((i + 1 : Nat) : Int) from rfl, Bool.true_and]
      exact ih
    | false => exact Ev.neg (by simp) (Ev.done fun _ => rfl)
theorem name_ev (s : ByteArray) (pat : Bool) (hs : s.size ≤ 4611686018427387904) : Ev (fun k => path_name.f k s pat) (nm pat (bs s)) := by
  have hall := name_loop s pat hs s.size 0 (by omega)
  rw [List.drop_zero] at hall
  unfold path_name.f nm
  rw [toList_bs]
  have bad : Ev (fun k => path_name.j0 k s pat true) false := Ev.next (fun k => by rw [path_name.j0]) (Ev.pos rfl (Ev.done fun _ => rfl))
  by_cases h0 : bs s = []
  · refine Ev.pos h0 ?_
    rw [h0]
    exact bad
  refine Ev.neg h0 ?_
  by_cases h1 : bs s = [46]
  · refine Ev.pos h1 ?_
    rw [h1]
    exact bad
  refine Ev.neg h1 ?_
  rw [beq_false_of_ne h0, beq_false_of_ne h1]
  cases h2 : bs s == [46, 46] with
  | true => exact bad
  | false => exact Ev.next (fun k => by rw [path_name.j0]) (Ev.neg (by simp) (by simpa using hall))
theorem occ_one (c : UInt8) (l : B) (h : c ∉ l) : Lib.indexByte l c = -1 := by
  have hg := Lib.indexByte_ge l c
  by_cases h1 : Lib.indexByte l c = -1
  · exact h1
  · obtain ⟨o, ho⟩ : ∃ o : Nat, Lib.indexByte l c = o := ⟨(Lib.indexByte l c).toNat, by omega⟩
    exact absurd (List.mem_of_getElem? (Lib.indexByte_some ho).1) h
theorem cut_none {l : B} (h : 47 ∉ l) : Lib.cut l [47] = (l, [], false) := by
  unfold Lib.cut
  rw [Lib.index_one, occ_one 47 l h]
  rfl
theorem cut_some {a b : B} (h : 47 ∉ a) : Lib.cut (a ++ 47 :: b) [47] = (a, b, true) := by
  have e : Lib.indexByte (a ++ 47 :: b) 47 = (a.length : Int) := by
    cases ho : Lib.indexByte (a ++ 47 :: b) 47 with
    | ofNat o =>
      obtain ⟨h1, h2⟩ := Lib.indexByte_some (o := o) ho
      by_cases h3 : o < a.length
      · rw [List.getElem?_append_left h3] at h1
        exact absurd (List.mem_of_getElem? h1) h
      · by_cases h4 : a.length < o
        · exact absurd (by simp) (h2 a.length h4)
        · show (o : Int) = _
          omega
    | negSucc n =>
      have hg := Lib.indexByte_ge (a ++ 47 :: b) 47
      have e : Lib.indexByte (a ++ 47 :: b) 47 = -1 := by rw [ho] at hg ⊢; omega
      exact absurd (by simp) (Lib.indexByte_none e a.length)
  unfold Lib.cut
  rw [Lib.index_one, e, if_pos (by omega)]
  simp
def finS (pat : Bool) (l : B) (names : List ByteArray) (long : Bool) : List ByteArray × Int :=
  if (pieces l).all (nm pat) = true then (if long = true ∨ (pieces l).any (fun x => decide (24 < x.length)) = true ∨ 8 < names.length + (pieces l).length then ([], 6) else (names ++ (pieces l).map mk, 0)) else ([], 1)
theorem parse_loop (pat : Bool) : ∀ (n : Nat) (s : ByteArray) (names : List ByteArray) (long : Bool), s.size ≤ n → s.size + names.length ≤ 2000000000 → Ev (fun k => path_parse.l0 k pat s names long) (finS pat (bs s) names long) := by
  intro n
  induction n with
  | zero =>
    intro s names long h0 hs
    refine Ev.next (fun k => by rw [path_parse.l0]) ?_
    have hb : bs s = [] := List.length_eq_zero_iff.1 (by rw [bs_length]; omega)
    have hc : strings_Cut.f s ⟨#[47]⟩ = some (mk [], mk [], false) := by
      unfold strings_Cut.f
      rw [if_pos (by omega), show s.data.toList = bs s from rfl, hb]
      rfl
    refine Ev.bindS hc (Ev.both (name_ev (mk []) pat (by rw [mk_size]; simp)) (Ev.neg (by simp [bs_of_mk, nm]) (Ev.done fun _ => ?_)))
    unfold finS
    rw [if_neg]
    rw [hb]
    simp [pieces, nm]
  | succ n ih =>
    intro s names long h0 hs
    refine Ev.next (fun k => by rw [path_parse.l0]) ?_
    have fin1 : ∀ (a : B) (more : Bool) (b : B), bs s = (if more = true then a ++ 47 :: b else a) → strings_Cut.f s ⟨#[47]⟩ = some (mk a, mk b, more) → 47 ∉ a → Ev (fun k => (strings_Cut.f s ⟨#[47]⟩).bind fun bt104 => ((path_name.f k bt104.1 pat).bind fun t107 => (if t107 = true then (if (bt104.1.size : Int) > 24 then (if names.length < 8796093022208 then (if bt104.2.2 = true then (path_parse.l0 k pat bt104.2.1 (names ++ [bt104.1]) true) else (some (([] : List ByteArray), (6 : Int)))) else (none)) else (if names.length < 8796093022208 then ((some (names ++ [bt104.1] : List ByteArray)).bind fun y111 => (if bt104.2.2 = true then (path_parse.l0 k pat bt104.2.1 y111 long) else (if long = true then (some (([] : List ByteArray), (6 : Int))) else (if (y111.length : Int) > 8 then (some (([] : List ByteArray), (6 : Int))) else (some (y111, (0 : Int))))))) else (none))) else (some (([] : List ByteArray), (1 : Int)))))) (finS pat (bs s) names long) := by
      intro a more b hbs hcut ha
      have hlen : (bs s).length = s.size := bs_length s
      have hal : a.length ≤ s.size := by
        rw [hbs] at hlen
        split at hlen
        · simp at hlen; omega
        · omega
      refine Ev.bindS hcut (Ev.both (name_ev (mk a) pat (by rw [mk_size]; omega)) ?_)
      rw [bs_of_mk]
      have hP : pieces (bs s) = if more = true then a :: pieces b else [a] := by
        rw [hbs]
        split
        · exact pieces_cut ha
        · exact pieces_no ha
      have hne := List.length_pos_iff.2 (pieces_ne b)
      unfold finS
      rw [hP]
      by_cases hn : nm pat a = true
      · refine Ev.pos hn ?_
        have rest : ∀ L : Bool, more = true → Ev (fun k => path_parse.l0 k pat (mk b) (names ++ [mk a]) L) (if (pieces b).all (nm pat) = true then (if L = true ∨ (pieces b).any (fun x => decide (24 < x.length)) = true ∨ 8 < names.length + 1 + (pieces b).length then ([], 6) else (names ++ (a :: pieces b).map mk, 0)) else ([], 1)) := by
          intro L hm
          have hbl : a.length + (b.length + 1) = s.size := by
            rw [hbs, if_pos hm] at hlen
            simpa using hlen
          have := ih (mk b) (names ++ [mk a]) L (by rw [mk_size]; omega) (by rw [mk_size, List.length_append, List.length_singleton]; omega)
          unfold finS at this
          rw [bs_of_mk, List.length_append, List.length_singleton, List.append_assoc, List.singleton_append] at this
          exact this
        by_cases h24 : 24 < a.length
        · refine Ev.pos (by rw [mk_size]; omega) (Ev.pos (by omega) ?_)
          cases hm : more with
          | true =>
            refine Ev.pos rfl ?_
            have := rest true hm
            simp only [true_or, if_true] at this ⊢
            simp only [List.all_cons, hn, Bool.true_and, List.any_cons, h24, decide_true, Bool.true_or, true_or, or_true, if_true]
            exact this
          | false =>
            refine Ev.neg (by simp) (Ev.done fun _ => ?_)
            simp [hn, h24]
        · refine Ev.neg (by rw [mk_size]; omega) (Ev.pos (by omega) (Ev.bindS rfl ?_))
          cases hm : more with
          | true =>
            refine Ev.pos rfl ?_
            have := rest long hm
            simp only [if_true, List.all_cons, hn, Bool.true_and, List.any_cons, h24, decide_false, Bool.false_or, List.length_cons] at this ⊢
            rw [show names.length + ((pieces b).length + 1) = names.length + 1 + (pieces b).length from by omega]
            exact this
          | false =>
            refine Ev.neg (by simp) ?_
            simp only [Bool.false_eq_true, if_false, List.all_cons, List.all_nil, Bool.and_true, hn, if_true, List.any_cons, List.any_nil, Bool.or_false, h24, decide_false, false_or, List.length_singleton, List.map_cons, List.map_nil]
            by_cases hL : long = true
            · refine Ev.pos hL (Ev.done fun _ => ?_)
              rw [if_pos (Or.inl hL)]
            · refine Ev.neg hL ?_
              by_cases h8 : 8 < names.length + 1
              · refine Ev.pos (by rw [List.length_append, List.length_singleton]; omega) (Ev.done fun _ => ?_)
                rw [if_pos (Or.inr h8)]
              · refine Ev.neg (by rw [List.length_append, List.length_singleton]; omega) (Ev.done fun _ => ?_)
                rw [if_neg (by rw [not_or]; exact ⟨hL, h8⟩)]
      · refine Ev.neg hn (Ev.done fun _ => ?_)
        rw [if_neg]
        cases more <;> simp [hn]
    rcases cut_cases (bs s) with h | ⟨a, b, h, ha⟩
    · refine fin1 (bs s) false [] (by simp) ?_ h
      unfold strings_Cut.f
      rw [if_pos (by omega), show s.data.toList = bs s from rfl, show (⟨#[47]⟩ : ByteArray).data.toList = [47] from rfl, cut_none h]
      rfl
    · refine fin1 a true b (by simpa using h) ?_ ha
      unfold strings_Cut.f
      rw [if_pos (by omega), show s.data.toList = bs s from rfl, show (⟨#[47]⟩ : ByteArray).data.toList = [47] from rfl, h, cut_some ha]
      rfl
theorem parse_ev (s : ByteArray) (pat : Bool) : Ev (fun k => path_parse.f k s pat) (outS (parseS pat (bs s))) := by
  unfold path_parse.f parseS
  rw [bs_length]
  by_cases h : 200 < s.size
  · refine Ev.pos (by omega) (Ev.done fun _ => ?_)
    rw [if_pos h]
    rfl
  refine Ev.neg (by omega) ?_
  rw [if_neg h]
  have hp : strings_CutPrefix.f s ⟨#[47]⟩ = some (match bs s with | [] => (mk [], false) | c :: r => if c = 47 then (mk r, true) else (mk (c :: r), false)) := by
    unfold strings_CutPrefix.f Lib.trimPrefix Lib.hasPrefix
    rw [show s.data.toList = bs s from rfl, show (⟨#[47]⟩ : ByteArray).data.toList = [47] from rfl]
    cases bs s with
    | nil => rfl
    | cons c r =>
      by_cases hc : c = 47
      · subst hc; simp [mk]
      · have hc2 : ((47 : UInt8) == c) = false := beq_false_of_ne fun e => hc e.symm
        simp [hc, mk, List.isPrefixOf]
        exact fun e => hc e.symm
  refine Ev.bindS hp ?_
  cases hs : bs s with
  | nil => exact Ev.neg (by simp) (Ev.done fun _ => rfl)
  | cons c r =>
    have hl : r.length + 1 = s.size := by rw [← bs_length s, hs]; rfl
    by_cases hc : c = 47
    · simp only [if_pos hc]
      refine Ev.pos trivial ?_
      have := parse_loop pat r.length (mk r) [] false (by rw [mk_size]; omega) (by rw [mk_size]; simp; omega)
      unfold finS at this
      rw [bs_of_mk] at this
      simp only [Bool.false_eq_true, false_or, List.length_nil, Nat.zero_add, List.nil_append] at this
      refine Ev.congr (fun k => rfl) ?_
      have e : outS (if (pieces r).all (nm pat) = true then (if (pieces r).any (fun x => decide (24 < x.length)) = true ∨ 8 < (pieces r).length then ([], 6) else (pieces r, 0)) else ([], 1)) = (if (pieces r).all (nm pat) = true then (if (pieces r).any (fun x => decide (24 < x.length)) = true ∨ 8 < (pieces r).length then ([], 6) else ((pieces r).map mk, 0)) else ([], 1)) := by
        split
        · split <;> rfl
        · rfl
      rw [e]
      exact this
    · simp only [if_neg hc]
      exact Ev.neg (by simp) (Ev.done fun _ => rfl)
theorem Parse_ev (s : ByteArray) : Ev (fun k => path_Parse.f k s) (outS (parseS false (bs s))) := by
  unfold path_Parse.f
  exact Ev.both (parse_ev s false) (Ev.done fun _ => rfl)
theorem bad_mid {pat : Bool} {cur : B} {c : UInt8} {r : B} (h : 47 ∉ cur) (hc : c ≠ 47) (hp : pmt pat c = false) : ¬ (pieces (cur ++ c :: r)).all (nm pat) = true := by
  have h2 : 47 ∉ cur ++ [c] := by simp [h]; exact fun e => hc e.symm
  obtain ⟨p, ps, h3, h4⟩ := pieces_pre (a := cur ++ [c]) (b := r) h2
  rw [List.append_assoc, List.singleton_append] at h4
  rw [h4, List.all_cons]
  intro h5
  rw [Bool.and_eq_true] at h5
  have h6 := h5.1
  unfold nm at h6
  rw [Bool.and_eq_true] at h6
  have := List.all_eq_true.1 h6.2 c (by simp)
  rw [hp] at this
  cases this
def refS (pat : Bool) (out : List ByteArray) (l : B) : List ByteArray × Bool := if (pieces l).all (nm pat) = true then (out ++ (pieces l).map mk, true) else ([], false)
theorem nm_of_all {pat : Bool} {l : B} (h : ∀ c ∈ l, pmt pat c = true) : nm pat l = (!(l == []) && !(l == [46]) && !(l == [46, 46])) := by
  unfold nm
  rw [List.all_eq_true.2 h, Bool.and_true]
theorem names_loop (s : ByteArray) (pat : Bool) (hs : s.size ≤ 1000000000) : ∀ (d i from_ : Nat) (out : List ByteArray), i + d = s.size → from_ ≤ i → out.length ≤ i → 47 ∉ ((bs s).drop from_).take (i - from_) → (∀ c ∈ ((bs s).drop from_).take (i - from_), pmt pat c = true) →
    Ev (fun k => tapearchiveref19_names.l0 k s pat out (from_ : Int) (i : Int)) (refS pat out ((bs s).drop from_)) := by
  intro d
  induction d with
  | zero =>
    intro i from_ out hi hf ho h47 hall
    have e : ((bs s).drop from_).take (i - from_) = (bs s).drop from_ := List.take_of_length_le (by rw [List.length_drop, bs_length]; omega)
    rw [e] at h47 hall
    refine Ev.next (fun k => by rw [tapearchiveref19_names.l0]) ?_
    refine Ev.pos (by omega) (Ev.neg (by omega) (Ev.next (fun k => by rw [tapearchiveref19_names.j2]) ?_))
    have ee : (s.extract (from_ : Int).toNat (i : Int).toNat) = mk ((bs s).drop from_) := by
      apply bs_inj
      rw [bs_extract, Int.toNat_natCast, Int.toNat_natCast, e, bs_of_mk]
    refine Ev.neg (by simp) (Ev.pos (by omega) (Ev.pos (by omega) (Ev.pos (by omega) ?_)))
    rw [ee, mk_toList]
    unfold refS
    rw [pieces_no h47, List.all_cons, List.all_nil, Bool.and_true, nm_of_all hall]
    generalize (bs s).drop from_ = cur at *
    by_cases h1 : cur = []
    · exact Ev.pos h1 (Ev.done fun _ => by rw [if_neg (by simp [h1])])
    refine Ev.neg h1 ?_
    by_cases h2 : cur = [46]
    · exact Ev.pos h2 (Ev.done fun _ => by rw [if_neg (by simp [h2])])
    refine Ev.neg h2 ?_
    by_cases h3 : cur = [46, 46]
    · exact Ev.pos h3 (Ev.done fun _ => by rw [if_neg (by simp [h3])])
    refine Ev.neg h3 (Ev.pos (by omega) ?_)
    rw [if_pos (by simp [h1, h2, h3])]
    refine Ev.next (fun k => by rw [tapearchiveref19_names.l0]) ?_
    rw [wrap_in (by omega) (by omega)]
    exact Ev.neg (by omega) (Ev.done fun _ => rfl)
  | succ d ih =>
    intro i from_ out hi hf ho h47 hall
    have hl : i < (bs s).length := by rw [bs_length]; omega
    have hbt := bt_get s i _ (List.getElem?_eq_getElem hl)
    have hd : (bs s).drop i = (bs s)[i] :: (bs s).drop (i + 1) := List.drop_eq_getElem_cons hl
    have hsplit : (bs s).drop from_ = ((bs s).drop from_).take (i - from_) ++ (bs s)[i] :: (bs s).drop (i + 1) := by
      rw [← hd]
      conv => lhs; rw [← List.take_append_drop (i - from_) ((bs s).drop from_)]
      rw [List.drop_drop, show from_ + (i - from_) = i from by omega]
    have hsn : ((bs s).drop from_).take (i + 1 - from_) = ((bs s).drop from_).take (i - from_) ++ [(bs s)[i]] := by
      rw [show i + 1 - from_ = (i - from_) + 1 from by omega, List.take_succ_eq_append_getElem (by rw [List.length_drop]; omega)]
      congr 1
      rw [List.getElem_drop]
      congr 2
      omega
    have ih1 := ih (i + 1) from_ out (by omega) (by omega) (by omega)
    have ih2 := fun o => ih (i + 1) (i + 1) o (by omega) (by omega)
    rw [hsn] at ih1
    generalize (bs s)[i] = c at *
    refine Ev.next (fun k => by rw [tapearchiveref19_names.l0]) ?_
    refine Ev.pos (by omega) (Ev.pos (by omega) (Ev.pos (by omega) ?_))
    rw [hbt]
    refine Ev.next (fun k => by rw [tapearchiveref19_names.j2]) ?_
    have h47b : ((c.toNat : Int) != 47) = !(c == 47) := by
      rw [Bool.eq_iff_iff]
      simp only [bne_iff_ne, ne_eq, Bool.not_eq_true', beq_eq_false_iff_ne]
      constructor
      · intro h e; subst e; exact h rfl
      · intro h e; apply h; apply UInt8.toNat_inj.1; have : c.toNat = 47 := by omega
        rw [this]; rfl
    by_cases hc : c = 47
    · subst hc
      refine Ev.neg (by simp) (Ev.pos (by omega) (Ev.pos (by omega) (Ev.pos (by omega) ?_)))
      have ee : (s.extract (from_ : Int).toNat (i : Int).toNat) = mk (((bs s).drop from_).take (i - from_)) := by
        apply bs_inj
        rw [bs_extract, Int.toNat_natCast, Int.toNat_natCast, bs_of_mk]
      rw [ee, mk_toList]
      unfold refS
      have hP := pieces_cut (b := (bs s).drop (i + 1)) h47
      rw [← hsplit] at hP
      rw [hP, List.all_cons, nm_of_all hall]
      generalize ((bs s).drop from_).take (i - from_) = cur at *
      by_cases h1 : cur = []
      · exact Ev.pos h1 (Ev.done fun _ => by rw [if_neg (by simp [h1])])
      refine Ev.neg h1 ?_
      by_cases h2 : cur = [46]
      · exact Ev.pos h2 (Ev.done fun _ => by rw [if_neg (by simp [h2])])
      refine Ev.neg h2 ?_
      by_cases h3 : cur = [46, 46]
      · exact Ev.pos h3 (Ev.done fun _ => by rw [if_neg (by simp [h3])])
      refine Ev.neg h3 (Ev.pos (by omega) ?_)
      rw [wrap_in (by omega) (by omega), show (i : Int) + 1 = ((i + 1 : Nat) : Int) from rfl]
      have := ih2 (out ++ [mk cur]) (by simp; omega) (by simp) (by simp)
      unfold refS at this
      rw [beq_false_of_ne h1, beq_false_of_ne h2, beq_false_of_ne h3]
      simpa using this
    · rw [h47b, beq_false_of_ne hc]
      refine Ev.pos rfl (Ev.pos (by omega) (Ev.pos (by omega) ?_))
      have hg : pmt pat c = true → Ev (fun k => tapearchiveref19_names.j3 k s pat out (from_ : Int) (i : Int) false) (refS pat out ((bs s).drop from_)) := by
        intro hp
        refine Ev.next (fun k => by rw [tapearchiveref19_names.j3]) (Ev.neg (by simp) ?_)
        rw [wrap_in (by omega) (by omega), show (i : Int) + 1 = ((i + 1 : Nat) : Int) from rfl]
        refine ih1 (by simp only [List.mem_append, List.mem_singleton, not_or]; exact ⟨h47, fun e => hc e.symm⟩) ?_
        intro x hx
        rcases List.mem_append.1 hx with hx | hx
        · exact hall x hx
        · obtain rfl := List.mem_singleton.1 hx; exact hp
      have hbad : pmt pat c = false → Ev (fun k => tapearchiveref19_names.j3 k s pat out (from_ : Int) (i : Int) true) (refS pat out ((bs s).drop from_)) := by
        intro hp
        refine Ev.next (fun k => by rw [tapearchiveref19_names.j3]) (Ev.pos rfl (Ev.done fun _ => ?_))
        unfold refS
        rw [hsplit, if_neg (bad_mid h47 hc hp)]
      rw [hbt]
      refine Ev.bindS (plain_f c) ?_
      cases hp : pmt false c with
      | true =>
        refine Ev.pos rfl (hg ?_)
        cases pat
        · exact hp
        · exact pmt_mono hp
      | false =>
        refine Ev.neg (by simp) ?_
        have hpat : pmt true c = (pmt false c || (decide (c.toNat = 42) || decide (c.toNat = 63))) := by
          unfold pmt pmtN; simp
        rw [hp, Bool.false_or] at hpat
        cases pat with
        | true =>
          refine Ev.pos rfl ?_
          by_cases h42 : c.toNat = 42
          · refine Ev.pos (by omega) (hg (by rw [hpat]; simp [h42]))
          · refine Ev.neg (by omega) ?_
            by_cases h63 : c.toNat = 63
            · have e : ((c.toNat : Int) == 63) = true := by rw [beq_iff_eq]; omega
              rw [e]
              exact hg (by rw [hpat]; simp [h63])
            · have e : ((c.toNat : Int) == 63) = false := by rw [beq_eq_false_iff_ne]; omega
              rw [e]
              exact hbad (by rw [hpat]; simp [h42, h63])
        | false => exact Ev.neg (by simp) (hbad hp)
theorem names_ev (s : ByteArray) (pat : Bool) (hs : s.size ≤ 1000000000) : Ev (fun k => tapearchiveref19_names.f k s pat) (match bs s with | [] => ([], false) | c :: r => if c = 47 then refS pat [] r else ([], false)) := by
  unfold tapearchiveref19_names.f
  have bad : Ev (fun k => tapearchiveref19_names.j0 k s pat true) ([], false) := Ev.next (fun k => by rw [tapearchiveref19_names.j0]) (Ev.pos rfl (Ev.done fun _ => rfl))
  have hlen := bs_length s
  cases hb : bs s with
  | nil =>
    rw [hb] at hlen
    exact Ev.pos (by simp at hlen; omega) bad
  | cons c r =>
    have h0 : (bs s)[0]? = some c := by rw [hb]; rfl
    have hbt := bt_get s 0 c h0
    rw [hb] at hlen
    simp only [List.length_cons] at hlen
    refine Ev.neg (by omega) (Ev.pos (by omega) ?_)
    rw [show ((0 : Nat) : Int) = 0 from rfl] at hbt
    rw [hbt]
    by_cases hc : c = 47
    · simp only [if_pos hc]
      subst hc
      refine Ev.next (fun k => by rw [tapearchiveref19_names.j0]) (Ev.neg (by simp) ?_)
      have := names_loop s pat hs (s.size - 1) 1 1 [] (by omega) (Nat.le_refl _) (by simp) (by simp) (by simp)
      rw [hb, List.drop_one, List.tail_cons] at this
      exact this
    · simp only [if_neg hc]
      have e : ((c.toNat : Int) != 47) = true := by
        rw [bne_iff_ne]
        intro e
        apply hc
        apply UInt8.toNat_inj.1
        have : c.toNat = 47 := by omega
        rw [this]; rfl
      rw [e]
      exact bad
theorem rd_nat {l : List ByteArray} {i : Nat} (h : i < l.length) : rdOf ByteArray.empty l (i : Int) = l[i] := by
  unfold rdOf
  rw [Int.toNat_natCast, List.getD_eq_getElem?_getD, List.getElem?_eq_getElem h]
  rfl
theorem limits_ev (l : List ByteArray) (hl : l.length ≤ 4611686018427387904) : Ev (fun k => tapearchiveref19_limits.f k l) (if l.any (fun x => decide (24 < x.size)) = true ∨ 8 < l.length then 6 else 0) := by
  unfold tapearchiveref19_limits.f
  have go : ∀ (d i : Nat), i + d = l.length → Ev (fun k => tapearchiveref19_limits.l0 k l (i : Int)) (if (l.drop i).any (fun x => decide (24 < x.size)) = true ∨ 8 < l.length then 6 else 0) := by
    intro d
    induction d with
    | zero =>
      intro i hi
      refine Ev.next (fun k => by rw [tapearchiveref19_limits.l0]) (Ev.neg (by omega) ?_)
      rw [List.drop_of_length_le (by omega)]
      simp only [List.any_nil, Bool.false_eq_true, false_or]
      by_cases h : 8 < l.length
      · exact Ev.pos (by omega) (Ev.done fun _ => by rw [if_pos h])
      · exact Ev.neg (by omega) (Ev.done fun _ => by rw [if_neg h])
    | succ d ih =>
      intro i hi
      have hlt : i < l.length := by omega
      refine Ev.next (fun k => by rw [tapearchiveref19_limits.l0]) (Ev.pos (by omega) (Ev.pos (by omega) ?_))
      rw [rd_nat hlt, List.drop_eq_getElem_cons hlt, List.any_cons]
      by_cases h : 24 < l[i].size
      · exact Ev.pos (by omega) (Ev.done fun _ => by rw [if_pos]; simp [h])
      · refine Ev.neg (by omega) ?_
        rw [wrap_in (by omega) (by omega), show (i : Int) + 1 = ((i + 1 : Nat) : Int) from rfl]
        simp only [h, decide_false, Bool.false_or]
        exact ih (i + 1) (by omega)
  have := go l.length 0 (by omega)
  rw [List.drop_zero] at this
  exact this
theorem rparse_ev (s : ByteArray) (pat : Bool) : Ev (fun k => tapearchiveref19_parse.f k s pat) (outS (parseS pat (bs s))) := by
  unfold tapearchiveref19_parse.f parseS
  rw [bs_length]
  by_cases h : 200 < s.size
  · refine Ev.pos (by omega) (Ev.done fun _ => ?_)
    rw [if_pos h]
    rfl
  refine Ev.neg (by omega) ?_
  rw [if_neg h]
  refine Ev.both (names_ev s pat (by omega)) ?_
  have hlen := bs_length s
  cases hs : bs s with
  | nil => exact Ev.neg (by simp) (Ev.done fun _ => rfl)
  | cons c r =>
    rw [hs] at hlen
    simp only [List.length_cons] at hlen
    by_cases hc : c = 47
    · simp only [if_pos hc]
      unfold refS
      by_cases ha : (pieces r).all (nm pat) = true
      · rw [if_pos ha, if_pos ha]
        have hpl := pieces_len r
        refine Ev.pos rfl (Ev.both (limits_ev _ (by simp; omega)) ?_)
        have e : (((([] : List ByteArray) ++ (pieces r).map mk)).any (fun x => decide (24 < x.size)) = true ∨ 8 < (([] : List ByteArray) ++ (pieces r).map mk).length) ↔ ((pieces r).any (fun x => decide (24 < x.length)) = true ∨ 8 < (pieces r).length) := by
          rw [List.nil_append, List.any_map, List.length_map]
          exact Iff.rfl
        by_cases hb : (pieces r).any (fun x => decide (24 < x.length)) = true ∨ 8 < (pieces r).length
        · rw [if_pos hb, if_pos (e.2 hb)]
          exact Ev.neg (by simp) (Ev.done fun _ => rfl)
        · rw [if_neg hb, if_neg (fun x => hb (e.1 x))]
          exact Ev.pos rfl (Ev.done fun _ => rfl)
      · rw [if_neg ha, if_neg ha]
        exact Ev.neg (by simp) (Ev.done fun _ => rfl)
    · simp only [if_neg hc]
      exact Ev.neg (by simp) (Ev.done fun _ => rfl)
theorem rParse_ev (s : ByteArray) : Ev (fun k => tapearchiveref19_Parse.f k s) (outS (parseS false (bs s))) := by
  unfold tapearchiveref19_Parse.f
  exact Ev.both (rparse_ev s false) (Ev.done fun _ => rfl)
end Go.Proofs.YtlcgepmacgbciaaDoor.Pth
end
