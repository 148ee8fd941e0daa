import Derived.Test.YtifhmdlgjojodaaDoorKLexerUnits5
set_option linter.unusedVariables false
set_option linter.unusedSimpArgs false
namespace Go.Proofs.YtifhmdlgjojodaaDoorW.Opens
end Go.Proofs.YtifhmdlgjojodaaDoorW.Opens
section
namespace Go.Proofs.YtifhmdlgjojodaaDoor.Q
open Go.RowKit Go.Proofs.YtifhmdlgjojodaaDoorW.PrintWords Go.Proofs.YtifhmdlgjojodaaDoorW.PrintLast Go.Proofs.YtifhmdlgjojodaaDoorW.PrintMore
attribute [local go_sem] max2_int min2_int max_two min_two max_three min_three max_four min_four
attribute [local go_sem ↓] isSome_setCell
set_option linter.unusedVariables false
set_option linter.unusedSimpArgs false
end Go.Proofs.YtifhmdlgjojodaaDoor.Q
end
section
namespace Go.Proofs.YtifhmdlgjojodaaDoor.Q
open Go.RowKit Go.Proofs.YtifhmdlgjojodaaDoorW.PrintWords Go.Proofs.YtifhmdlgjojodaaDoorW.PrintLast Go.Proofs.YtifhmdlgjojodaaDoorW.PrintMore
attribute [local go_sem] max2_int min2_int max_two min_two max_three min_three max_four min_four
attribute [local go_sem ↓] isSome_setCell
set_option linter.unusedVariables false
set_option linter.unusedSimpArgs false
end Go.Proofs.YtifhmdlgjojodaaDoor.Q
end
section
namespace Go.Proofs.YtifhmdlgjojodaaDoor.Q
open Go.RowKit Go.Proofs.YtifhmdlgjojodaaDoorW.PrintWords Go.Proofs.YtifhmdlgjojodaaDoorW.PrintLast Go.Proofs.YtifhmdlgjojodaaDoorW.PrintMore
attribute [local go_sem] max2_int min2_int max_two min_two max_three min_three max_four min_four
attribute [local go_sem ↓] isSome_setCell
set_option linter.unusedVariables false
set_option linter.unusedSimpArgs false
end Go.Proofs.YtifhmdlgjojodaaDoor.Q
end
section
namespace Go.Proofs.YtifhmdlgjojodaaDoor.Q
open Go.RowKit Go.Proofs.YtifhmdlgjojodaaDoorW.PrintWords Go.Proofs.YtifhmdlgjojodaaDoorW.PrintLast Go.Proofs.YtifhmdlgjojodaaDoorW.PrintMore
attribute [local go_sem] max2_int min2_int max_two min_two max_three min_three max_four min_four
attribute [local go_sem ↓] isSome_setCell
set_option linter.unusedVariables false
set_option linter.unusedSimpArgs false
end Go.Proofs.YtifhmdlgjojodaaDoor.Q
end
section
namespace Go.Proofs.YtifhmdlgjojodaaDoor.Q
open Go.RowKit Go.Proofs.YtifhmdlgjojodaaDoorW.PrintWords Go.Proofs.YtifhmdlgjojodaaDoorW.PrintLast Go.Proofs.YtifhmdlgjojodaaDoorW.PrintMore
attribute [local go_sem] max2_int min2_int max_two min_two max_three min_three max_four min_four
attribute [local go_sem ↓] isSome_setCell
set_option linter.unusedVariables false
set_option linter.unusedSimpArgs false
end Go.Proofs.YtifhmdlgjojodaaDoor.Q
end
section
namespace Go.Proofs.YtifhmdlgjojodaaDoor.Q
open Go.RowKit Go.Proofs.YtifhmdlgjojodaaDoorW.PrintWords Go.Proofs.YtifhmdlgjojodaaDoorW.PrintLast Go.Proofs.YtifhmdlgjojodaaDoorW.PrintMore
attribute [local go_sem] max2_int min2_int max_two min_two max_three min_three max_four min_four
attribute [local go_sem ↓] isSome_setCell
set_option linter.unusedVariables false
set_option linter.unusedSimpArgs false
def tapearchiveref28_Decimal.l0 : Nat → Int → ByteArray → Option (ByteArray)
  | 0, _, _ => none
  | k + 1, x0, x3 => if x0 ≥ 10 then ((some (([(wrap64 (48 + (Int.tmod (wrap64 (Int.tdiv x0 10)) 10))) % 256] : List Int) : List Int)).bind fun y243 => (if (strOfNums y243).size + x3.size ≤ 9223372036854775807 then (tapearchiveref28_Decimal.l0 k (wrap64 (Int.tdiv x0 10)) ((strOfNums y243) ++ x3)) else (none))) else (some x3)
def tapearchiveref28_Decimal.f (k : Nat) (a0 : Int) : Option (ByteArray) := tapearchiveref28_Decimal.l0 k a0 (strOfNums (([(wrap64 (48 + (Int.tmod a0 10))) % 256] : List Int)))
set_option maxHeartbeats 8000000 in
set_option maxRecDepth 100000 in
theorem tapearchiveref28_Decimal.calls (k : Nat) (a0 : Int) (r : ByteArray) (w : World) (h : tapearchiveref28_Decimal.f k a0 = some r) :
    Calls Tryd.prog 21 #[.int .i64 a0] w fun e w' => e = .returned (.string r) ∧ Below w.heap.size w w' := by
  have HB := Aside0.mk (Below.refl w.heap.size w)
  have H : (tapearchiveref28_Decimal.l0 k a0 (strOfNums (([(wrap64 (48 + (Int.tmod a0 10))) % 256] : List Int)))) = some r := h
  clear h
  obtain ⟨y240, hy240⟩ : ∃ y_ : List Int, y_ = (([(wrap64 (48 + (Int.tmod a0 10))) % 256] : List Int)) := ⟨_, rfl⟩
  replace H : (tapearchiveref28_Decimal.l0 k a0 (strOfNums y240)) = some r := by first | (rw [hy240]; with_reducible exact H) | (have H2_ := (Option.bind_some _ _).symm.trans H; rw [hy240]; with_reducible exact H2_) | (have H2_ := (Option.bind_some _ _).symm.trans H; with_reducible exact H2_) | with_reducible exact H | (rw [hy240]; exact H) | exact H
  have Ny240 := Aside0.mk hy240
  clear hy240
  have H' := Aside0.mk H
  clear H
  go_enter Tryd.func21, Tryd.ntmps21
  go_wp2_with (first | ((with_reducible refine gate_dst (N := 8) rfl ?_); refine Kd.R_lit (Kd.int .u8) _ 5 ?hg (N := 8) ?hd (xs := ([(wrap64 (48 + (Int.tmod a0 10))) % 256] : List Int)) (inner := [.int .u8 ((wrap64 (48 + (Int.tmod a0 10))) % 256)]) (ok := fun _ => True) (okp := fun _ => True) ?hr ?hp (fun _ hk => hk) trivial (Below.refl _ _) (Nat.le_refl _) (by simp) ?_; (case hd => rfl); (case hg => rfl); (case hr => first | (go_simp; done) | (go_simp; rfl)); (case hp => exact (Reps.one (show Kd.M (Kd.int .u8) _ _ _ ((wrap64 (48 + (Int.tmod a0 10))) % 256) [.int .u8 ((wrap64 (48 + (Int.tmod a0 10))) % 256)] from rfl) (Reps.none _ _))); intro v241 w2 ho3 hb hg_ hnew_; clear hg_ hnew_; (first | rw [← Ny240.out] at ho3 | (simp only [Int.reduceToNat] at ho3; rw [← Ny240.out] at ho3)); have n0_ := Aside0.mk (Kd.R_lower ho3 (below_size (by repeat (first | (with_reducible first | exact HB.out | apply below_alloc | apply pw_below_drewN | apply below_drew1) | exact HB.out)))); have n1_ := Aside0.mk (below_step (by repeat (first | (with_reducible first | exact HB.out | apply below_alloc | apply pw_below_drewN | apply below_drew1) | exact HB.out)) hb); clear HB; have HO242 := n0_; have HB := n1_; clear n0_ n1_; clear hb ho3; have hcv4 := own_string (P := Tryd.prog) Tryd.underlying37 Tryd.underlying5 Tryd.underlying9 (Kd.own_of_R HO242.out)))
  go_loopg [0, 3] k (fun kq v0 v3 w' => ∃ (x0_1 : Int) (x3_1 : ByteArray), v0 = .int .i64 x0_1 ∧ v3 = .string x3_1 ∧ Aside0 (tapearchiveref28_Decimal.l0 kq x0_1 x3_1 = some r) ∧ Aside0 (kq ≤ k) ∧ Aside0 (Below w.heap.size w w'))
  case atStart => exact ⟨(a0), (strOfNums y240), (by first | rfl | (simp; done) | (simp [*]; done)), (by first | rfl | (simp; done) | (simp [*]; done)), H', ⟨Nat.le_refl _⟩, ⟨by repeat (first | (with_reducible first | exact HB.out | apply below_alloc | apply pw_below_drewN | apply below_drew1) | exact HB.out)⟩⟩
  case round =>
    clear H'
    try clear c2
    try clear p2
    try clear hcv4
    obtain ⟨x0_1, x3_1, rfl, rfl, HA, HK1, HB⟩ := hrel
    cases gk with
    | zero => exact absurd HA.out (by simp [tapearchiveref28_Decimal.l0])
    | succ k1 =>
      have H := HA.out
      clear HA
      simp only [tapearchiveref28_Decimal.l0] at H
      by_cases c5 : x0_1 ≥ 10
      · rw [if_pos c5] at H
        have c5b0 : decide (10 ≤ x0_1) = true := decide_eq_true c5
        clear c5
        obtain ⟨y243, hy243⟩ : ∃ y_ : List Int, y_ = (([(wrap64 (48 + (Int.tmod (wrap64 (Int.tdiv x0_1 10)) 10))) % 256] : List Int)) := ⟨_, rfl⟩
        replace H : (if (strOfNums y243).size + x3_1.size ≤ 9223372036854775807 then (tapearchiveref28_Decimal.l0 k1 (wrap64 (Int.tdiv x0_1 10)) ((strOfNums y243) ++ x3_1)) else (none)) = some r := by first | (rw [hy243]; with_reducible exact H) | (have H2_ := (Option.bind_some _ _).symm.trans H; rw [hy243]; with_reducible exact H2_) | (have H2_ := (Option.bind_some _ _).symm.trans H; with_reducible exact H2_) | with_reducible exact H | (rw [hy243]; exact H) | exact H
        have Ny243 := Aside0.mk hy243
        clear hy243
        by_cases c6 : (strOfNums y243).size + x3_1.size ≤ 9223372036854775807
        · rw [if_pos c6] at H
          have c6b0 := eq_true c6
          have c6b1 : decide ((strOfNums y243).size + x3_1.size ≤ 9223372036854775807) = true := decide_eq_true c6
          try have c6b2 : (9223372036854775807 < (strOfNums y243).size + x3_1.size) = False := eq_false (Nat.not_lt.2 c6)
          have H' := Aside0.mk H
          clear H
          go_wp2_with (first | ((with_reducible refine gate_dst (N := 18) rfl ?_); refine Kd.R_lit (Kd.int .u8) _ 5 ?hg (N := 18) ?hd (xs := ([(wrap64 (48 + (Int.tmod (wrap64 (Int.tdiv x0_1 10)) 10))) % 256] : List Int)) (inner := [.int .u8 ((wrap64 (48 + (Int.tmod (wrap64 (Int.tdiv x0_1 10)) 10))) % 256)]) (ok := fun _ => True) (okp := fun _ => True) ?hr ?hp (fun _ hk => hk) trivial (Below.refl _ _) (Nat.le_refl _) (by simp) ?_; (case hd => rfl); (case hg => rfl); (case hr => first | (go_simp; done) | (go_simp; rfl)); (case hp => exact (Reps.one (show Kd.M (Kd.int .u8) _ _ _ ((wrap64 (48 + (Int.tmod (wrap64 (Int.tdiv x0_1 10)) 10))) % 256) [.int .u8 ((wrap64 (48 + (Int.tmod (wrap64 (Int.tdiv x0_1 10)) 10))) % 256)] from rfl) (Reps.none _ _))); intro v244 w7 ho8 hb hg_ hnew_; clear hg_ hnew_; (first | rw [← Ny243.out] at ho8 | (simp only [Int.reduceToNat] at ho8; rw [← Ny243.out] at ho8)); have n0_ := Aside0.mk (Kd.R_lower ho8 (below_size (by repeat (first | (with_reducible first | exact HB.out | apply below_alloc | apply pw_below_drewN | apply below_drew1) | exact HB.out)))); have n1_ := Aside0.mk (below_step (by repeat (first | (with_reducible first | exact HB.out | apply below_alloc | apply pw_below_drewN | apply below_drew1) | exact HB.out)) hb); clear HB; have HO245 := n0_; have HB := n1_; clear n0_ n1_; clear hb ho8; have hcv9 := own_string (P := Tryd.prog) Tryd.underlying37 Tryd.underlying5 Tryd.underlying9 (Kd.own_of_R HO245.out)))
          go_roundg k1
          case measure => have := HK1.out; omega
          case rel => exact ⟨(wrap64 (Int.tdiv x0_1 10)), ((strOfNums y243) ++ x3_1), (by first | rfl | (simp; done) | (simp [*]; done)), (by first | rfl | (simp; done) | (simp [*]; done)), H', ⟨by have := HK1.out; omega⟩, ⟨by repeat (first | (with_reducible first | exact HB.out | apply below_alloc | apply pw_below_drewN | apply below_drew1) | exact HB.out)⟩⟩
        · rw [if_neg c6] at H
          exact absurd H (by simp)
      · rw [if_neg c5] at H
        have c5b0 : decide (10 ≤ x0_1) = false := decide_eq_false c5
        clear c5
        obtain rfl := Option.some.inj H
        go_wp2
        go_ret
        exact ⟨by first | rfl | (simp [errW_none, errW_some] <;> rfl) | (simp [*, errW_none, errW_some] <;> rfl), by repeat (first | (with_reducible first | exact HB.out | apply below_alloc | apply pw_below_drewN | apply below_drew1) | exact HB.out)⟩
end Go.Proofs.YtifhmdlgjojodaaDoor.Q
end
section
namespace Go.Proofs.YtifhmdlgjojodaaDoor.Q
open Go.RowKit Go.Proofs.YtifhmdlgjojodaaDoorW.PrintWords Go.Proofs.YtifhmdlgjojodaaDoorW.PrintLast Go.Proofs.YtifhmdlgjojodaaDoorW.PrintMore
attribute [local go_sem] max2_int min2_int max_two min_two max_three min_three max_four min_four
attribute [local go_sem ↓] isSome_setCell
set_option linter.unusedVariables false
set_option linter.unusedSimpArgs false
def tapearchivelaw28_LexerUnits.j0 : Nat → Int → Int → List (S36) → Int → Bool → Option (Bool)
  | 0, _, _, _, _, _ => none
  | k + 1, x0, x7, x9, x11, x45 => if x45 = true then (some false) else (if x7 = 0 then (none) else (if (wrap64 (x0)) > (wrap64 (Int.tdiv (1125899906842624 : Int) x7)) then (some (x11 == 7)) else (if x11 = 0 then (if (x9.length : Int) = 1 then (if 0 < (x9.length : Int) then (if ((rd_T36 x9 0).f0) = 2 then (some (((rd_T36 x9 0).f2) == (wrap64 ((wrap64 (x0)) * x7)))) else (some false)) else (none)) else (some false)) else (some false))))
def tapearchivelaw28_LexerUnits.f (k : Nat) (a0 : Int) (a1 : Int) : Option (Bool) := (some (([(⟨#[75]⟩ : ByteArray), (⟨#[77]⟩ : ByteArray), (⟨#[115]⟩ : ByteArray), (⟨#[109]⟩ : ByteArray), (⟨#[104]⟩ : ByteArray), (⟨#[100]⟩ : ByteArray)] : List ByteArray) : List ByteArray)).bind fun y335 => (if (y335.length : Int) = 0 then (none) else (if 0 ≤ (Int.tmod (wrap64 (a1)) (y335.length : Int)) then (if (Int.tmod (wrap64 (a1)) (y335.length : Int)) < (y335.length : Int) then ((lexer_Unit.f (rdOf ByteArray.empty y335 (Int.tmod (wrap64 (a1)) (y335.length : Int)))).bind fun bt339 => ((tapearchiveref28_Decimal.f k (wrap64 (a0))).bind fun t341 => (if t341.size + (rdOf ByteArray.empty y335 (Int.tmod (wrap64 (a1)) (y335.length : Int))).size ≤ 9223372036854775807 then ((lexer_Tokens.f k (t341 ++ (rdOf ByteArray.empty y335 (Int.tmod (wrap64 (a1)) (y335.length : Int))))).bind fun bt342 => (if bt339.2 = true then (if bt339.1 < 1 then (tapearchivelaw28_LexerUnits.j0 k a0 bt339.1 bt342.1 bt342.2.2 true) else ((tapearchivelaw28_lives.f k).bind fun t347 => (tapearchivelaw28_LexerUnits.j0 k a0 bt339.1 bt342.1 bt342.2.2 (!t347)))) else (tapearchivelaw28_LexerUnits.j0 k a0 bt339.1 bt342.1 bt342.2.2 true))) else (none)))) else (none)) else (none)))
set_option maxHeartbeats 8000000 in
set_option maxRecDepth 100000 in
theorem tapearchivelaw28_LexerUnits.calls (k : Nat) (a0 : Int) (a1 : Int) (r : Bool) (w : World) (hG : Go.Proofs.YtifhmdlgjojodaaDoorX.Glob w) (h : tapearchivelaw28_LexerUnits.f k a0 a1 = some r) :
    Calls Tryd.prog 8 #[.int .u32 a0, .int .u8 a1] w fun e w' => e = .returned (.bool r) ∧ Below w.heap.size w w' := by
  have HB := Aside0.mk (Below.refl w.heap.size w)
  have H : ((some (([(⟨#[75]⟩ : ByteArray), (⟨#[77]⟩ : ByteArray), (⟨#[115]⟩ : ByteArray), (⟨#[109]⟩ : ByteArray), (⟨#[104]⟩ : ByteArray), (⟨#[100]⟩ : ByteArray)] : List ByteArray) : List ByteArray)).bind fun y335 => (if (y335.length : Int) = 0 then (none) else (if 0 ≤ (Int.tmod (wrap64 (a1)) (y335.length : Int)) then (if (Int.tmod (wrap64 (a1)) (y335.length : Int)) < (y335.length : Int) then ((lexer_Unit.f (rdOf ByteArray.empty y335 (Int.tmod (wrap64 (a1)) (y335.length : Int)))).bind fun bt339 => ((tapearchiveref28_Decimal.f k (wrap64 (a0))).bind fun t341 => (if t341.size + (rdOf ByteArray.empty y335 (Int.tmod (wrap64 (a1)) (y335.length : Int))).size ≤ 9223372036854775807 then ((lexer_Tokens.f k (t341 ++ (rdOf ByteArray.empty y335 (Int.tmod (wrap64 (a1)) (y335.length : Int))))).bind fun bt342 => (if bt339.2 = true then (if bt339.1 < 1 then (tapearchivelaw28_LexerUnits.j0 k a0 bt339.1 bt342.1 bt342.2.2 true) else ((tapearchivelaw28_lives.f k).bind fun t347 => (tapearchivelaw28_LexerUnits.j0 k a0 bt339.1 bt342.1 bt342.2.2 (!t347)))) else (tapearchivelaw28_LexerUnits.j0 k a0 bt339.1 bt342.1 bt342.2.2 true))) else (none)))) else (none)) else (none)))) = some r := h
  clear h
  obtain ⟨y335, hy335⟩ : ∃ y_ : List ByteArray, y_ = (([(⟨#[75]⟩ : ByteArray), (⟨#[77]⟩ : ByteArray), (⟨#[115]⟩ : ByteArray), (⟨#[109]⟩ : ByteArray), (⟨#[104]⟩ : ByteArray), (⟨#[100]⟩ : ByteArray)] : List ByteArray)) := ⟨_, rfl⟩
  replace H : (if (y335.length : Int) = 0 then (none) else (if 0 ≤ (Int.tmod (wrap64 (a1)) (y335.length : Int)) then (if (Int.tmod (wrap64 (a1)) (y335.length : Int)) < (y335.length : Int) then ((lexer_Unit.f (rdOf ByteArray.empty y335 (Int.tmod (wrap64 (a1)) (y335.length : Int)))).bind fun bt339 => ((tapearchiveref28_Decimal.f k (wrap64 (a0))).bind fun t341 => (if t341.size + (rdOf ByteArray.empty y335 (Int.tmod (wrap64 (a1)) (y335.length : Int))).size ≤ 9223372036854775807 then ((lexer_Tokens.f k (t341 ++ (rdOf ByteArray.empty y335 (Int.tmod (wrap64 (a1)) (y335.length : Int))))).bind fun bt342 => (if bt339.2 = true then (if bt339.1 < 1 then (tapearchivelaw28_LexerUnits.j0 k a0 bt339.1 bt342.1 bt342.2.2 true) else ((tapearchivelaw28_lives.f k).bind fun t347 => (tapearchivelaw28_LexerUnits.j0 k a0 bt339.1 bt342.1 bt342.2.2 (!t347)))) else (tapearchivelaw28_LexerUnits.j0 k a0 bt339.1 bt342.1 bt342.2.2 true))) else (none)))) else (none)) else (none))) = some r := by first | (rw [hy335]; with_reducible exact H) | (have H2_ := (Option.bind_some _ _).symm.trans H; rw [hy335]; with_reducible exact H2_) | (have H2_ := (Option.bind_some _ _).symm.trans H; with_reducible exact H2_) | with_reducible exact H | (rw [hy335]; exact H) | exact H
  have Ny335 := Aside0.mk hy335
  clear hy335
  by_cases c3 : (y335.length : Int) = 0
  · rw [if_pos c3] at H
    exact absurd H (by simp)
  · rw [if_neg c3] at H
    have c3b0 : ((y335.length : Int) == 0) = false := beq_eq_false_iff_ne.mpr c3
    have c3b1 : ((y335.length : Int) != 0) = true := bne_iff_ne.mpr c3
    have c3b2 : ¬ (y335 = []) := fun h_ => c3 (by rw [h_]; rfl)
    obtain ⟨ji4, hji4⟩ : ∃ j_ : Int, (Int.tmod (wrap64 (a1)) (y335.length : Int)) = j_ := ⟨_, rfl⟩
    replace H : (if 0 ≤ (ji4) then (if (ji4) < (y335.length : Int) then ((lexer_Unit.f (rdOf ByteArray.empty y335 (ji4))).bind fun bt339 => ((tapearchiveref28_Decimal.f k (wrap64 (a0))).bind fun t341 => (if t341.size + (rdOf ByteArray.empty y335 (ji4)).size ≤ 9223372036854775807 then ((lexer_Tokens.f k (t341 ++ (rdOf ByteArray.empty y335 (ji4)))).bind fun bt342 => (if bt339.2 = true then (if bt339.1 < 1 then (tapearchivelaw28_LexerUnits.j0 k a0 bt339.1 bt342.1 bt342.2.2 true) else ((tapearchivelaw28_lives.f k).bind fun t347 => (tapearchivelaw28_LexerUnits.j0 k a0 bt339.1 bt342.1 bt342.2.2 (!t347)))) else (tapearchivelaw28_LexerUnits.j0 k a0 bt339.1 bt342.1 bt342.2.2 true))) else (none)))) else (none)) else (none)) = some r := by first | (rw [hji4] at H; exact H) | (simp only [hji4] at H ⊢; exact H)
    by_cases c5 : 0 ≤ (ji4)
    · rw [if_pos c5] at H
      have c5b0 : decide (0 ≤ (ji4)) = true := decide_eq_true c5
      clear c5
      by_cases c6 : (ji4) < (y335.length : Int)
      · rw [if_pos c6] at H
        have c6b0 : decide ((ji4) < (y335.length : Int)) = true := decide_eq_true c6
        clear c6
        replace H := Option.bind_eq_some_iff.mp H
        obtain ⟨⟨t339, t340⟩, A70, H⟩ := H
        replace H : ((tapearchiveref28_Decimal.f k (wrap64 (a0))).bind fun t341 => (if t341.size + (rdOf ByteArray.empty y335 (ji4)).size ≤ 9223372036854775807 then ((lexer_Tokens.f k (t341 ++ (rdOf ByteArray.empty y335 (ji4)))).bind fun bt342 => (if t340 = true then (if t339 < 1 then (tapearchivelaw28_LexerUnits.j0 k a0 t339 bt342.1 bt342.2.2 true) else ((tapearchivelaw28_lives.f k).bind fun t347 => (tapearchivelaw28_LexerUnits.j0 k a0 t339 bt342.1 bt342.2.2 (!t347)))) else (tapearchivelaw28_LexerUnits.j0 k a0 t339 bt342.1 bt342.2.2 true))) else (none))) = some r := H
        have A7 := Aside0.mk A70
        clear A70
        replace H := Option.bind_eq_some_iff.mp H
        obtain ⟨t341, A80, H⟩ := H
        replace H : (if t341.size + (rdOf ByteArray.empty y335 (ji4)).size ≤ 9223372036854775807 then ((lexer_Tokens.f k (t341 ++ (rdOf ByteArray.empty y335 (ji4)))).bind fun bt342 => (if t340 = true then (if t339 < 1 then (tapearchivelaw28_LexerUnits.j0 k a0 t339 bt342.1 bt342.2.2 true) else ((tapearchivelaw28_lives.f k).bind fun t347 => (tapearchivelaw28_LexerUnits.j0 k a0 t339 bt342.1 bt342.2.2 (!t347)))) else (tapearchivelaw28_LexerUnits.j0 k a0 t339 bt342.1 bt342.2.2 true))) else (none)) = some r := H
        have A8 := Aside0.mk A80
        clear A80
        by_cases c9 : t341.size + (rdOf ByteArray.empty y335 (ji4)).size ≤ 9223372036854775807
        · rw [if_pos c9] at H
          have c9b0 := eq_true c9
          have c9b1 : decide (t341.size + (rdOf ByteArray.empty y335 (ji4)).size ≤ 9223372036854775807) = true := decide_eq_true c9
          try have c9b2 : (9223372036854775807 < t341.size + (rdOf ByteArray.empty y335 (ji4)).size) = False := eq_false (Nat.not_lt.2 c9)
          replace H := Option.bind_eq_some_iff.mp H
          obtain ⟨⟨t342, t343, t344⟩, A100, H⟩ := H
          replace H : (if t340 = true then (if t339 < 1 then (tapearchivelaw28_LexerUnits.j0 k a0 t339 t342 t344 true) else ((tapearchivelaw28_lives.f k).bind fun t347 => (tapearchivelaw28_LexerUnits.j0 k a0 t339 t342 t344 (!t347)))) else (tapearchivelaw28_LexerUnits.j0 k a0 t339 t342 t344 true)) = some r := H
          have A10 := Aside0.mk A100
          clear A100
          have HC11 := Aside0.mk H
          clear H
          go_enter Tryd.func8, Tryd.ntmps8
          go_upto_region 5 with (first | ((with_reducible refine gate_dst (N := 12) rfl ?_); (try (refine gate_guard (by rfl) ?_; dsimp only)); refine Kd.R_lit Kd.string _ 9 ?hg (N := 12) ?hd (xs := ([(⟨#[75]⟩ : ByteArray), (⟨#[77]⟩ : ByteArray), (⟨#[115]⟩ : ByteArray), (⟨#[109]⟩ : ByteArray), (⟨#[104]⟩ : ByteArray), (⟨#[100]⟩ : ByteArray)] : List ByteArray)) (inner := [.string (⟨#[75]⟩ : ByteArray), .string (⟨#[77]⟩ : ByteArray), .string (⟨#[115]⟩ : ByteArray), .string (⟨#[109]⟩ : ByteArray), .string (⟨#[104]⟩ : ByteArray), .string (⟨#[100]⟩ : ByteArray)]) (ok := fun _ => True) (okp := fun _ => True) ?hr ?hp (fun _ hk => hk) trivial (Below.refl _ _) (Nat.le_refl _) (by simp) ?_; (case hd => rfl); (case hg => rfl); (case hr => first | (go_simp; done) | (go_simp; rfl)); (case hp => exact (Reps.one (show Kd.M Kd.string _ _ _ (⟨#[75]⟩ : ByteArray) [.string (⟨#[75]⟩ : ByteArray)] from rfl) (Reps.one (show Kd.M Kd.string _ _ _ (⟨#[77]⟩ : ByteArray) [.string (⟨#[77]⟩ : ByteArray)] from rfl) (Reps.one (show Kd.M Kd.string _ _ _ (⟨#[115]⟩ : ByteArray) [.string (⟨#[115]⟩ : ByteArray)] from rfl) (Reps.one (show Kd.M Kd.string _ _ _ (⟨#[109]⟩ : ByteArray) [.string (⟨#[109]⟩ : ByteArray)] from rfl) (Reps.one (show Kd.M Kd.string _ _ _ (⟨#[104]⟩ : ByteArray) [.string (⟨#[104]⟩ : ByteArray)] from rfl) (Reps.one (show Kd.M Kd.string _ _ _ (⟨#[100]⟩ : ByteArray) [.string (⟨#[100]⟩ : ByteArray)] from rfl) (Reps.none _ _)))))))); intro v336 w12 ho13 hb hg_ hnew_; clear hg_ hnew_; (first | rw [← Ny335.out] at ho13 | (simp only [Int.reduceToNat] at ho13; rw [← Ny335.out] at ho13)); have n0_ := Aside0.mk (Kd.R_lower ho13 (below_size (by repeat (first | (with_reducible first | exact HB.out | apply below_alloc | apply pw_below_drewN | apply below_drew1) | exact HB.out)))); have n1_ := Aside0.mk (below_step (by repeat (first | (with_reducible first | exact HB.out | apply below_alloc | apply pw_below_drewN | apply below_drew1) | exact HB.out)) hb); clear HB; have HO337 := n0_; have HB := n1_; clear n0_ n1_; clear hb ho13; obtain ⟨Ao14, co14, eo14⟩ := Kd.R_slice HO337.out; subst eo14; have p338 : 0 ≤ ((ji4) : Int) := of_decide_eq_true (by first | (with_reducible assumption) | assumption); have q338 : (ji4) < (y335.length : Int) := of_decide_eq_true (by first | (with_reducible assumption) | assumption); obtain ⟨ad338, e338, hx338_0⟩ := Kd.at_string (Kd.R_reads' HO337.out).2.2 (ji4) p338 q338; cases e338; replace p338 := eq_true p338; replace q338 := eq_true q338) | ((with_reducible refine gate_callee (f := 14) rfl ?_); refine goesL_ (some 23) rfl rfl Tryd.func14 (by kernel_rfl) rfl #[.string (rdOf ByteArray.empty y335 (ji4))] rfl (by (try simp only [List.map_toArray, List.map_cons, List.map_nil]); first | done | (simp only [hji4]; rfl) | rfl | (simp only [List.length_drop, List.length_take]; rfl)) ?_; (with_reducible refine (lexer_Unit.calls (rdOf ByteArray.empty y335 (ji4)) t339 t340 _ A7.out).mono ?_); rintro e w' ⟨rfl, ⟨nd, rfl⟩⟩; refine ⟨_, rfl, ?_⟩) | ((with_reducible refine gate_callee (f := 21) rfl ?_); refine goesL_ (some 29) rfl rfl Tryd.func21 (by kernel_rfl) rfl #[.int .i64 (wrap64 (a0))] rfl (by (try simp only [List.map_toArray, List.map_cons, List.map_nil]); first | done | rfl | (simp only [List.length_drop, List.length_take]; rfl)) ?_; (with_reducible refine (tapearchiveref28_Decimal.calls k (wrap64 (a0)) t341 _ A8.out).mono ?_); rintro e w15 ⟨rfl, hb⟩; refine ⟨_, rfl, ?_⟩; have n0_ := Aside0.mk (Kd.R_below (by (with_reducible repeat (first | apply Kd.R_alloc | apply Kd.R_drewN | apply Kd.R_drew)); exact HO337.out) hb); have n1_ := Aside0.mk (below_step (by repeat (first | (with_reducible first | exact HB.out | apply below_alloc | apply pw_below_drewN | apply below_drew1) | exact HB.out)) hb); clear HO337; clear HB; have HO337 := n0_; have HB := n1_; clear n0_ n1_; (try clear hb); (try clear hb2); (try clear hk); (try clear hi)) | ((with_reducible refine gate_callee (f := 10) rfl ?_); refine goesL_ (some 32) rfl rfl Tryd.func10 (by kernel_rfl) rfl #[.string (t341 ++ (rdOf ByteArray.empty y335 (ji4)))] rfl (by (try simp only [List.map_toArray, List.map_cons, List.map_nil]); first | done | (simp only [hji4]; rfl) | rfl | (simp only [List.length_drop, List.length_take]; rfl)) ?_; (with_reducible refine (lexer_Tokens.calls k (t341 ++ (rdOf ByteArray.empty y335 (ji4))) t342 t343 t344 _ A10.out).mono ?_); rintro e w16 ⟨v345, rfl, ho0, hb⟩; refine ⟨_, rfl, ?_⟩; have n0_ := Aside0.mk (Kd.R_below (by (with_reducible repeat (first | apply Kd.R_alloc | apply Kd.R_drewN | apply Kd.R_drew)); exact HO337.out) hb); have n1_ := Aside0.mk (Kd.R_lower ho0 (below_size (by repeat (first | (with_reducible first | exact HB.out | apply below_alloc | apply pw_below_drewN | apply below_drew1) | exact HB.out)))); have n2_ := Aside0.mk (below_step (by repeat (first | (with_reducible first | exact HB.out | apply below_alloc | apply pw_below_drewN | apply below_drew1) | exact HB.out)) hb); clear HO337; clear HB; have HO337 := n0_; have HO346 := n1_; have HB := n2_; clear n0_ n1_ n2_; (try clear hb); (try clear hb2); (try clear hk); (try clear hi); (try clear ho0)))
          (try simp only [Act.put, List.setIfInBounds_toArray, List.set_cons_zero, List.set_cons_succ])
          go_cut [45] (fun v45 wc => ∃ (kq : Nat) (x45_10 : Bool), v45 = .bool x45_10 ∧ Aside0 (tapearchivelaw28_LexerUnits.j0 kq a0 t339 t342 t344 x45_10 = some r) ∧ Aside0 (kq ≤ k) ∧ Aside0 (Kd.R k36 36 wc w.heap.size (fun _ => True) v345 t342) ∧ Aside0 (Below w.heap.size w wc))
          case first =>
            have H := HC11.out
            clear HC11
            by_cases c17 : t340 = true
            · subst c17
              have H1 : (if t339 < 1 then (tapearchivelaw28_LexerUnits.j0 k a0 t339 t342 t344 true) else ((tapearchivelaw28_lives.f k).bind fun t347 => (tapearchivelaw28_LexerUnits.j0 k a0 t339 t342 t344 (!t347)))) = some r := by rw [if_pos rfl] at H; exact H
              clear H
              have H := H1
              clear H1
              by_cases c18 : t339 < 1
              · rw [if_pos c18] at H
                have c18b0 : decide (t339 < 1) = true := decide_eq_true c18
                clear c18
                (first | rw [c18b0] | (simp only [i64_w, i32_w]; rw [c18b0]) | rw [c18b2] | skip)
                have H' := Aside0.mk H
                clear H
                go_wp2
                go_meet
                case rel => exact ⟨_, (true), (by first | rfl | (simp; done) | (simp [*]; done)), H', ⟨by first | omega | exact Nat.le_refl _⟩, ⟨by (with_reducible repeat (first | apply Kd.R_alloc | apply Kd.R_drewN | apply Kd.R_drew)); exact HO346.out⟩, ⟨by repeat (first | (with_reducible first | exact HB.out | apply below_alloc | apply pw_below_drewN | apply below_drew1) | exact HB.out)⟩⟩
              · rw [if_neg c18] at H
                have c18b0 : decide (t339 < 1) = false := decide_eq_false c18
                clear c18
                (first | rw [c18b0] | (simp only [i64_w, i32_w]; rw [c18b0]) | rw [c18b2] | skip)
                replace H := Option.bind_eq_some_iff.mp H
                obtain ⟨t347, A190, H⟩ := H
                replace H : (tapearchivelaw28_LexerUnits.j0 k a0 t339 t342 t344 (!t347)) = some r := H
                have A19 := Aside0.mk A190
                clear A190
                have H' := Aside0.mk H
                clear H
                go_wp2_with (first | (go_at_call 9; (with_reducible refine (tapearchivelaw28_lives.calls k  t347 _ ?side1 A19.out).mono ?_); (case side1 => exact Go.Proofs.YtifhmdlgjojodaaDoorX.Glob.below hG (by repeat (first | (with_reducible first | exact HB.out | apply below_alloc | apply pw_below_drewN | apply below_drew1) | exact HB.out))); rintro e w20 ⟨rfl, hb⟩; have n0_ := Aside0.mk (Kd.R_below (by (with_reducible repeat (first | apply Kd.R_alloc | apply Kd.R_drewN | apply Kd.R_drew)); exact HO337.out) hb); have n1_ := Aside0.mk (Kd.R_below (by (with_reducible repeat (first | apply Kd.R_alloc | apply Kd.R_drewN | apply Kd.R_drew)); exact HO346.out) hb); have n2_ := Aside0.mk (below_step (by repeat (first | (with_reducible first | exact HB.out | apply below_alloc | apply pw_below_drewN | apply below_drew1) | exact HB.out)) hb); clear HO337; clear HO346; clear HB; have HO337 := n0_; have HO346 := n1_; have HB := n2_; clear n0_ n1_ n2_; (try clear hb); (try clear hb2); (try clear hk); (try clear hi)))
                go_meet
                case rel => exact ⟨_, (!t347), (by first | rfl | (simp; done) | (simp [*]; done)), H', ⟨by first | omega | exact Nat.le_refl _⟩, ⟨by (with_reducible repeat (first | apply Kd.R_alloc | apply Kd.R_drewN | apply Kd.R_drew)); exact HO346.out⟩, ⟨by repeat (first | (with_reducible first | exact HB.out | apply below_alloc | apply pw_below_drewN | apply below_drew1) | exact HB.out)⟩⟩
            · replace c17 := Bool.eq_false_iff.mpr c17
              subst c17
              have H1 : (tapearchivelaw28_LexerUnits.j0 k a0 t339 t342 t344 true) = some r := by rw [if_neg (show ¬ (false = true) by decide)] at H; exact H
              clear H
              have H := H1
              clear H1
              have H' := Aside0.mk H
              clear H
              go_wp2
              go_meet
              case rel => exact ⟨_, (true), (by first | rfl | (simp; done) | (simp [*]; done)), H', ⟨by first | omega | exact Nat.le_refl _⟩, ⟨by (with_reducible repeat (first | apply Kd.R_alloc | apply Kd.R_drewN | apply Kd.R_drew)); exact HO346.out⟩, ⟨by repeat (first | (with_reducible first | exact HB.out | apply below_alloc | apply pw_below_drewN | apply below_drew1) | exact HB.out)⟩⟩
          case rest =>
            clear HC11
            try clear c1
            try clear c2
            try clear p2
            try clear c3
            try clear c3b0
            try clear c3b1
            try clear c3b2
            try clear p3
            try clear q3
            try clear hx3
            try clear c5
            try clear c5b0
            try clear c6
            try clear c6b0
            try clear p6
            try clear c8
            try clear c9
            try clear c9b0
            try clear c9b1
            try clear c9b2
            try clear c10
            try clear c14
            try clear c17
            try clear c18
            try clear c18b0
            try clear c18b2
            try clear hx338_0
            try clear p338
            try clear q338
            obtain ⟨kq, x45_10, rfl, HA, HJ10, HO_9, HB⟩ := hcut
            cases kq with
            | zero => exact absurd HA.out (by simp [tapearchivelaw28_LexerUnits.j0])
            | succ kj10 =>
              have H := HA.out
              clear HA
              simp only [tapearchivelaw28_LexerUnits.j0] at H
              by_cases c21 : x45_10 = true
              · subst c21
                have H1 : (some false) = some r := by rw [if_pos rfl] at H; exact H
                clear H
                have H := H1
                clear H1
                obtain rfl := Option.some.inj H
                go_wp2
                go_ret
                exact ⟨by first | rfl | (simp [errW_none, errW_some] <;> rfl) | (simp only [← hji4]; first | rfl | (simp [errW_none, errW_some] <;> rfl)) | (simp [*, errW_none, errW_some] <;> rfl), by repeat (first | (with_reducible first | exact HB.out | apply below_alloc | apply pw_below_drewN | apply below_drew1) | exact HB.out)⟩
              · replace c21 := Bool.eq_false_iff.mpr c21
                subst c21
                have H1 : (if t339 = 0 then (none) else (if (wrap64 (a0)) > (wrap64 (Int.tdiv (1125899906842624 : Int) t339)) then (some (t344 == 7)) else (if t344 = 0 then (if (t342.length : Int) = 1 then (if 0 < (t342.length : Int) then (if ((rd_T36 t342 0).f0) = 2 then (some (((rd_T36 t342 0).f2) == (wrap64 ((wrap64 (a0)) * t339)))) else (some false)) else (none)) else (some false)) else (some false)))) = some r := by rw [if_neg (show ¬ (false = true) by decide)] at H; exact H
                clear H
                have H := H1
                clear H1
                by_cases c22 : t339 = 0
                · rw [if_pos c22] at H
                  exact absurd H (by simp)
                · rw [if_neg c22] at H
                  have c22b0 : (t339 == 0) = false := beq_eq_false_iff_ne.mpr c22
                  have c22b1 : (t339 != 0) = true := bne_iff_ne.mpr c22
                  by_cases c23 : (wrap64 (a0)) > (wrap64 (Int.tdiv (1125899906842624 : Int) t339))
                  · rw [if_pos c23] at H
                    have c23b0 : decide ((wrap64 (Int.tdiv (1125899906842624 : Int) t339)) < (wrap64 (a0))) = true := decide_eq_true c23
                    clear c23
                    obtain rfl := Option.some.inj H
                    go_wp2
                    go_ret
                    exact ⟨by first | rfl | (simp [errW_none, errW_some] <;> rfl) | (simp only [← hji4]; first | rfl | (simp [errW_none, errW_some] <;> rfl)) | (simp [*, errW_none, errW_some] <;> rfl), by repeat (first | (with_reducible first | exact HB.out | apply below_alloc | apply pw_below_drewN | apply below_drew1) | exact HB.out)⟩
                  · rw [if_neg c23] at H
                    have c23b0 : decide ((wrap64 (Int.tdiv (1125899906842624 : Int) t339)) < (wrap64 (a0))) = false := decide_eq_false c23
                    clear c23
                    by_cases c24 : t344 = 0
                    · rw [if_pos c24] at H
                      have c24b0 : (t344 == 0) = true := beq_iff_eq.mpr c24
                      have c24b1 : (t344 != 0) = false := bne_eq_false_iff_eq.mpr c24
                      clear c24
                      by_cases c25 : (t342.length : Int) = 1
                      · rw [if_pos c25] at H
                        have c25b0 : ((t342.length : Int) == 1) = true := beq_iff_eq.mpr c25
                        have c25b1 : ((t342.length : Int) != 1) = false := bne_eq_false_iff_eq.mpr c25
                        clear c25
                        by_cases c26 : 0 < (t342.length : Int)
                        · rw [if_pos c26] at H
                          have c26b0 : decide (0 < (t342.length : Int)) = true := decide_eq_true c26
                          have c26b1 : decide (0 < t342.length) = true := decide_eq_true (by omega)
                          clear c26
                          by_cases c27 : ((rd_T36 t342 0).f0) = 2
                          · rw [if_pos c27] at H
                            have c27b0 : (((rd_T36 t342 0).f0) == 2) = true := beq_iff_eq.mpr c27
                            have c27b1 : (((rd_T36 t342 0).f0) != 2) = false := bne_eq_false_iff_eq.mpr c27
                            clear c27
                            obtain rfl := Option.some.inj H
                            obtain ⟨Ao28, co28, eo28⟩ := Kd.R_slice HO_9.out
                            subst eo28
                            have p348 : 0 ≤ (0 : Int) := (by omega)
                            have q348 : 0 < (t342.length : Int) := of_decide_eq_true (by first | (with_reducible assumption) | assumption)
                            obtain ⟨ad348, e348, hx348_0, hx348_1, hx348_2, hx348_3⟩ := at_T36 (Kd.R_reads' HO_9.out).2.2 0 p348 q348
                            cases e348
                            have qi348 : (0 < t342.length) = True := eq_true (by omega)
                            (try rw [show ((0 : Int)).toNat = 0 from rfl] at hx348_0)
                            (try rw [show 0 * 4 = 0 from rfl] at hx348_0)
                            (try rw [Addr.add_zero'] at hx348_0)
                            (try rw [show ((0 : Int)).toNat = 0 from rfl] at hx348_1)
                            (try rw [show 0 * 4 = 0 from rfl] at hx348_1)
                            (try rw [Addr.add_zero'] at hx348_1)
                            (try rw [show ((0 : Int)).toNat = 0 from rfl] at hx348_2)
                            (try rw [show 0 * 4 = 0 from rfl] at hx348_2)
                            (try rw [Addr.add_zero'] at hx348_2)
                            (try rw [show ((0 : Int)).toNat = 0 from rfl] at hx348_3)
                            (try rw [show 0 * 4 = 0 from rfl] at hx348_3)
                            (try rw [Addr.add_zero'] at hx348_3)
                            replace p348 := eq_true p348
                            replace q348 := eq_true q348
                            have p349 : 0 ≤ (0 : Int) := (by omega)
                            have q349 : 0 < (t342.length : Int) := of_decide_eq_true (by first | (with_reducible assumption) | assumption)
                            obtain ⟨ad349, e349, hx349_0, hx349_1, hx349_2, hx349_3⟩ := at_T36 (Kd.R_reads' HO_9.out).2.2 0 p349 q349
                            obtain rfl : ad348 = ad349 := (by injection e349)
                            have qi349 : (0 < t342.length) = True := eq_true (by omega)
                            (try rw [show ((0 : Int)).toNat = 0 from rfl] at hx349_0)
                            (try rw [show 0 * 4 = 0 from rfl] at hx349_0)
                            (try rw [Addr.add_zero'] at hx349_0)
                            (try rw [show ((0 : Int)).toNat = 0 from rfl] at hx349_1)
                            (try rw [show 0 * 4 = 0 from rfl] at hx349_1)
                            (try rw [Addr.add_zero'] at hx349_1)
                            (try rw [show ((0 : Int)).toNat = 0 from rfl] at hx349_2)
                            (try rw [show 0 * 4 = 0 from rfl] at hx349_2)
                            (try rw [Addr.add_zero'] at hx349_2)
                            (try rw [show ((0 : Int)).toNat = 0 from rfl] at hx349_3)
                            (try rw [show 0 * 4 = 0 from rfl] at hx349_3)
                            (try rw [Addr.add_zero'] at hx349_3)
                            replace p349 := eq_true p349
                            replace q349 := eq_true q349
                            go_wp2
                            go_ret
                            exact ⟨by first | rfl | (simp [errW_none, errW_some] <;> rfl) | (simp only [← hji4]; first | rfl | (simp [errW_none, errW_some] <;> rfl)) | (simp [*, errW_none, errW_some] <;> rfl), by repeat (first | (with_reducible first | exact HB.out | apply below_alloc | apply pw_below_drewN | apply below_drew1) | exact HB.out)⟩
                          · rw [if_neg c27] at H
                            have c27b0 : (((rd_T36 t342 0).f0) == 2) = false := beq_eq_false_iff_ne.mpr c27
                            have c27b1 : (((rd_T36 t342 0).f0) != 2) = true := bne_iff_ne.mpr c27
                            obtain rfl := Option.some.inj H
                            obtain ⟨Ao29, co29, eo29⟩ := Kd.R_slice HO_9.out
                            subst eo29
                            have p348 : 0 ≤ (0 : Int) := (by omega)
                            have q348 : 0 < (t342.length : Int) := of_decide_eq_true (by first | (with_reducible assumption) | assumption)
                            obtain ⟨ad348, e348, hx348_0, hx348_1, hx348_2, hx348_3⟩ := at_T36 (Kd.R_reads' HO_9.out).2.2 0 p348 q348
                            cases e348
                            have qi348 : (0 < t342.length) = True := eq_true (by omega)
                            (try rw [show ((0 : Int)).toNat = 0 from rfl] at hx348_0)
                            (try rw [show 0 * 4 = 0 from rfl] at hx348_0)
                            (try rw [Addr.add_zero'] at hx348_0)
                            (try rw [show ((0 : Int)).toNat = 0 from rfl] at hx348_1)
                            (try rw [show 0 * 4 = 0 from rfl] at hx348_1)
                            (try rw [Addr.add_zero'] at hx348_1)
                            (try rw [show ((0 : Int)).toNat = 0 from rfl] at hx348_2)
                            (try rw [show 0 * 4 = 0 from rfl] at hx348_2)
                            (try rw [Addr.add_zero'] at hx348_2)
                            (try rw [show ((0 : Int)).toNat = 0 from rfl] at hx348_3)
                            (try rw [show 0 * 4 = 0 from rfl] at hx348_3)
                            (try rw [Addr.add_zero'] at hx348_3)
                            replace p348 := eq_true p348
                            replace q348 := eq_true q348
                            go_wp2
                            go_ret
                            exact ⟨by first | rfl | (simp [errW_none, errW_some] <;> rfl) | (simp only [← hji4]; first | rfl | (simp [errW_none, errW_some] <;> rfl)) | (simp [*, errW_none, errW_some] <;> rfl), by repeat (first | (with_reducible first | exact HB.out | apply below_alloc | apply pw_below_drewN | apply below_drew1) | exact HB.out)⟩
                        · rw [if_neg c26] at H
                          exact absurd H (by simp)
                      · rw [if_neg c25] at H
                        have c25b0 : ((t342.length : Int) == 1) = false := beq_eq_false_iff_ne.mpr c25
                        have c25b1 : ((t342.length : Int) != 1) = true := bne_iff_ne.mpr c25
                        obtain rfl := Option.some.inj H
                        obtain ⟨Ao30, co30, eo30⟩ := Kd.R_slice HO_9.out
                        subst eo30
                        go_wp2
                        go_ret
                        exact ⟨by first | rfl | (simp [errW_none, errW_some] <;> rfl) | (simp only [← hji4]; first | rfl | (simp [errW_none, errW_some] <;> rfl)) | (simp [*, errW_none, errW_some] <;> rfl), by repeat (first | (with_reducible first | exact HB.out | apply below_alloc | apply pw_below_drewN | apply below_drew1) | exact HB.out)⟩
                    · rw [if_neg c24] at H
                      have c24b0 : (t344 == 0) = false := beq_eq_false_iff_ne.mpr c24
                      have c24b1 : (t344 != 0) = true := bne_iff_ne.mpr c24
                      obtain rfl := Option.some.inj H
                      go_wp2
                      go_ret
                      exact ⟨by first | rfl | (simp [errW_none, errW_some] <;> rfl) | (simp only [← hji4]; first | rfl | (simp [errW_none, errW_some] <;> rfl)) | (simp [*, errW_none, errW_some] <;> rfl), by repeat (first | (with_reducible first | exact HB.out | apply below_alloc | apply pw_below_drewN | apply below_drew1) | exact HB.out)⟩
        · rw [if_neg c9] at H
          exact absurd H (by simp)
      · rw [if_neg c6] at H
        exact absurd H (by simp)
    · rw [if_neg c5] at H
      exact absurd H (by simp)
end Go.Proofs.YtifhmdlgjojodaaDoor.Q
end
section
namespace Go.Proofs.YtifhmdlgjojodaaDoor.SLexerUnits
open Go.RowKit Go.Proofs.YtifhmdlgjojodaaDoor.Q Go.Proofs.YtifhmdlgjojodaaDoorW.PrintWords Go.Proofs.YtifhmdlgjojodaaDoorW.PrintLast Go.Proofs.YtifhmdlgjojodaaDoorW.Opens Go.Proofs.YtifhmdlgjojodaaDoorW
set_option linter.unusedVariables false
def Pure : Prop := ∀ (x0 : Int) (x1 : Int), (Lit.int .u32 x0).wf = true → (Lit.int .u8 x1).wf = true → ∃ k, tapearchivelaw28_LexerUnits.f k x0 x1 = some true
end Go.Proofs.YtifhmdlgjojodaaDoor.SLexerUnits
end
section
namespace Go.Proofs.YtifhmdlgjojodaaDoor.Lex
open Go.RowKit Go.Proofs.YtifhmdlgjojodaaDoorW.PrintWords Go.Proofs.YtifhmdlgjojodaaDoorW.EvMore
def dig (c : UInt8) : Bool := decide (48 ≤ c.toNat) && decide (c.toNat ≤ 57)
def alp (c : UInt8) : Bool := (decide (97 ≤ c.toNat) && decide (c.toNat ≤ 122)) || (decide (65 ≤ c.toNat) && decide (c.toNat ≤ 90))
def nam (c : UInt8) : Bool := alp c || dig c || c == 95 || c == 45 || c == 46 || c == 47 || c == 42 || c == 63
def pln (c : UInt8) : Bool := decide (32 ≤ c.toNat) && decide (c.toNat ≤ 126) && c != 34
def sym (c : UInt8) : Bool := c == 40 || c == 41 || c == 123 || c == 125 || c == 60 || c == 61 || c == 33 || c == 59 || c == 44 || c == 58
def symT (l : List UInt8) : Bool := l == [62, 61] || (match l with | [c] => sym c | _ => false)
def unit (l : List UInt8) : Nat × Bool :=
  if l = [75] then (1024, true) else if l = [77] then (1048576, true) else if l = [115] then (1, true) else if l = [109] then (60, true) else if l = [104] then (3600, true) else if l = [100] then (86400, true) else (0, false)
def val (l : List UInt8) : Nat := l.foldl (fun n c => 10 * n + (c.toNat - 48)) 0
abbrev Tk := Int × List UInt8 × Int × Nat × Int
def bad (e : Int) : Tk := (0, [], 0, 0, e)
def numFin (ds rs : List UInt8) (f : Nat) : Tk :=
  if 1 < ds.length ∧ ds.head? = some 48 then bad 1
  else if 1125899906842624 / f < val ds then bad 7
  else (2, [], ((val ds * f : Nat) : Int), ds.length + rs.length, 0)
def numTk (l : List UInt8) : Tk :=
  let ds := l.takeWhile dig
  let rs := (l.drop ds.length).takeWhile nam
  if rs = [] then numFin ds rs 1
  else if (unit rs).2 = true then numFin ds rs (unit rs).1
  else bad 1
def txtTk (r : List UInt8) : Tk :=
  let t := r.takeWhile pln
  if r[t.length]? = some 34 then (3, t, 0, t.length + 2, 0) else bad 1
def tk : List UInt8 → Tk
  | [] => bad 1
  | c :: r =>
    if dig c = true then numTk (c :: r)
    else if c = 34 then txtTk r
    else if (nam c && c != 45) = true then (1, (c :: r).takeWhile nam, 0, ((c :: r).takeWhile nam).length, 0)
    else if c = 62 ∧ r.head? = some 61 then (4, [62, 61], 0, 2, 0)
    else if sym c = true then (4, [c], 0, 1, 0)
    else bad 1
def blank : List UInt8 → Bool → Nat
  | [], _ => 0
  | c :: r, false => if c = 32 ∨ c = 10 then 1 + blank r false else if c = 35 then 1 + blank r true else 0
  | c :: r, true => if c = 10 then 1 + blank r false else 1 + blank r true
structure Tok where
  kind : Int
  text : List UInt8
  int : Int
  at_ : Nat
def lexGo : Nat → Nat → List UInt8 → List Tok × Int × Int
  | 0, _, _ => ([], 0, 0)
  | f + 1, p, l =>
    if l = [] then ([], 0, 0)
    else
      let t := tk l
      if t.2.2.2.2 ≠ 0 then ([], p, t.2.2.2.2)
      else
        let l' := l.drop t.2.2.2.1
        let b := blank l' false
        let r := lexGo f (p + t.2.2.2.1 + b) (l'.drop b)
        if r.2.2 ≠ 0 then ([], r.2.1, r.2.2) else (⟨t.1, t.2.1, t.2.2.1, p⟩ :: r.1, 0, 0)
def lex (l : List UInt8) : List Tok × Int × Int :=
  if 16384 < l.length then ([], 0, 6) else lexGo (l.length + 1) (blank l false) (l.drop (blank l false))
theorem blank_le : ∀ (l : List UInt8) (c : Bool), blank l c ≤ l.length
  | [], c => by simp [blank]
  | x :: r, false => by
    have h1 := blank_le r false
    have h2 := blank_le r true
    simp only [blank, List.length_cons]
    split
    · omega
    · split <;> omega
  | x :: r, true => by
    have h1 := blank_le r false
    have h2 := blank_le r true
    simp only [blank, List.length_cons]
    split <;> omega
theorem unit_one {l : List UInt8} (h : (unit l).2 = true) : 1 ≤ (unit l).1 ∧ (unit l).1 ≤ 1048576 ∧ l.length = 1 := by
  unfold unit at h ⊢
  repeat' split
  all_goals simp_all
theorem tk_len (l : List UInt8) (h : (tk l).2.2.2.2 = 0) : 1 ≤ (tk l).2.2.2.1 ∧ (tk l).2.2.2.1 ≤ l.length := by
  cases l with
  | nil => simp [tk, bad] at h
  | cons c r =>
    simp only [tk] at h ⊢
    split
    · rename_i hd
      rw [if_pos hd] at h
      have hl : 1 ≤ ((c :: r).takeWhile dig).length := by simp [List.takeWhile_cons, hd]
      have h2 : ((c :: r).takeWhile dig).length ≤ (c :: r).length := (List.takeWhile_sublist _).length_le
      have h3 : (((c :: r).drop ((c :: r).takeWhile dig).length).takeWhile nam).length ≤ ((c :: r).drop ((c :: r).takeWhile dig).length).length := (List.takeWhile_sublist _).length_le
      rw [List.length_drop] at h3
      have fin : ∀ f, (numFin ((c :: r).takeWhile dig) (((c :: r).drop ((c :: r).takeWhile dig).length).takeWhile nam) f).2.2.2.2 = 0 →
          1 ≤ (numFin ((c :: r).takeWhile dig) (((c :: r).drop ((c :: r).takeWhile dig).length).takeWhile nam) f).2.2.2.1 ∧ (numFin ((c :: r).takeWhile dig) (((c :: r).drop ((c :: r).takeWhile dig).length).takeWhile nam) f).2.2.2.1 ≤ (c :: r).length := by
        intro f hf
        unfold numFin at hf ⊢
        split
        · rename_i h0; rw [if_pos h0] at hf; simp [bad] at hf
        · rename_i h0
          rw [if_neg h0] at hf
          split
          · rename_i h1; rw [if_pos h1] at hf; simp [bad] at hf
          · exact ⟨by show 1 ≤ _ + _; omega, by show _ + _ ≤ _; omega⟩
      unfold numTk at h ⊢
      simp only at h ⊢
      split
      · rename_i h0; rw [if_pos h0] at h; exact fin _ h
      · rename_i h0
        rw [if_neg h0] at h
        split
        · rename_i h1; rw [if_pos h1] at h; exact fin _ h
        · rename_i h1; rw [if_neg h1] at h; simp [bad] at h
    · rename_i hd
      rw [if_neg hd] at h
      split
      · rename_i hq
        rw [if_pos hq] at h
        unfold txtTk at h ⊢
        simp only at h ⊢
        split
        · rename_i h1
          obtain ⟨hlt, _⟩ := List.getElem?_eq_some_iff.1 h1
          exact ⟨by show 1 ≤ _ + 2; omega, by show _ + 2 ≤ _; simp only [List.length_cons]; omega⟩
        · rename_i h1; rw [if_neg h1] at h; simp [bad] at h
      · rename_i hq
        rw [if_neg hq] at h
        split
        · rename_i hn
          have hn' : nam c = true := by simp at hn; exact hn.1
          have h2 : ((c :: r).takeWhile nam).length ≤ (c :: r).length := (List.takeWhile_sublist _).length_le
          refine ⟨?_, h2⟩
          show 1 ≤ ((c :: r).takeWhile nam).length
          simp [List.takeWhile_cons, hn']
        · rename_i hn
          rw [if_neg hn] at h
          split
          · rename_i h1
            have : r ≠ [] := by rintro rfl; simp at h1
            have : 1 ≤ r.length := by cases r with | nil => exact absurd rfl this | cons _ _ => simp
            exact ⟨by show 1 ≤ 2; omega, by show 2 ≤ _; simp only [List.length_cons]; omega⟩
          · rename_i h1
            rw [if_neg h1] at h
            split
            · exact ⟨Nat.le_refl 1, by show 1 ≤ _; simp⟩
            · rename_i h2; rw [if_neg h2] at h; simp [bad] at h
end Go.Proofs.YtifhmdlgjojodaaDoor.Lex
end
section
namespace Go.Proofs.YtifhmdlgjojodaaDoor.Lex
open Go.RowKit Go.Proofs.YtifhmdlgjojodaaDoor.Q Go.Proofs.YtifhmdlgjojodaaDoorW.PrintWords Go.Proofs.YtifhmdlgjojodaaDoorW.PrintMore Go.Proofs.YtifhmdlgjojodaaDoorW.EvMore
theorem dig_f (c : UInt8) : lexer_digit.f (c.toNat : Int) = some (dig c) := by
  unfold lexer_digit.f dig
  by_cases h : 48 ≤ c.toNat
  · rw [if_pos (by omega)]
    simp only [h, decide_true, Bool.true_and, Option.some.injEq, decide_eq_decide]
    omega
  · rw [if_neg (by omega)]
    simp [h]
theorem alp_f (c : UInt8) : lexer_letter.f (c.toNat : Int) = some (alp c) := by
  unfold lexer_letter.f alp
  by_cases h : 97 ≤ c.toNat
  · rw [if_pos (by omega)]
    by_cases h2 : c.toNat ≤ 122
    · rw [if_pos (by omega)]; simp [h, h2]
    · rw [if_neg (by omega), if_pos (by omega)]
      have : ¬ c.toNat ≤ 90 := by omega
      simp [h2, this]
      omega
  · rw [if_neg (by omega)]
    by_cases h2 : 65 ≤ c.toNat
    · rw [if_pos (by omega)]
      simp only [h, h2, decide_true, decide_false, Bool.false_and, Bool.true_and, Bool.false_or, Option.some.injEq, decide_eq_decide]
      omega
    · rw [if_neg (by omega)]
      simp [h, h2]
theorem plain_f (c : UInt8) : lexer_plain.f (c.toNat : Int) = some (pln c) := by
  unfold lexer_plain.f pln
  have e34 : (((c.toNat : Int) != 34) : Bool) = (c != 34) := by
    rw [Bool.eq_iff_iff]
    simp only [bne_iff_ne, ne_eq]
    constructor
    · intro h e; subst e; exact h rfl
    · intro h e; apply h; apply UInt8.toNat_inj.1; have : c.toNat = 34 := by omega
      rw [this]; rfl
  by_cases h : 32 ≤ c.toNat
  · rw [if_pos (by omega)]
    by_cases h2 : c.toNat ≤ 126
    · rw [if_pos (by omega), e34]; simp [h, h2]
    · rw [if_neg (by omega)]; simp [h2]
  · rw [if_neg (by omega)]
    simp [h]
theorem idx_has (c : UInt8) : ∀ l : List UInt8, decide (Lib.indexByte l c ≥ 0) = l.contains c
  | [] => by simp [Lib.indexByte]
  | b :: l => by
    have ih := idx_has c l
    have hg := Lib.indexByte_ge l c
    rw [Lib.indexByte, List.contains_cons]
    by_cases e : b = c
    · subst e; simp
    · rw [if_neg (by simpa using e)]
      have e2 : (c == b) = false := by simpa using fun h => e h.symm
      rw [e2, Bool.false_or, ← ih]
      by_cases h1 : Lib.indexByte l c = -1
      · simp [h1]
      · rw [if_neg (by simpa using h1)]
        simp only [decide_eq_decide]
        omega
theorem byte_back (c : UInt8) : (c.toNat : Int).toNat.toUInt8 = c := by simp
theorem name_f (c : UInt8) : lexer_nameByte.f (c.toNat : Int) = some (nam c) := by
  unfold lexer_nameByte.f nam
  rw [alp_f, Option.bind_some]
  cases ha : alp c with
  | true => simp
  | false =>
    rw [if_neg (by simp), dig_f, Option.bind_some]
    cases hd : dig c with
    | true => simp
    | false =>
      rw [if_neg (by simp)]
      unfold strings_IndexByte.f
      rw [Option.bind_some, byte_back, idx_has]
      simp [Bool.or_assoc, Bool.beq_eq_decide_eq]
theorem run_gen (g : Nat → ByteArray → Int → Int → Option ByteArray) (pf : Int → Option Bool) (p : UInt8 → Bool) (hp : ∀ c : UInt8, pf (c.toNat : Int) = some (p c))
    (hg : ∀ k x n i, g (k + 1) x n i = if i < n then (if 0 ≤ i then (if i < (x.size : Int) then ((pf (bt x i)).bind fun t => (if t = true then (g k x n (wrap64 (i + 1))) else (if i ≤ (x.size : Int) then (some (x.extract 0 (i : Int).toNat)) else (none)))) else (none)) else (none)) else (some x))
    (s : ByteArray) (hs : s.size ≤ 4611686018427387904) (d : Nat) : ∀ (i : Nat), i ≤ s.size → s.size - i = d → ((bs s).take i).all p = true →
    Ev (fun k => g k s s.size i) (s.extract 0 ((bs s).takeWhile p).length) := by
  have hw : ∀ i, i ≤ s.size → ((bs s).take i).all p = true → ((bs s).takeWhile p).length = i + (((bs s).drop i).takeWhile p).length := by
    intro i hi ha
    conv => lhs; rw [← List.take_append_drop i (bs s)]
    rw [List.takeWhile_append_of_pos (fun a h => List.all_eq_true.1 ha a h), List.length_append, List.length_take, bs_length]
    omega
  induction d with
  | zero =>
    intro i hi hd ha
    have h1 := hw i hi ha
    rw [List.drop_of_length_le (by rw [bs_length]; omega)] at h1
    have e : ((bs s).takeWhile p).length = s.size := by simp at h1; omega
    refine Ev.next (fun k => hg k s _ _) ?_
    refine Ev.neg (by omega) (Ev.done fun _ => ?_)
    rw [e]
    congr 1
    apply bs_inj
    rw [bs_extract]
    simp [← bs_length]
  | succ d ih =>
    intro i hi hd ha
    have hlt : i < s.size := by omega
    have hltL : i < (bs s).length := hlt
    have h1 := hw i hi ha
    have hc : (bs s)[i]? = some ((bs s)[i]'hltL) := List.getElem?_eq_getElem hltL
    refine Ev.next (fun k => hg k s _ _) ?_
    refine Ev.pos (by omega) (Ev.pos (by omega) (Ev.pos (by omega) ?_))
    rw [bt_get s i _ hc]
    refine Ev.bindS (hp _) ?_
    cases hv : p ((bs s)[i]'hltL) with
    | true =>
      refine Ev.pos rfl ?_
      have e : wrap64 ((i : Int) + 1) = ((i + 1 : Nat) : Int) := by rw [wrap_in (by omega) (by omega)]; rfl
      rw [e]
      refine ih (i + 1) (by omega) (by omega) ?_
      rw [List.take_succ_eq_append_getElem hltL, List.all_append, ha]
      simp [hv]
    | false =>
      refine Ev.neg (by simp) (Ev.pos (by omega) (Ev.done fun _ => ?_))
      have h2 : ((bs s).drop i).takeWhile p = [] := by
        rw [List.drop_eq_getElem_cons hltL, List.takeWhile_cons, hv]
        rfl
      rw [h2] at h1
      rw [h1]
      simp
theorem run_digit (s : ByteArray) (hs : s.size ≤ 4611686018427387904) : Ev (fun k => lexer_run_lexer_digit.f k s) (s.extract 0 ((bs s).takeWhile dig).length) :=
  Ev.same (run_gen lexer_run_lexer_digit.l0 lexer_digit.f dig dig_f (fun k x n i => by rw [lexer_run_lexer_digit.l0]) s hs _ 0 (Nat.zero_le _) rfl (by simp)) (fun k => rfl)
theorem run_name (s : ByteArray) (hs : s.size ≤ 4611686018427387904) : Ev (fun k => lexer_run_lexer_nameByte.f k s) (s.extract 0 ((bs s).takeWhile nam).length) :=
  Ev.same (run_gen lexer_run_lexer_nameByte.l0 lexer_nameByte.f nam name_f (fun k x n i => by rw [lexer_run_lexer_nameByte.l0]) s hs _ 0 (Nat.zero_le _) rfl (by simp)) (fun k => rfl)
theorem run_plain (s : ByteArray) (hs : s.size ≤ 4611686018427387904) : Ev (fun k => lexer_run_lexer_plain.f k s) (s.extract 0 ((bs s).takeWhile pln).length) :=
  Ev.same (run_gen lexer_run_lexer_plain.l0 lexer_plain.f pln plain_f (fun k x n i => by rw [lexer_run_lexer_plain.l0]) s hs _ 0 (Nat.zero_le _) rfl (by simp)) (fun k => rfl)
theorem take_takeWhile (p : UInt8 → Bool) (l : List UInt8) : l.take (l.takeWhile p).length = l.takeWhile p := by
  induction l with
  | nil => rfl
  | cons c r ih =>
    rw [List.takeWhile_cons]
    cases p c with
    | true => simp [ih]
    | false => rfl
theorem bs_run (s : ByteArray) (p : UInt8 → Bool) : bs (s.extract 0 ((bs s).takeWhile p).length) = (bs s).takeWhile p := by
  rw [bs_extract, List.drop_zero, Nat.sub_zero, take_takeWhile]
theorem takeWhile_le (p : UInt8 → Bool) (l : List UInt8) : (l.takeWhile p).length ≤ l.length := (List.takeWhile_sublist _).length_le
theorem bs_eq_iff (s : ByteArray) (l : List UInt8) : s.toList = l ↔ bs s = l := by rw [toList_bs]
theorem unit_f (s : ByteArray) : lexer_Unit.f s = some (((unit (bs s)).1 : Int), (unit (bs s)).2) := by
  unfold lexer_Unit.f unit
  simp only [bs_eq_iff]
  repeat' split
  all_goals rfl
end Go.Proofs.YtifhmdlgjojodaaDoor.Lex
end
section
namespace Go.Proofs.YtifhmdlgjojodaaDoor.Lex
open Go.RowKit Go.Proofs.YtifhmdlgjojodaaDoor.Q Go.Proofs.YtifhmdlgjojodaaDoorW.PrintWords Go.Proofs.YtifhmdlgjojodaaDoorW.PrintMore Go.Proofs.YtifhmdlgjojodaaDoorW.EvMore
def outP (t : Tk) : Int × ByteArray × Int × Int × Int × Int := (t.1, ⟨t.2.1.toArray⟩, t.2.2.1, 0, (t.2.2.2.1 : Int), t.2.2.2.2)
theorem val_snoc (l : List UInt8) (c : UInt8) : val (l ++ [c]) = 10 * val l + (c.toNat - 48) := by simp [val, List.foldl_append]
theorem val_from (l : List UInt8) : ∀ n : Nat, n ≤ l.foldl (fun n c => 10 * n + (c.toNat - 48)) n := by
  induction l with
  | nil => intro n; exact Nat.le_refl _
  | cons c r ih => intro n; exact Nat.le_trans (show n ≤ 10 * n + (c.toNat - 48) by omega) (ih _)
theorem val_take_le (l : List UInt8) (i : Nat) : val (l.take i) ≤ val l := by
  conv => rhs; rw [← List.take_append_drop i l]
  unfold val
  rw [List.foldl_append]
  exact val_from _ _
theorem tdiv_nat (a b : Nat) : Int.tdiv (a : Int) (b : Int) = ((a / b : Nat) : Int) := rfl
theorem takeWhile_all (p : UInt8 → Bool) (l : List UInt8) : (l.takeWhile p).all p = true := by
  induction l with
  | nil => rfl
  | cons c r ih =>
    rw [List.takeWhile_cons]
    cases h : p c with
    | true => simp [h]
    | false => rfl
theorem num_loop (x5 x6 : ByteArray) (f : Nat) (h1 : 1 ≤ f) (h2 : f ≤ 1048576) (hs : x5.size ≤ 4611686018427387904) (hs6 : x6.size ≤ 1) (hd : (bs x5).all dig = true) (d : Nat) :
    ∀ (i : Nat), i ≤ x5.size → x5.size - i = d → val ((bs x5).take i) ≤ 1125899906842624 →
    Ev (fun k => lexer_number.l0 k x5 x6 f (val ((bs x5).take i) : Nat) x5.size i)
      (outP (if 1125899906842624 / f < val (bs x5) then bad 7 else (2, [], ((val (bs x5) * f : Nat) : Int), (bs x5).length + (bs x6).length, 0))) := by
  have hdiv : 1125899906842624 / f ≤ 1125899906842624 := Nat.div_le_self _ _
  induction d with
  | zero =>
    intro i hi hdi hv
    have e : (bs x5).take i = bs x5 := List.take_of_length_le (by rw [bs_length]; omega)
    rw [e] at hv ⊢
    refine Ev.next (fun k => by rw [lexer_number.l0]) ?_
    refine Ev.neg (by omega) (Ev.neg (by omega) ?_)
    have et : wrap64 (Int.tdiv (1125899906842624 : Int) (f : Int)) = ((1125899906842624 / f : Nat) : Int) := by
      rw [show (1125899906842624 : Int) = ((1125899906842624 : Nat) : Int) from rfl, tdiv_nat]
      exact wrap_nat (by omega)
    rw [et]
    by_cases hc : 1125899906842624 / f < val (bs x5)
    · refine Ev.pos (by omega) (Ev.done fun _ => ?_)
      rw [if_pos hc]
      rfl
    · refine Ev.neg (by omega) (Ev.done fun _ => ?_)
      rw [if_neg hc]
      have hm : val (bs x5) * f ≤ 1125899906842624 := by
        have := Nat.mul_le_mul_right f (Nat.le_of_not_lt hc)
        exact Nat.le_trans this (Nat.div_mul_le_self _ _)
      have e1 : wrap64 ((val (bs x5) : Nat) * (f : Int)) = ((val (bs x5) * f : Nat) : Int) := by
        rw [show ((val (bs x5) : Nat) : Int) * (f : Int) = ((val (bs x5) * f : Nat) : Int) from by simp]
        exact wrap_nat (by omega)
      have e2 : wrap64 ((x5.size : Int) + (x6.size : Int)) = (((bs x5).length + (bs x6).length : Nat) : Int) := by
        rw [bs_length, bs_length, show (x5.size : Int) + (x6.size : Int) = ((x5.size + x6.size : Nat) : Int) from by simp]
        exact wrap_nat (by omega)
      rw [e1, e2]
      rfl
  | succ d ih =>
    intro i hi hdi hv
    have hlt : i < x5.size := by omega
    have hltL : i < (bs x5).length := hlt
    have hc : (bs x5)[i]? = some ((bs x5)[i]'hltL) := List.getElem?_eq_getElem hltL
    have hdc : dig ((bs x5)[i]'hltL) = true := List.all_eq_true.1 hd _ (List.getElem_mem hltL)
    have hsn : val ((bs x5).take (i + 1)) = 10 * val ((bs x5).take i) + (((bs x5)[i]'hltL).toNat - 48) := by
      rw [List.take_succ_eq_append_getElem hltL, val_snoc]
    generalize (bs x5)[i]'hltL = c at hc hdc hsn
    have hb : 48 ≤ c.toNat ∧ c.toNat ≤ 57 := by simpa [dig] using hdc
    refine Ev.next (fun k => by rw [lexer_number.l0]) ?_
    refine Ev.pos (by omega) (Ev.pos (by omega) (Ev.pos (by omega) ?_))
    rw [bt_get x5 i c hc]
    have hle1 := val_take_le (bs x5) (i + 1)
    have ih1 := ih (i + 1) (by omega) (by omega)
    clear ih
    generalize val ((bs x5).take (i + 1)) = v1 at hsn hle1 ih1 ⊢
    generalize val ((bs x5).take i) = v0 at hsn hv ⊢
    generalize val (bs x5) = vt at hle1 ih1 ⊢
    have e0 : wrap64 (10 * (v0 : Int)) = 10 * (v0 : Int) := wrap_in (by omega) (by omega)
    have e1 : wrap64 (10 * (v0 : Int) + ((c.toNat : Int) - 48) % 256) = (v1 : Int) := by
      rw [wrap_in (by omega) (by omega)]
      omega
    have e2 : wrap64 ((i : Int) + 1) = ((i + 1 : Nat) : Int) := by rw [wrap_in (by omega) (by omega)]; rfl
    rw [e0, e1, e2]
    by_cases hbig : 1125899906842624 < v1
    · have hb1 : (v1 : Int) > 1125899906842624 := by omega
      have hb2 : 1125899906842624 / f < vt := by omega
      refine Ev.pos hb1 (Ev.done fun _ => ?_)
      rw [if_pos hb2]
      rfl
    · have hb1 : ¬ (v1 : Int) > 1125899906842624 := by omega
      have hb2 : v1 ≤ 1125899906842624 := by omega
      exact Ev.neg hb1 (ih1 hb2)
theorem num_fin (x5 x6 : ByteArray) (f : Nat) (h1 : 1 ≤ f) (h2 : f ≤ 1048576) (hs : x5.size ≤ 4611686018427387904) (hs6 : x6.size ≤ 1) (hd : (bs x5).all dig = true) :
    Ev (fun k => lexer_number.j0 k x5 x6 f) (outP (numFin (bs x5) (bs x6) f)) := by
  have go : ∀ b : Bool, b = decide (1 < (bs x5).length ∧ (bs x5).head? = some 48) → Ev (fun k => lexer_number.j1 k x5 x6 f b) (outP (numFin (bs x5) (bs x6) f)) := by
    intro b hb
    refine Ev.next (fun k => by rw [lexer_number.j1]) ?_
    unfold numFin
    cases b with
    | true =>
      rw [if_pos (of_decide_eq_true hb.symm)]
      exact Ev.pos rfl (Ev.done fun _ => rfl)
    | false =>
      rw [if_neg (of_decide_eq_false hb.symm)]
      refine Ev.neg (by simp) ?_
      exact num_loop x5 x6 f h1 h2 hs hs6 hd _ 0 (Nat.zero_le _) rfl (by simp [val])
  refine Ev.next (fun k => by rw [lexer_number.j0]) ?_
  by_cases hl : 1 < x5.size
  · refine Ev.pos (by omega) (Ev.pos (by omega) ?_)
    refine go _ ?_
    have hltL : 0 < (bs x5).length := by rw [bs_length]; omega
    have hc : (bs x5)[0]? = some ((bs x5)[0]'hltL) := List.getElem?_eq_getElem hltL
    have hh : (bs x5).head? = some ((bs x5)[0]'hltL) := by rw [List.head?_eq_getElem?]; exact hc
    have := bt_get x5 0 _ hc
    rw [show ((0 : Nat) : Int) = 0 from rfl] at this
    rw [this, hh]
    have hl' : 1 < (bs x5).length := hl
    generalize (bs x5)[0]'hltL = c
    rw [Bool.eq_iff_iff]
    simp only [beq_iff_eq, decide_eq_true_eq, Option.some.injEq, hl', true_and]
    constructor
    · intro h; apply UInt8.toNat_inj.1; have : c.toNat = 48 := by omega
      rw [this]; rfl
    · rintro rfl; rfl
  · refine Ev.neg (by omega) (go _ ?_)
    symm
    rw [decide_eq_false_iff_not, bs_length]
    exact fun h => hl h.1
theorem number_ev (s : ByteArray) (hs : s.size ≤ 4611686018427387904) : Ev (fun k => lexer_number.f k s) (outP (numTk (bs s))) := by
  have hle := takeWhile_le dig (bs s)
  rw [bs_length] at hle
  have hd := bs_run s dig
  have hsz : (s.extract 0 ((bs s).takeWhile dig).length).size = ((bs s).takeWhile dig).length := by rw [size_extract]; omega
  unfold lexer_number.f
  refine Ev.both (run_digit s hs) ?_
  refine Ev.pos (by omega) (Ev.pos (by omega) ?_)
  have he : bs (s.extract ((s.extract 0 ((bs s).takeWhile dig).length).size : Int).toNat s.size) = (bs s).drop ((bs s).takeWhile dig).length := by
    rw [bs_extract, hsz, Int.toNat_natCast]
    exact List.take_of_length_le (by rw [List.length_drop, bs_length]; omega)
  have hez : (s.extract ((s.extract 0 ((bs s).takeWhile dig).length).size : Int).toNat s.size).size ≤ 4611686018427387904 := by rw [size_extract]; omega
  refine Ev.both (run_name _ hez) ?_
  have hr := bs_run (s.extract ((s.extract 0 ((bs s).takeWhile dig).length).size : Int).toNat s.size) nam
  rw [he] at hr ⊢
  generalize (s.extract ((s.extract 0 ((bs s).takeWhile dig).length).size : Int).toNat s.size).extract 0 (((bs s).drop ((bs s).takeWhile dig).length).takeWhile nam).length = x6 at hr ⊢
  have hall : (bs (s.extract 0 ((bs s).takeWhile dig).length)).all dig = true := by rw [hd]; exact takeWhile_all _ _
  have hsz5 : (s.extract 0 ((bs s).takeWhile dig).length).size ≤ 4611686018427387904 := by omega
  generalize (s.extract 0 ((bs s).takeWhile dig).length) = x5 at hd hall hsz5 ⊢
  unfold numTk
  simp only
  rw [← hr, ← hd]
  by_cases h0 : bs x6 = []
  · refine Ev.pos ((bs_eq_iff _ _).2 h0) ?_
    rw [if_pos h0]
    exact num_fin x5 x6 1 (by omega) (by omega) hsz5 (by rw [← bs_length, h0]; simp) hall
  · refine Ev.neg (fun h => h0 ((bs_eq_iff _ _).1 h)) ?_
    rw [if_neg h0]
    refine Ev.bindS (unit_f x6) ?_
    by_cases hu : (unit (bs x6)).2 = true
    · refine Ev.pos hu ?_
      rw [if_pos hu]
      obtain ⟨u1, u2, u3⟩ := unit_one hu
      exact num_fin x5 x6 _ u1 u2 hsz5 (by rw [← bs_length, u3]; omega) hall
    · refine Ev.neg hu (Ev.done fun _ => ?_)
      rw [if_neg hu]
      rfl
theorem quoted_ev (s : ByteArray) (r : List UInt8) (hb : bs s = 34 :: r) (hs : s.size ≤ 4611686018427387904) : Ev (fun k => lexer_quoted.f k s) (outP (txtTk r)) := by
  have hl : s.size = r.length + 1 := by rw [← bs_length, hb]; rfl
  have he : bs (s.extract 1 s.size) = r := by
    rw [bs_extract, hb, List.drop_one, List.tail_cons]
    exact List.take_of_length_le (by omega)
  unfold lexer_quoted.f
  refine Ev.pos (by omega) ?_
  refine Ev.both (run_plain _ (by rw [size_extract]; omega)) ?_
  have ht := bs_run (s.extract 1 s.size) pln
  rw [he] at ht ⊢
  have hle := takeWhile_le pln r
  generalize (s.extract 1 s.size).extract 0 (r.takeWhile pln).length = t at ht ⊢
  have hts : t.size = (r.takeWhile pln).length := by rw [← bs_length, ht]
  have e1 : wrap64 ((t.size : Int) + 1) = (((r.takeWhile pln).length + 1 : Nat) : Int) := by rw [wrap_in (by omega) (by omega)]; omega
  have e2 : wrap64 ((t.size : Int) + 2) = (((r.takeWhile pln).length + 2 : Nat) : Int) := by rw [wrap_in (by omega) (by omega)]; omega
  rw [e1, e2]
  unfold txtTk
  simp only
  by_cases hend : (r.takeWhile pln).length + 1 = s.size
  · refine Ev.pos (by omega) (Ev.done fun _ => ?_)
    rw [if_neg (by rw [List.getElem?_eq_none (by omega)]; simp)]
    rfl
  · refine Ev.neg (by omega) (Ev.pos (by omega) (Ev.pos (by omega) ?_))
    have hlt : (r.takeWhile pln).length < r.length := by omega
    have hg : (bs s)[(r.takeWhile pln).length + 1]? = some (r[(r.takeWhile pln).length]'hlt) := by rw [hb, List.getElem?_cons_succ]; exact List.getElem?_eq_getElem hlt
    rw [bt_get s _ _ hg, List.getElem?_eq_getElem hlt]
    generalize r[(r.takeWhile pln).length]'hlt = c
    by_cases hq : c = 34
    · subst hq
      refine Ev.pos rfl (Ev.done fun _ => ?_)
      rw [if_pos rfl]
      rw [← ht]
      rfl
    · refine Ev.neg (fun h => hq ?_) (Ev.done fun _ => ?_)
      · apply UInt8.toNat_inj.1
        have : c.toNat = 34 := by omega
        rw [this]; rfl
      · rw [if_neg (by simpa using hq)]
        rfl
end Go.Proofs.YtifhmdlgjojodaaDoor.Lex
end
section
namespace Go.Proofs.YtifhmdlgjojodaaDoor.Lex
open Go.RowKit Go.Proofs.YtifhmdlgjojodaaDoor.Q Go.Proofs.YtifhmdlgjojodaaDoorW.PrintWords Go.Proofs.YtifhmdlgjojodaaDoorW.PrintMore Go.Proofs.YtifhmdlgjojodaaDoorW.EvMore
theorem u8_eq {c d : UInt8} (h : (c.toNat : Int) = (d.toNat : Int)) : c = d := UInt8.toNat_inj.1 (by omega)
def symb : List UInt8 → List UInt8
  | [] => []
  | c :: r => if c = 62 ∧ r.head? = some 61 then [62, 61] else if sym c = true then [c] else []
theorem sym_has (c : UInt8) : decide (Lib.indexByte [40, 41, 123, 125, 60, 61, 33, 59, 44, 58] c ≥ 0) = sym c := by
  rw [idx_has]
  simp [sym, Bool.or_assoc, Bool.beq_eq_decide_eq]
theorem symbol_f (s : ByteArray) : ∃ t, lexer_symbol.f s = some t ∧ bs t = symb (bs s) := by
  unfold lexer_symbol.f strings_HasPrefix.f stringslite_HasPrefix.f
  have e2 : ((⟨#[62, 61]⟩ : ByteArray).size : Int) = 2 := rfl
  have hx : (s.extract 0 ((2 : Int)).toNat).toList = (bs s).take 2 := by rw [toList_bs, bs_extract]; rfl
  have hp : ∃ b, ((if (s.size : Int) ≥ ((⟨#[62, 61]⟩ : ByteArray).size : Int) then (if 0 ≤ ((⟨#[62, 61]⟩ : ByteArray).size : Int) then (if ((⟨#[62, 61]⟩ : ByteArray).size : Int) ≤ (s.size : Int) then (some ((s.extract 0 (((⟨#[62, 61]⟩ : ByteArray).size : Int) : Int).toNat).toList == (⟨#[62, 61]⟩ : ByteArray).toList)) else (none)) else (none)) else (some false)) : Option Bool) = some b ∧ (b = true ↔ (bs s).take 2 = [62, 61]) := by
    rw [e2, hx]
    by_cases h : (s.size : Int) ≥ 2
    · rw [if_pos h, if_pos (by omega), if_pos h]
      refine ⟨_, rfl, ?_⟩
      rw [beq_iff_eq, toList_bs]
      rfl
    · rw [if_neg h]
      refine ⟨_, rfl, ?_⟩
      simp only [Bool.false_eq_true, false_iff]
      intro e
      have := congrArg List.length e
      simp [bs_length] at this
      omega
  obtain ⟨b, hb, hbi⟩ := hp
  rw [hb]
  simp only [Option.bind_some]
  cases b with
  | true =>
    rw [if_pos rfl]
    refine ⟨_, rfl, ?_⟩
    have := hbi.1 rfl
    cases h : bs s with
    | nil => rw [h] at this; cases this
    | cons c r =>
      rw [h] at this
      cases r with
      | nil => simp at this
      | cons d r =>
        simp at this
        rw [symb, if_pos (by simp [this])]
        rfl
  | false =>
    rw [if_neg (by simp)]
    cases h : bs s with
    | nil =>
      rw [if_pos ((bs_eq_iff _ _).2 h)]
      exact ⟨_, rfl, rfl⟩
    | cons c r =>
      have hn : ¬ (c = 62 ∧ r.head? = some 61) := by
        rintro ⟨rfl, hr⟩
        cases r with
        | nil => simp at hr
        | cons d r => simp at hr; subst hr; exact absurd (hbi.2 (by rw [h]; rfl)) (by simp)
      have hsz : s.size = r.length + 1 := by rw [← bs_length, h]; rfl
      have hg := bt_get s 0 c (by rw [h]; rfl)
      rw [show ((0 : Nat) : Int) = 0 from rfl] at hg
      rw [if_neg (fun e => by rw [bs_eq_iff, h] at e; cases e), if_pos (by omega), hg]
      unfold strings_IndexByte.f
      rw [Option.bind_some, byte_back]
      rw [symb, if_neg hn]
      have hs := sym_has c
      cases hv : sym c with
      | true =>
        rw [hv] at hs
        rw [if_pos (of_decide_eq_true hs), if_pos (by omega), if_pos (by omega), if_pos rfl]
        refine ⟨_, rfl, ?_⟩
        rw [bs_extract, h]
        rfl
      | false =>
        rw [hv] at hs
        rw [if_neg (of_decide_eq_false hs), if_neg (by simp)]
        exact ⟨_, rfl, rfl⟩
theorem one_sym (s t : ByteArray) (l : List UInt8) (ht : lexer_symbol.f s = some t) (hl : bs t = l) (hn : l ≠ []) : Ev (fun k => lexer_one.j0 k s false) (outP (4, l, 0, l.length, 0)) := by
  refine Ev.next (fun k => by rw [lexer_one.j0]) ?_
  refine Ev.neg (by simp) ?_
  refine Ev.bindS ht ?_
  refine Ev.neg (fun e => hn (by rw [bs_eq_iff, hl] at e; exact e)) (Ev.done fun _ => ?_)
  subst hl
  rfl
theorem one_none (s t : ByteArray) (ht : lexer_symbol.f s = some t) (hl : bs t = []) : Ev (fun k => lexer_one.j0 k s false) (outP (bad 1)) := by
  refine Ev.next (fun k => by rw [lexer_one.j0]) ?_
  refine Ev.neg (by simp) ?_
  refine Ev.bindS ht ?_
  exact Ev.pos ((bs_eq_iff _ _).2 hl) (Ev.done fun _ => rfl)
theorem one_name (s : ByteArray) (hs : s.size ≤ 4611686018427387904) : Ev (fun k => lexer_one.j0 k s true) (outP (1, (bs s).takeWhile nam, 0, ((bs s).takeWhile nam).length, 0)) := by
  refine Ev.next (fun k => by rw [lexer_one.j0]) ?_
  refine Ev.pos rfl (Ev.both (run_name s hs) (Ev.done fun _ => ?_))
  have hr := bs_run s nam
  generalize s.extract 0 ((bs s).takeWhile nam).length = t at hr ⊢
  rw [← hr]
  rfl
theorem one_ev (s : ByteArray) (hne : bs s ≠ []) (hs : s.size ≤ 4611686018427387904) : Ev (fun k => lexer_one.f k s) (outP (tk (bs s))) := by
  cases h : bs s with
  | nil => exact absurd h hne
  | cons c r =>
    have hsz : s.size = r.length + 1 := by rw [← bs_length, h]; rfl
    have hg := bt_get s 0 c (by rw [h]; rfl)
    rw [show ((0 : Nat) : Int) = 0 from rfl] at hg
    have go : ∀ b, b = (nam c && c != 45) → Ev (fun k => lexer_one.j0 k s b) (outP (if (nam c && c != 45) = true then (1, (c :: r).takeWhile nam, 0, ((c :: r).takeWhile nam).length, 0)
            else if c = 62 ∧ r.head? = some 61 then (4, [62, 61], 0, 2, 0) else if sym c = true then (4, [c], 0, 1, 0) else bad 1)) := by
      intro b hb
      cases b with
      | true =>
        rw [if_pos hb.symm, ← h]
        exact one_name s hs
      | false =>
        rw [if_neg (by rw [← hb]; simp)]
        obtain ⟨t, ht, hts⟩ := symbol_f s
        rw [h, symb] at hts
        by_cases h1 : c = 62 ∧ r.head? = some 61
        · rw [if_pos h1] at hts ⊢
          exact one_sym s t _ ht hts (by simp)
        · rw [if_neg h1] at hts ⊢
          by_cases h2 : sym c = true
          · rw [if_pos h2] at hts ⊢
            exact one_sym s t _ ht hts (by simp)
          · rw [if_neg h2] at hts ⊢
            exact one_none s t ht hts
    unfold lexer_one.f
    refine Ev.pos (by omega) ?_
    rw [hg]
    refine Ev.bindS (dig_f c) ?_
    simp only [tk]
    by_cases hd : dig c = true
    · rw [if_pos hd]
      refine Ev.pos hd ?_
      rw [← h]
      exact Ev.both (number_ev s hs) (Ev.done fun _ => rfl)
    · rw [if_neg hd]
      refine Ev.neg hd ?_
      by_cases hq : c = 34
      · rw [if_pos hq]
        refine Ev.pos (by rw [hq]; rfl) ?_
        subst hq
        exact Ev.both (quoted_ev s r h hs) (Ev.done fun _ => rfl)
      · rw [if_neg hq]
        refine Ev.neg (fun e => hq (u8_eq e)) ?_
        refine Ev.bindS (name_f c) ?_
        cases hn : nam c with
        | true =>
          refine Ev.pos rfl ?_
          rw [hn] at go
          refine go _ ?_
          rw [Bool.true_and, Bool.eq_iff_iff]
          simp only [bne_iff_ne, ne_eq]
          exact ⟨fun h e => h (by rw [e]; rfl), fun h e => h (u8_eq e)⟩
        | false =>
          refine Ev.neg (by simp) ?_
          rw [hn] at go
          exact go _ rfl
end Go.Proofs.YtifhmdlgjojodaaDoor.Lex
end
section
namespace Go.Proofs.YtifhmdlgjojodaaDoor.Lex
open Go.RowKit Go.Proofs.YtifhmdlgjojodaaDoor.Q Go.Proofs.YtifhmdlgjojodaaDoorW.PrintWords Go.Proofs.YtifhmdlgjojodaaDoorW.PrintMore Go.Proofs.YtifhmdlgjojodaaDoorW.EvMore
theorem get_bs (s : ByteArray) (p : Nat) (h : p < s.size) : ∃ d, (bs s)[p]? = some d ∧ (s.get! p) = d := by
  have hl : p < (bs s).length := h
  refine ⟨(bs s)[p]'hl, List.getElem?_eq_getElem hl, ?_⟩
  have := get_at s p h
  rw [Nat.add_zero] at this
  rw [this]
  rfl
theorem decode_wide (s : ByteArray) (pos : Nat) (h : pos < s.size) (ha : 128 ≤ (s.get! pos).toNat) :
    pos + (Utf8.decode s pos).2 ≤ s.size ∧ ∀ j, 0 < j → j < (Utf8.decode s pos).2 → 128 ≤ (s.get! (pos + j)).toNat := by
  have hn : ¬ (s.get! (pos + 0)).toNat < 128 := by rw [Nat.add_zero]; omega
  simp only [Utf8.decode, hn, if_false]
  have k1 : ∀ k : Nat, ((decide (pos + k < s.size) && ((s.get! (pos + k)).toNat / 64 == 2)) = true) → pos + k < s.size ∧ 128 ≤ (s.get! (pos + k)).toNat := by
    intro k hk
    simp only [Bool.and_eq_true, decide_eq_true_eq, beq_iff_eq] at hk
    omega
  split
  · rename_i h2
    simp only [Bool.and_eq_true] at h2
    have c1 := k1 1 (by simpa using h2.2)
    split
    · exact ⟨by show pos + 2 ≤ _; omega, fun j h0 h1 => by
        have h1' : j < 2 := h1
        obtain rfl : j = 1 := by omega
        exact c1.2⟩
    · exact ⟨by show pos + 1 ≤ _; omega, fun j h0 h1 => by have h1' : j < 1 := h1; omega⟩
  · split
    · rename_i h2
      simp only [Bool.and_eq_true] at h2
      have c1 := k1 1 (by simpa using h2.1.2)
      have c2 := k1 2 (by simpa using h2.2)
      split
      · exact ⟨by show pos + 3 ≤ _; omega, fun j h0 h1 => by
          have h1' : j < 3 := h1
          rcases (by omega : j = 1 ∨ j = 2) with rfl | rfl
          · exact c1.2
          · exact c2.2⟩
      · exact ⟨by show pos + 1 ≤ _; omega, fun j h0 h1 => by have h1' : j < 1 := h1; omega⟩
    · split
      · rename_i h2
        simp only [Bool.and_eq_true] at h2
        have c1 := k1 1 (by simpa using h2.1.1.2)
        have c2 := k1 2 (by simpa using h2.1.2)
        have c3 := k1 3 (by simpa using h2.2)
        split
        · exact ⟨by show pos + 4 ≤ _; omega, fun j h0 h1 => by
            have h1' : j < 4 := h1
            rcases (by omega : j = 1 ∨ j = 2 ∨ j = 3) with rfl | rfl | rfl
            · exact c1.2
            · exact c2.2
            · exact c3.2⟩
        · exact ⟨by show pos + 1 ≤ _; omega, fun j h0 h1 => by have h1' : j < 1 := h1; omega⟩
      · exact ⟨by show pos + 1 ≤ _; omega, fun j h0 h1 => by have h1' : j < 1 := h1; omega⟩
theorem blank_skip (l : List UInt8) : ∀ (n : Nat), n ≤ l.length → (∀ j, j < n → ∃ d, l[j]? = some d ∧ 128 ≤ d.toNat) → blank l true = n + blank (l.drop n) true := by
  induction l with
  | nil => intro n hn _; simp at hn; subst hn; simp
  | cons c r ih =>
    intro n hn hd
    cases n with
    | zero => simp
    | succ n =>
      obtain ⟨d, hd0, hd1⟩ := hd 0 (by omega)
      simp at hd0
      subst hd0
      have hc : c ≠ 10 := by rintro rfl; exact absurd hd1 (by decide)
      rw [blank, if_neg hc, List.drop_succ_cons, ih n (by simpa using hn) (fun j hj => by simpa using hd (j + 1) (by omega))]
      omega
theorem blankGo_eq (s : ByteArray) : ∀ (b pos : Nat) (c : Bool), pos ≤ s.size → s.size < pos + b → blankGo s b pos c = ((pos + blank ((bs s).drop pos) c : Nat) : Int)
  | 0, pos, c, hp, hb => by omega
  | b + 1, pos, c, hp, hb => by
    by_cases h : pos < s.size
    · obtain ⟨d, hd, hdg⟩ := get_bs s pos h
      have hdr : (bs s).drop pos = d :: (bs s).drop (pos + 1) := by
        obtain ⟨hl, e⟩ := List.getElem?_eq_some_iff.1 hd
        rw [List.drop_eq_getElem_cons hl, e]
      rw [blankGo, if_pos h]
      by_cases ha : d.toNat < 128
      · have hdec : Utf8.decode s pos = (d.toNat, 1) := by
          have e : s[pos]'h = d := by
            have := get_at s pos h
            rw [Nat.add_zero, hdg] at this
            exact this.symm
          rw [decode_ascii s pos h (by rw [e]; exact ha), e]
        have k10 : (d.toNat = 10) ↔ d = 10 := ⟨fun e => UInt8.toNat_inj.1 (by rw [e]; rfl), fun e => by rw [e]; rfl⟩
        have k32 : (d.toNat = 32) ↔ d = 32 := ⟨fun e => UInt8.toNat_inj.1 (by rw [e]; rfl), fun e => by rw [e]; rfl⟩
        have k35 : (d.toNat = 35) ↔ d = 35 := ⟨fun e => UInt8.toNat_inj.1 (by rw [e]; rfl), fun e => by rw [e]; rfl⟩
        rw [hdec, hdr]
        simp only [k10, k32, k35]
        have i0 := blankGo_eq s b (pos + 1) false (by omega) (by omega)
        have i1 := blankGo_eq s b (pos + 1) true (by omega) (by omega)
        by_cases h10 : d = 10
        · rw [if_pos h10, i0]
          cases c with
          | false => rw [blank, if_pos (.inr h10)]; congr 1; omega
          | true => rw [blank, if_pos h10]; congr 1; omega
        · rw [if_neg h10]
          cases c with
          | true => rw [if_pos (.inr rfl), i1, blank, if_neg h10]; congr 1; omega
          | false =>
            by_cases h32 : d = 32
            · rw [if_pos (.inl h32), i0, blank, if_pos (.inl h32)]; congr 1; omega
            · have n1 : ¬ (d = 32 ∨ false = true) := by
                rintro (h | h)
                · exact h32 h
                · cases h
              have n2 : ¬ (d = 32 ∨ d = 10) := by
                rintro (h | h)
                · exact h32 h
                · exact h10 h
              rw [if_neg n1, blank, if_neg n2]
              by_cases h35 : d = 35
              · rw [if_pos h35, if_pos h35, i1]; congr 1; omega
              · rw [if_neg h35, if_neg h35]; rfl
      · have ha' : 128 ≤ (s.get! pos).toNat := by rw [hdg]; omega
        have hw := decode_wide s pos h ha'
        have hh := decode_high s pos h (by
          have := get_at s pos h
          rw [Nat.add_zero] at this
          rw [← this]; exact ha')
        generalize hde : Utf8.decode s pos = de at hw hh ⊢
        rw [if_neg (by omega), if_neg (c := de.1 = 35) (by omega)]
        have hall : ∀ j, j < de.2 → ∃ x, ((bs s).drop pos)[j]? = some x ∧ 128 ≤ x.toNat := by
          intro j hj
          obtain ⟨x, hx, hxg⟩ := get_bs s (pos + j) (by omega)
          refine ⟨x, by rw [List.getElem?_drop]; exact hx, ?_⟩
          rw [← hxg]
          rcases Nat.eq_zero_or_pos j with rfl | h0
          · rw [Nat.add_zero]; exact ha'
          · exact hw.2 j h0 hj
        cases c with
        | true =>
          rw [if_pos (.inr rfl), blankGo_eq s b (pos + de.2) true hw.1 (by omega), blank_skip ((bs s).drop pos) de.2 (by rw [List.length_drop, bs_length]; omega) hall, List.drop_drop]
          congr 1
          omega
        | false =>
          have hn : d ≠ 10 ∧ d ≠ 32 ∧ d ≠ 35 := by
            refine ⟨?_, ?_, ?_⟩ <;> (rintro rfl; exact ha (by decide))
          rw [if_neg (by simp; omega), hdr, blank, if_neg (by simp [hn]), if_neg hn.2.2]
          rfl
    · rw [blankGo, if_neg h, List.drop_of_length_le (by rw [bs_length]; omega)]
      simp [blank]
      omega
theorem blank_f (s : ByteArray) : lexer_blank.f s = some ((blank (bs s) false : Nat) : Int) := by
  unfold lexer_blank.f
  rw [blankGo_eq s _ 0 false (Nat.zero_le _) (by omega), List.drop_zero, Nat.zero_add]
def Rel (a : S36) (t : Tok) : Prop := a.f0 = t.kind ∧ bs a.f1 = t.text ∧ a.f2 = t.int ∧ a.f3 = (t.at_ : Int)
inductive Rels : List S36 → List Tok → Prop where
  | nil : Rels [] []
  | cons {a t xs ts} : Rel a t → Rels xs ts → Rels (a :: xs) (t :: ts)
theorem Rels.append {xs ys ts us} (h : Rels xs ts) (k : Rels ys us) : Rels (xs ++ ys) (ts ++ us) := by
  induction h with
  | nil => exact k
  | cons h1 _ ih => exact .cons h1 ih
theorem Rels.length {xs ts} (h : Rels xs ts) : xs.length = ts.length := by
  induction h with
  | nil => rfl
  | cons _ _ ih => simp [ih]
theorem tokens_step (s : ByteArray) (acc : List S36) (p n b : Nat) (o : Int × ByteArray × Int × Int × Int × Int) (hlt : p < s.size) (hone : Ev (fun k => lexer_one.f k (s.extract (p : Int).toNat s.size)) o) (he : o.2.2.2.2.2 = 0) (hn : o.2.2.2.2.1 = (n : Int))
    (hs : s.size ≤ 16384) (hpn : p + n ≤ s.size) (hacc : acc.length ≤ p) (hbf : lexer_blank.f (s.extract (((p + n : Nat) : Int)).toNat s.size) = some (b : Int)) (hb : p + n + b ≤ s.size) (res : List S36 × Int × Int)
    (hres : Ev (fun k => lexer_Tokens.l0 k s (acc ++ [(⟨o.1, o.2.1, o.2.2.1, (p : Int)⟩ : S36)]) ((p + n + b : Nat) : Int)) res) : Ev (fun k => lexer_Tokens.l0 k s acc p) res := by
  have e1 : wrap64 ((p : Int) + o.2.2.2.2.1) = ((p + n : Nat) : Int) := by
    rw [hn, wrap_in (by omega) (by omega)]
    omega
  have e2 : wrap64 (((p + n : Nat) : Int) + (b : Int)) = ((p + n + b : Nat) : Int) := by
    rw [wrap_in (by omega) (by omega)]
    omega
  have q1 : (p : Int) < (s.size : Int) := by omega
  have q2 : 0 ≤ (p : Int) := by omega
  have q3 : (p : Int) ≤ (s.size : Int) := by omega
  have q4 : acc.length < 3518437208883 := by omega
  have q5 : 0 ≤ ((p + n : Nat) : Int) := by omega
  have q6 : ((p + n : Nat) : Int) ≤ (s.size : Int) := by omega
  refine Ev.next (fun k => by rw [lexer_Tokens.l0]) ?_
  refine Ev.pos q1 (Ev.pos q2 (Ev.pos q3 ?_))
  refine Ev.both hone ?_
  refine Ev.pos he ?_
  refine Ev.pos q4 ?_
  rw [e1]
  refine Ev.pos q5 (Ev.pos q6 ?_)
  refine Ev.bindS hbf ?_
  rw [e2]
  exact hres
theorem tokens_bad (s : ByteArray) (acc : List S36) (p : Nat) (o : Int × ByteArray × Int × Int × Int × Int) (hlt : p < s.size) (hone : Ev (fun k => lexer_one.f k (s.extract (p : Int).toNat s.size)) o) (he : o.2.2.2.2.2 ≠ 0) : Ev (fun k => lexer_Tokens.l0 k s acc p) ([], (p : Int), o.2.2.2.2.2) := by
  have q1 : (p : Int) < (s.size : Int) := by omega
  have q2 : 0 ≤ (p : Int) := by omega
  have q3 : (p : Int) ≤ (s.size : Int) := by omega
  refine Ev.next (fun k => by rw [lexer_Tokens.l0]) ?_
  refine Ev.pos q1 (Ev.pos q2 (Ev.pos q3 ?_))
  refine Ev.both hone ?_
  exact Ev.neg he (Ev.done fun _ => rfl)
theorem tokens_end (s : ByteArray) (acc : List S36) (p : Nat) (hlt : ¬ p < s.size) : Ev (fun k => lexer_Tokens.l0 k s acc p) (acc, 0, 0) := by
  have q1 : ¬ (p : Int) < (s.size : Int) := by omega
  refine Ev.next (fun k => by rw [lexer_Tokens.l0]) ?_
  exact Ev.neg q1 (Ev.done fun _ => rfl)
def Outs (acc : List S36) (r : List Tok × Int × Int) (o : List S36 × Int × Int) : Prop :=
  ∃ xs, Rels xs r.1 ∧ o = (if r.2.2 = 0 then acc ++ xs else [], r.2.1, r.2.2)
theorem bs_tail (s : ByteArray) (p : Nat) : bs (s.extract (p : Int).toNat s.size) = (bs s).drop p := by
  rw [bs_extract, Int.toNat_natCast]
  exact List.take_of_length_le (by rw [List.length_drop, bs_length]; omega)
theorem lexGo_shape : ∀ (f p : Nat) (l : List UInt8), (lexGo f p l).2.2 = 0 → (lexGo f p l).2.1 = 0
  | 0, _, _, _ => rfl
  | f + 1, p, l, h => by
    rw [lexGo] at h ⊢
    split
    · rfl
    · rename_i hl
      rw [if_neg hl] at h
      simp only at h ⊢
      split
      · rename_i h1; rw [if_pos h1] at h; exact absurd h h1
      · rename_i h1
        rw [if_neg h1] at h
        split
        · rename_i h2; rw [if_pos h2] at h; exact absurd h h2
        · rfl
theorem tokens_loop (s : ByteArray) (hs : s.size ≤ 16384) : ∀ (f p : Nat) (acc : List S36), p ≤ s.size → s.size < p + f → acc.length ≤ p →
    ∃ o, Ev (fun k => lexer_Tokens.l0 k s acc p) o ∧ Outs acc (lexGo f p ((bs s).drop p)) o
  | 0, p, acc, h1, h2, h3 => by omega
  | f + 1, p, acc, h1, h2, h3 => by
    by_cases hlt : p < s.size
    · have hlen : ((bs s).drop p).length = s.size - p := by rw [List.length_drop, bs_length]
      have hne : (bs s).drop p ≠ [] := by
        intro e
        rw [e] at hlen
        simp at hlen
        omega
      have hone := one_ev (s.extract (p : Int).toNat s.size) (by rw [bs_tail]; exact hne) (by rw [size_extract]; omega)
      rw [bs_tail] at hone
      have htl := tk_len ((bs s).drop p)
      rw [hlen] at htl
      rw [lexGo, if_neg hne]
      simp only [List.drop_drop]
      generalize tk ((bs s).drop p) = t at hone htl ⊢
      by_cases he : t.2.2.2.2 = 0
      · have htl := htl he
        rw [if_neg (show ¬ t.2.2.2.2 ≠ 0 from fun h => h he)]
        have hbl := blank_le ((bs s).drop (p + t.2.2.2.1)) false
        rw [List.length_drop, bs_length] at hbl
        have hbf := blank_f (s.extract (((p + t.2.2.2.1 : Nat) : Int)).toNat s.size)
        rw [bs_tail] at hbf
        generalize blank ((bs s).drop (p + t.2.2.2.1)) false = b at hbl hbf ⊢
        obtain ⟨o, hev, xs, hrel, ho⟩ := tokens_loop s hs f (p + t.2.2.2.1 + b) (acc ++ [(⟨t.1, ⟨t.2.1.toArray⟩, t.2.2.1, (p : Int)⟩ : S36)]) (by omega) (by omega) (by simp; omega)
        have hres := tokens_step s acc p t.2.2.2.1 b (outP t) hlt hone he rfl hs (by omega) h3 hbf (by omega) o hev
        have hsh := lexGo_shape f (p + t.2.2.2.1 + b) ((bs s).drop (p + t.2.2.2.1 + b))
        generalize lexGo f (p + t.2.2.2.1 + b) ((bs s).drop (p + t.2.2.2.1 + b)) = r at hrel ho hsh ⊢
        refine ⟨o, hres, ?_⟩
        by_cases hr : r.2.2 = 0
        · rw [if_neg (fun h => h hr)]
          refine ⟨(⟨t.1, ⟨t.2.1.toArray⟩, t.2.2.1, (p : Int)⟩ : S36) :: xs, .cons ⟨rfl, rfl, rfl, rfl⟩ hrel, ?_⟩
          rw [ho, if_pos hr, hr, hsh hr, List.append_assoc]
          rfl
        · rw [if_pos hr]
          refine ⟨[], .nil, ?_⟩
          rw [ho, if_neg hr, if_neg hr]
      · rw [if_pos he]
        exact ⟨_, tokens_bad s acc p _ hlt hone he, [], .nil, by rw [if_neg he]; rfl⟩
    · have hnil : (bs s).drop p = [] := List.drop_of_length_le (by rw [bs_length]; omega)
      rw [hnil, lexGo, if_pos rfl]
      exact ⟨_, tokens_end s acc p hlt, [], .nil, by simp⟩
theorem tokens_ev (s : ByteArray) (hs : s.size ≤ 4611686018427387904) : ∃ o, Ev (fun k => lexer_Tokens.f k s) o ∧ Outs [] (lex (bs s)) o := by
  unfold lexer_Tokens.f lex
  by_cases hbig : 16384 < s.size
  · rw [if_pos (show 16384 < (bs s).length from hbig)]
    exact ⟨_, Ev.pos (by omega) (Ev.done fun _ => rfl), [], .nil, rfl⟩
  · have hbl := blank_le (bs s) false
    rw [if_neg (show ¬ 16384 < (bs s).length from hbig)]
    obtain ⟨o, hev, ho⟩ := tokens_loop s (by omega) ((bs s).length + 1) (blank (bs s) false) [] hbl (by rw [bs_length]; omega) (by simp)
    exact ⟨o, Ev.neg (by omega) (Ev.bindS (blank_f s) hev), ho⟩
end Go.Proofs.YtifhmdlgjojodaaDoor.Lex
end
section
namespace Go.Proofs.YtifhmdlgjojodaaDoor.Lex
open Go.RowKit Go.Proofs.YtifhmdlgjojodaaDoor.Q Go.Proofs.YtifhmdlgjojodaaDoorW.PrintWords
set_option maxRecDepth 100000 in
theorem lives_f : tapearchivelaw28_lives.f 40 = some true := by kernel_rfl
end Go.Proofs.YtifhmdlgjojodaaDoor.Lex
end
section
namespace Go.Proofs.YtifhmdlgjojodaaDoor.Lex
open Go.RowKit Go.Proofs.YtifhmdlgjojodaaDoor.Q Go.Proofs.YtifhmdlgjojodaaDoorW.PrintWords Go.Proofs.YtifhmdlgjojodaaDoorW.PrintMore Go.Proofs.YtifhmdlgjojodaaDoorW.EvMore
theorem lives_ev : Ev (fun k => tapearchivelaw28_lives.f k) true := by
  refine ⟨40, fun k hk => ?_⟩
  induction k with
  | zero => omega
  | succ k ih =>
    by_cases h : 40 ≤ k
    · exact tapearchivelaw28_lives.mono k _ (ih h)
    · have : k + 1 = 40 := by omega
      rw [this]
      exact lives_f
theorem Rels.get {xs ts} (h : Rels xs ts) : ∀ i, i < xs.length → ∃ t, ts[i]? = some t ∧ Rel (xs.getD i z36) t := by
  induction h with
  | nil => intro i hi; simp at hi
  | @cons a t xs ts h1 _ ih =>
    intro i hi
    cases i with
    | zero => exact ⟨t, rfl, h1⟩
    | succ i =>
      obtain ⟨u, hu, hr⟩ := ih i (by simpa using hi)
      exact ⟨u, by simpa using hu, by simpa using hr⟩
end Go.Proofs.YtifhmdlgjojodaaDoor.Lex
end
section
namespace Go.Proofs.YtifhmdlgjojodaaDoor.Lex
open Go.RowKit Go.Proofs.YtifhmdlgjojodaaDoor.Q Go.Proofs.YtifhmdlgjojodaaDoorW.PrintWords Go.Proofs.YtifhmdlgjojodaaDoorW.PrintMore Go.Proofs.YtifhmdlgjojodaaDoorW.EvMore
def isName : List UInt8 → Bool
  | [] => false
  | c :: r => !dig c && c != 45 && (c :: r).all nam
def quo (t : List UInt8) : List UInt8 := if t.all pln = true then 34 :: t ++ [34] else []
def wd (k : Int) (t : List UInt8) (n : Int) : List UInt8 :=
  if k = 2 then (if t = [] ∧ 0 ≤ n ∧ n ≤ 1125899906842624 then Lib.decDigits n.toNat else [])
  else if k = 3 then (if n = 0 then quo t else [])
  else if k = 1 then (if n = 0 ∧ isName t = true then t else [])
  else if k = 4 then (if n = 0 ∧ symT t = true then t else [])
  else []
theorem dec_len : ∀ (d u : Nat), 1 ≤ d → u < 10 ^ d → (Lib.decDigits u).length ≤ d
  | 0, u, h, _ => by omega
  | d + 1, u, _, h => by
    rw [Lib.decDigits]
    split
    · simp
    · rename_i hu
      have h1 : u / 10 < 10 ^ d := by rw [Nat.pow_succ] at h; omega
      have hd : 1 ≤ d := by
        cases d with
        | zero => simp at h1; omega
        | succ d => omega
      have := dec_len d (u / 10) hd h1
      simp only [List.length_append, List.length_cons, List.length_nil]
      omega
end Go.Proofs.YtifhmdlgjojodaaDoor.Lex
end
section
namespace Go.Proofs.YtifhmdlgjojodaaDoor.Lex
open Go.RowKit Go.Proofs.YtifhmdlgjojodaaDoor.Q Go.Proofs.YtifhmdlgjojodaaDoorW.PrintWords Go.Proofs.YtifhmdlgjojodaaDoorW.PrintMore Go.Proofs.YtifhmdlgjojodaaDoorW.EvMore
theorem byte_all (P : UInt8 → Bool) (h : ∀ n : Fin 256, P (UInt8.ofNat n.val) = true) (c : UInt8) : P c = true := by
  have := h ⟨c.toNat, c.toNat_lt⟩
  simpa using this
theorem sep_facts (c : UInt8) (h : c = 32 ∨ c = 10 ∨ c = 35) : nam c = false ∧ dig c = false := by
  rcases h with rfl | rfl | rfl <;> decide
theorem nam_facts (c : UInt8) (h : nam c = true) : c ≠ 34 ∧ c ≠ 32 ∧ c ≠ 10 ∧ c ≠ 35 := by
  have := byte_all (fun c => !nam c || (c != 34 && c != 32 && c != 10 && c != 35)) (by decide +kernel) c
  simp only [h, Bool.not_true, Bool.false_or, Bool.and_eq_true, bne_iff_ne, ne_eq] at this
  obtain ⟨⟨⟨a, b⟩, c⟩, d⟩ := this
  exact ⟨a, b, c, d⟩
theorem dig_nam (c : UInt8) (h : dig c = true) : nam c = true := by simp [nam, h]
def Sepd (r : List UInt8) : Prop := r = [] ∨ ∃ c r', r = c :: r' ∧ (c = 32 ∨ c = 10 ∨ c = 35)
theorem tw_app (p : UInt8 → Bool) (a r : List UInt8) (ha : a.all p = true) (hr : r.takeWhile p = []) : (a ++ r).takeWhile p = a := by
  rw [List.takeWhile_append_of_pos (fun x h => List.all_eq_true.1 ha x h), hr, List.append_nil]
theorem Sepd.nam {r : List UInt8} (h : Sepd r) : r.takeWhile nam = [] := by
  rcases h with rfl | ⟨c, r', rfl, hc⟩
  · rfl
  · rw [List.takeWhile_cons, (sep_facts c hc).1]; rfl
theorem Sepd.dig {r : List UInt8} (h : Sepd r) : r.takeWhile dig = [] := by
  rcases h with rfl | ⟨c, r', rfl, hc⟩
  · rfl
  · rw [List.takeWhile_cons, (sep_facts c hc).2]; rfl
theorem val_append (a : List UInt8) (c : UInt8) : val (a ++ [c]) = 10 * val a + (c.toNat - 48) := val_snoc a c
theorem dec_facts : ∀ (d u : Nat), u < 10 ^ d → (Lib.decDigits u).all dig = true ∧ val (Lib.decDigits u) = u ∧ (1 < (Lib.decDigits u).length → (Lib.decDigits u).head? ≠ some 48) ∧ (Lib.decDigits u ≠ []) ∧ (1 ≤ u → (Lib.decDigits u).head? ≠ some 48)
  | 0, u, h => by
    have : u = 0 := by simp at h; omega
    subst this
    refine ⟨by decide +kernel, by decide +kernel, by decide +kernel, by decide +kernel, by omega⟩
  | d + 1, u, h => by
    have one : ∀ n : Fin 10, dig (UInt8.ofNat (48 + n.val)) = true ∧ (UInt8.ofNat (48 + n.val)).toNat = 48 + n.val ∧ (UInt8.ofNat (48 + n.val) = 48 → n.val = 0) := by decide +kernel
    by_cases hu : u < 10
    · obtain ⟨h1, h2, h3⟩ := one ⟨u, hu⟩
      simp only at h1 h2 h3
      rw [Lib.decDigits, dif_pos hu]
      generalize UInt8.ofNat (48 + u) = c at h1 h2 h3 ⊢
      refine ⟨by simp [h1], by simp [val, h2], by simp, by simp, ?_⟩
      intro hp he
      have := h3 (Option.some.inj he)
      omega
    · obtain ⟨h1, h2, h3⟩ := one ⟨u % 10, Nat.mod_lt _ (by omega)⟩
      simp only at h1 h2 h3
      obtain ⟨i1, i2, i3, i4, i5⟩ := dec_facts d (u / 10) (by rw [Nat.pow_succ] at h; omega)
      have i6 := i5 (by omega)
      have hh : (Lib.decDigits (u / 10) ++ [UInt8.ofNat (48 + u % 10)]).head? = (Lib.decDigits (u / 10)).head? := by
        obtain ⟨a, r, e⟩ := List.exists_cons_of_ne_nil i4
        rw [e]
        rfl
      rw [Lib.decDigits, dif_neg hu]
      generalize UInt8.ofNat (48 + u % 10) = c at h1 h2 h3 hh ⊢
      refine ⟨by rw [List.all_append, i1]; simp [h1], by rw [val_append, i2, h2]; omega, fun _ => ?_, by simp, fun _ => ?_⟩
      · rw [hh]; exact i6
      · rw [hh]; exact i6
def wx (x : S36) : List UInt8 := wd x.f0 (bs x.f1) x.f2
def body : List (S36 × List UInt8) → List UInt8
  | [] => []
  | (x, g) :: r => wx x ++ (g ++ body r)
end Go.Proofs.YtifhmdlgjojodaaDoor.Lex
end
section
namespace Go.Proofs.YtifhmdlgjojodaaDoor.Q
open Go.RowKit Go.Proofs.YtifhmdlgjojodaaDoorW.PrintWords Go.Proofs.YtifhmdlgjojodaaDoorW.PrintLast Go.Proofs.YtifhmdlgjojodaaDoorW.PrintMore
attribute [local go_sem] max2_int min2_int max_two min_two max_three min_three max_four min_four
attribute [local go_sem ↓] isSome_setCell
set_option linter.unusedVariables false
set_option linter.unusedSimpArgs false
end Go.Proofs.YtifhmdlgjojodaaDoor.Q
end
section
namespace Go.Proofs.YtifhmdlgjojodaaDoor.Lex
open Go.RowKit Go.Proofs.YtifhmdlgjojodaaDoor.Q Go.Proofs.YtifhmdlgjojodaaDoorW.PrintWords Go.Proofs.YtifhmdlgjojodaaDoorW.PrintMore Go.Proofs.YtifhmdlgjojodaaDoorW.EvMore
theorem str_one (n : Nat) (h : n < 10) : strOfNums [wrap64 (48 + (n : Int)) % 256] = ⟨#[UInt8.ofNat (48 + n)]⟩ := by
  have key : ∀ n : Fin 10, strOfNums [wrap64 (48 + (n.val : Int)) % 256] = ⟨#[UInt8.ofNat (48 + n.val)]⟩ := by decide +kernel
  exact key ⟨n, h⟩
theorem rdec_loop : ∀ (d n : Nat) (s : ByteArray), n < 10 ^ d → s.size + d ≤ 1000 → n ≤ 9223372036854775807 → Ev (fun k => tapearchiveref28_Decimal.l0 k n s) ⟨((if n < 10 then [] else Lib.decDigits (n / 10)) ++ bs s).toArray⟩
  | 0, n, s, h1, h2, h3 => by
    have : n = 0 := by simp at h1; omega
    subst this
    refine Ev.next (fun k => by rw [tapearchiveref28_Decimal.l0]) ?_
    exact Ev.neg (by omega) (Ev.done fun _ => rfl)
  | d + 1, n, s, h1, h2, h3 => by
    refine Ev.next (fun k => by rw [tapearchiveref28_Decimal.l0]) ?_
    by_cases hn : n < 10
    · have e : (if n < 10 then [] else Lib.decDigits (n / 10)) = ([] : List UInt8) := if_pos hn
      rw [e]
      exact Ev.neg (by omega) (Ev.done fun _ => rfl)
    · have e : (if n < 10 then [] else Lib.decDigits (n / 10)) = Lib.decDigits (n / 10) := if_neg hn
      have e1 : wrap64 (Int.tdiv (n : Int) 10) = ((n / 10 : Nat) : Int) := by
        rw [show Int.tdiv (n : Int) 10 = ((n / 10 : Nat) : Int) from rfl]
        exact wrap_nat (by omega)
      have e2 : Int.tmod ((n / 10 : Nat) : Int) 10 = ((n / 10 % 10 : Nat) : Int) := rfl
      rw [e, e1, e2]
      clear e1 e2
      have hm : n / 10 % 10 < 10 := Nat.mod_lt _ (by omega)
      have ih := rdec_loop d (n / 10) ((⟨#[UInt8.ofNat (48 + n / 10 % 10)]⟩ : ByteArray) ++ s) (by rw [Nat.pow_succ] at h1; omega) (by rw [ByteArray.size_append]; show 1 + s.size + d ≤ 1000; omega) (by omega)
      have hd : Lib.decDigits (n / 10) ++ bs s = (if n / 10 < 10 then [] else Lib.decDigits (n / 10 / 10)) ++ bs ((⟨#[UInt8.ofNat (48 + n / 10 % 10)]⟩ : ByteArray) ++ s) := by
        rw [bs_append, Lib.decDigits]
        split
        · rename_i h10
          rw [Nat.mod_eq_of_lt h10]
          rfl
        · rw [List.append_assoc]
          rfl
      rw [hd]
      refine Ev.pos (by omega) (Ev.bindS rfl ?_)
      rw [str_one _ hm]
      refine Ev.pos ?_ ih
      show 1 + s.size ≤ _
      omega
theorem rdec_ev (n : Nat) (h : n ≤ 9223372036854775807) : Ev (fun k => tapearchiveref28_Decimal.f k n) ⟨(Lib.decDigits n).toArray⟩ := by
  have hm : n % 10 < 10 := Nat.mod_lt _ (by omega)
  have hl := rdec_loop 20 n ⟨#[UInt8.ofNat (48 + n % 10)]⟩ (by omega) (by show 1 + 20 ≤ 1000; omega) h
  have hd : Lib.decDigits n = (if n < 10 then [] else Lib.decDigits (n / 10)) ++ bs (⟨#[UInt8.ofNat (48 + n % 10)]⟩ : ByteArray) := by
    rw [Lib.decDigits]
    split
    · rename_i h10
      rw [Nat.mod_eq_of_lt h10]
      rfl
    · rfl
  unfold tapearchiveref28_Decimal.f
  rw [hd, show Int.tmod (n : Int) 10 = ((n % 10 : Nat) : Int) from rfl, str_one _ hm]
  exact hl
end Go.Proofs.YtifhmdlgjojodaaDoor.Lex
end
section
namespace Go.Proofs.YtifhmdlgjojodaaDoor.Lex
open Go.RowKit Go.Proofs.YtifhmdlgjojodaaDoor.Q Go.Proofs.YtifhmdlgjojodaaDoorW.PrintWords Go.Proofs.YtifhmdlgjojodaaDoorW.PrintMore Go.Proofs.YtifhmdlgjojodaaDoorW.EvMore
theorem tokens_ok (s : ByteArray) (hs : s.size ≤ 4611686018427387904) (ts : List Tok) (h : lex (bs s) = (ts, 0, 0)) : ∃ xs, Ev (fun k => lexer_Tokens.f k s) (xs, 0, 0) ∧ Rels xs ts := by
  obtain ⟨o, ho, xs, hx, e⟩ := tokens_ev s hs
  rw [h] at e hx
  refine ⟨xs, ?_, hx⟩
  simp only [if_true, List.nil_append] at e
  rw [← e]
  exact ho
theorem tokens_err (s : ByteArray) (hs : s.size ≤ 4611686018427387904) (p e : Int) (h : lex (bs s) = ([], p, e)) (he : e ≠ 0) : Ev (fun k => lexer_Tokens.f k s) ([], p, e) := by
  obtain ⟨o, ho, xs, hx, eo⟩ := tokens_ev s hs
  rw [h] at eo hx
  simp only [if_neg he] at eo
  rw [← eo]
  exact ho
end Go.Proofs.YtifhmdlgjojodaaDoor.Lex
end
section
namespace Go.Proofs.YtifhmdlgjojodaaDoor.Lex
open Go.RowKit Go.Proofs.YtifhmdlgjojodaaDoor.Q Go.Proofs.YtifhmdlgjojodaaDoorW.PrintWords Go.Proofs.YtifhmdlgjojodaaDoorW.PrintMore Go.Proofs.YtifhmdlgjojodaaDoorW.EvMore
theorem unit_char {c : UInt8} (h : (unit [c]).2 = true) : nam c = true ∧ dig c = false := by
  have := byte_all (fun c => !(unit [c]).2 || (nam c && !dig c)) (by decide +kernel) c
  simpa [h] using this
theorem lex_unit (m : Nat) (c : UInt8) (hm : m < 4294967296) (hu : (unit [c]).2 = true) :
    lex (Lib.decDigits m ++ [c]) = if 1125899906842624 / (unit [c]).1 < m then ([], 0, 7) else ([⟨2, [], ((m * (unit [c]).1 : Nat) : Int), 0⟩], 0, 0) := by
  obtain ⟨hn, hd⟩ := unit_char hu
  obtain ⟨h1, h2, h3, h4, _⟩ := dec_facts 10 m (by omega)
  have hl := dec_len 10 m (by omega) (by omega)
  have hds : (Lib.decDigits m ++ [c]).takeWhile dig = Lib.decDigits m := tw_app dig _ _ h1 (by rw [List.takeWhile_cons, hd]; rfl)
  have hrs : ([c] : List UInt8).takeWhile nam = [c] := by rw [List.takeWhile_cons, hn]; rfl
  have hnum : numTk (Lib.decDigits m ++ [c]) = if 1125899906842624 / (unit [c]).1 < m then bad 7 else (2, [], ((m * (unit [c]).1 : Nat) : Int), (Lib.decDigits m).length + 1, 0) := by
    unfold numTk
    simp only
    rw [hds, List.drop_left, hrs, if_neg (by simp), if_pos hu]
    unfold numFin
    rw [if_neg (fun h => h3 h.1 h.2), h2]
    rfl
  obtain ⟨a, t, e⟩ := List.exists_cons_of_ne_nil h4
  rw [e] at hnum h1 hl ⊢
  have hda : dig a = true := by simp at h1; exact h1.1
  obtain ⟨_, n1, n2, n3⟩ := nam_facts a (dig_nam a hda)
  have hb : blank (a :: t ++ [c]) false = 0 := by rw [List.cons_append, blank, if_neg (by rintro (h | h); exact n1 h; exact n2 h), if_neg n3]
  have htk : tk (a :: t ++ [c]) = numTk (a :: t ++ [c]) := by rw [List.cons_append, tk, if_pos hda]
  have hlen : (a :: t ++ [c]).length = (a :: t).length + 1 := by simp
  unfold lex
  rw [if_neg (by omega), hb, List.drop_zero, hlen, lexGo, if_neg (by simp)]
  simp only
  rw [htk, hnum]
  by_cases hr : 1125899906842624 / (unit [c]).1 < m
  · rw [if_pos hr, if_pos hr]
    rfl
  · rw [if_neg hr, if_neg hr]
    simp only
    rw [List.drop_of_length_le (l := a :: t ++ [c]) (by omega)]
    simp [blank, lexGo]
theorem units_law : SLexerUnits.Pure := by
  intro x0 x1 hx0 hx1
  suffices h : Ev (fun k => tapearchivelaw28_LexerUnits.f k x0 x1) true from Ev.get h
  have b0 : 0 ≤ x0 ∧ x0 < 4294967296 := by
    have e1 : IntKind.u32.min = 0 := by decide
    have e2 : IntKind.u32.max = 4294967295 := by decide
    simp [Lit.wf, e1, e2] at hx0
    omega
  have b1 : 0 ≤ x1 ∧ x1 < 256 := by
    have e1 : IntKind.u8.min = 0 := by decide
    have e2 : IntKind.u8.max = 255 := by decide
    simp [Lit.wf, e1, e2] at hx1
    omega
  obtain ⟨m, rfl⟩ : ∃ m : Nat, x0 = (m : Int) := ⟨x0.toNat, by omega⟩
  obtain ⟨n, rfl⟩ : ∃ n : Nat, x1 = (n : Int) := ⟨x1.toNat, by omega⟩
  have ew0 : wrap64 (m : Int) = (m : Int) := wrap_nat (by omega)
  have ew1 : wrap64 (n : Int) = (n : Int) := wrap_nat (by omega)
  unfold tapearchivelaw28_LexerUnits.f
  rw [ew0, ew1]
  clear ew0 ew1
  refine Ev.bindS rfl ?_
  rw [show (([⟨#[75]⟩, ⟨#[77]⟩, ⟨#[115]⟩, ⟨#[109]⟩, ⟨#[104]⟩, ⟨#[100]⟩] : List ByteArray).length : Int) = 6 from rfl]
  have et : Int.tmod (n : Int) 6 = ((n % 6 : Nat) : Int) := rfl
  rw [et]
  have hlt : n % 6 < 6 := Nat.mod_lt _ (by omega)
  generalize n % 6 = j at hlt
  have hu : ∃ c, rdOf ByteArray.empty ([⟨#[75]⟩, ⟨#[77]⟩, ⟨#[115]⟩, ⟨#[109]⟩, ⟨#[104]⟩, ⟨#[100]⟩] : List ByteArray) (j : Int) = ⟨#[c]⟩ ∧ (unit [c]).2 = true := by
    unfold rdOf
    rw [Int.toNat_natCast]
    match j, hlt with
    | 0, _ => exact ⟨75, rfl, by decide⟩
    | 1, _ => exact ⟨77, rfl, by decide⟩
    | 2, _ => exact ⟨115, rfl, by decide⟩
    | 3, _ => exact ⟨109, rfl, by decide⟩
    | 4, _ => exact ⟨104, rfl, by decide⟩
    | 5, _ => exact ⟨100, rfl, by decide⟩
  obtain ⟨c, ec, hc⟩ := hu
  rw [ec]
  clear ec
  obtain ⟨u1, u2, _⟩ := unit_one hc
  have hlex := lex_unit m c (by omega) hc
  have hl := dec_len 10 m (by omega) (by omega)
  have hmul : m * (unit [c]).1 ≤ 4294967296 * 1048576 := Nat.mul_le_mul (by omega) u2
  have hdiv : 1125899906842624 / (unit [c]).1 ≤ 1125899906842624 := Nat.div_le_self _ _
  have huf : lexer_Unit.f ⟨#[c]⟩ = some (((unit [c]).1 : Int), (unit [c]).2) := unit_f ⟨#[c]⟩
  refine Ev.neg (by decide) (Ev.pos (by omega) (Ev.pos (by omega) (Ev.bindS huf (Ev.both (rdec_ev m (by omega)) (Ev.pos ?_ ?_)))))
  · show (Lib.decDigits m).length + 1 ≤ _
    omega
  have hbs : bs ((⟨(Lib.decDigits m).toArray⟩ : ByteArray) ++ ⟨#[c]⟩) = Lib.decDigits m ++ [c] := by rw [bs_append]; rfl
  have hsz : ((⟨(Lib.decDigits m).toArray⟩ : ByteArray) ++ ⟨#[c]⟩).size ≤ 4611686018427387904 := by rw [← bs_length, hbs, List.length_append]; simp only [List.length_cons, List.length_nil]; omega
  generalize ((⟨(Lib.decDigits m).toArray⟩ : ByteArray) ++ ⟨#[c]⟩) = s at *
  rw [← hbs] at hlex
  have jn : ∀ ts e, Ev (fun k => lexer_Tokens.f k s) (ts, (0 : Int), e) → Ev (fun k => tapearchivelaw28_LexerUnits.j0 k (m : Int) ((unit [c]).1 : Int) ts e false) true → Ev (fun k => (lexer_Tokens.f k s).bind fun bt342 => if (((unit [c]).1 : Int), (unit [c]).2).2 = true then (if (((unit [c]).1 : Int), (unit [c]).2).1 < 1 then tapearchivelaw28_LexerUnits.j0 k (m : Int) (((unit [c]).1 : Int), (unit [c]).2).1 bt342.1 bt342.2.2 true else ((tapearchivelaw28_lives.f k).bind fun t347 => tapearchivelaw28_LexerUnits.j0 k (m : Int) (((unit [c]).1 : Int), (unit [c]).2).1 bt342.1 bt342.2.2 (!t347))) else tapearchivelaw28_LexerUnits.j0 k (m : Int) (((unit [c]).1 : Int), (unit [c]).2).1 bt342.1 bt342.2.2 true) true := by
    intro ts e h1 h2
    have q : ¬ ((unit [c]).1 : Int) < 1 := by omega
    exact Ev.both h1 (Ev.pos hc (Ev.neg q (Ev.both lives_ev h2)))
  have et : wrap64 (Int.tdiv (1125899906842624 : Int) ((unit [c]).1 : Int)) = ((1125899906842624 / (unit [c]).1 : Nat) : Int) := by
    rw [show (1125899906842624 : Int) = ((1125899906842624 : Nat) : Int) from rfl, tdiv_nat]
    exact wrap_nat (by omega)
  have f0 : ¬ ((unit [c]).1 : Int) = 0 := by omega
  by_cases hr : 1125899906842624 / (unit [c]).1 < m
  · rw [if_pos hr] at hlex
    refine jn [] 7 (tokens_err s hsz 0 7 hlex (by decide)) ?_
    refine Ev.next (fun k => by rw [tapearchivelaw28_LexerUnits.j0]) ?_
    rw [et, wrap_nat (n := m) (by omega)]
    clear et
    have g : (m : Int) > ((1125899906842624 / (unit [c]).1 : Nat) : Int) := Int.ofNat_lt.2 hr
    exact Ev.neg (by simp) (Ev.neg f0 (Ev.pos g (Ev.done fun _ => rfl)))
  · rw [if_neg hr] at hlex
    obtain ⟨xs, hx, hrel⟩ := tokens_ok s hsz _ hlex
    refine jn xs 0 hx ?_
    refine Ev.next (fun k => by rw [tapearchivelaw28_LexerUnits.j0]) ?_
    rw [et, wrap_nat (n := m) (by omega)]
    clear et
    have g : ¬ (m : Int) > ((1125899906842624 / (unit [c]).1 : Nat) : Int) := fun h => hr (Int.ofNat_lt.1 h)
    cases hrel with
    | @cons a _ ys _ h1 h2 =>
      cases h2
      have e1 : wrap64 ((m : Int) * ((unit [c]).1 : Int)) = ((m * (unit [c]).1 : Nat) : Int) := by
        rw [show (m : Int) * ((unit [c]).1 : Int) = ((m * (unit [c]).1 : Nat) : Int) from by simp]
        exact wrap_nat (by omega)
      rw [e1]
      refine Ev.neg (by simp) (Ev.neg f0 (Ev.neg g (Ev.pos rfl (Ev.pos rfl (Ev.pos (by simp) (Ev.pos h1.1 (Ev.done fun _ => ?_)))))))
      have : (rd_T36 [a] 0).f2 = ((m * (unit [c]).1 : Nat) : Int) := h1.2.2.1
      rw [this]
      simp
end Go.Proofs.YtifhmdlgjojodaaDoor.Lex
namespace Go.Proofs.YtifhmdlgjojodaaDoor.Pure
theorem LexerUnits : Go.Proofs.YtifhmdlgjojodaaDoor.SLexerUnits.Pure := Lex.units_law
end Go.Proofs.YtifhmdlgjojodaaDoor.Pure
end
