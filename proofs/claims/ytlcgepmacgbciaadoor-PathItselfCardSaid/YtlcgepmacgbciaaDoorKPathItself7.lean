import Derived.Test.YtlcgepmacgbciaaDoorKPathItself6
set_option linter.unusedVariables false
set_option linter.unusedSimpArgs false
namespace Go.Proofs.YtlcgepmacgbciaaDoorW.Opens
end Go.Proofs.YtlcgepmacgbciaaDoorW.Opens
section
namespace Go.Proofs.YtlcgepmacgbciaaDoor.Q
open Go.RowKit Go.Proofs.YtlcgepmacgbciaaDoorW.PrintWords Go.Proofs.YtlcgepmacgbciaaDoorW.PrintLast Go.Proofs.YtlcgepmacgbciaaDoorW.PrintMore
attribute [local go_sem] max2_int min2_int max_two min_two max_three min_three max_four min_four
attribute [local go_sem ↓] isSome_setCell
attribute [local go_sem] string_gtr
set_option linter.unusedVariables false
set_option linter.unusedSimpArgs false
def tapearchivelaw19_PathItself.j0 : Nat → ByteArray → ByteArray → Bool → Option (Bool)
  | 0, _, _, _ => none
  | k + 1, x0, x1, x22 => if x22 = true then ((tapearchivelaw19_awake.f k).bind fun t336 => (some t336)) else ((path_Pattern.f k x0).bind fun t337 => (if t337 = true then ((path_Match.f k x0 x0).bind fun t338 => (if t338 = true then ((path_Match.f k x0 x1).bind fun t339 => (if (t339 == (x0.toList == x1.toList)) = true then ((path_Match.f k (⟨#[47, 42, 42]⟩ : ByteArray) x1).bind fun t340 => (if t340 = true then ((tapearchivelaw19_awake.f k).bind fun t341 => (some t341)) else (some false))) else (some false))) else (some false))) else (some false)))
def tapearchivelaw19_PathItself.f (k : Nat) (a0 : ByteArray) (a1 : ByteArray) : Option (Bool) := (tapearchivelaw19_few.f a0).bind fun t332 => (if t332 = true then ((tapearchivelaw19_few.f a1).bind fun t333 => (if t333 = true then ((tapearchiveref19_Valid.f k a0).bind fun t334 => (if t334 = true then ((tapearchiveref19_Valid.f k a1).bind fun t335 => (tapearchivelaw19_PathItself.j0 k a0 a1 (!t335))) else (tapearchivelaw19_PathItself.j0 k a0 a1 true))) else (tapearchivelaw19_PathItself.j0 k a0 a1 true))) else (tapearchivelaw19_PathItself.j0 k a0 a1 true))
set_option maxHeartbeats 8000000 in
set_option maxRecDepth 100000 in
theorem tapearchivelaw19_PathItself.calls (k : Nat) (a0 : ByteArray) (a1 : ByteArray) (r : Bool) (w : World) (hG : Go.Proofs.YtlcgepmacgbciaaDoorX.Glob w) (h : tapearchivelaw19_PathItself.f k a0 a1 = some r) :
    Calls Tryd.prog 7 #[.string a0, .string a1] w fun e w' => e = .returned (.bool r) ∧ Below w.heap.size w w' := by
  have HB := Aside0.mk (Below.refl w.heap.size w)
  have H : ((tapearchivelaw19_few.f a0).bind fun t332 => (if t332 = true then ((tapearchivelaw19_few.f a1).bind fun t333 => (if t333 = true then ((tapearchiveref19_Valid.f k a0).bind fun t334 => (if t334 = true then ((tapearchiveref19_Valid.f k a1).bind fun t335 => (tapearchivelaw19_PathItself.j0 k a0 a1 (!t335))) else (tapearchivelaw19_PathItself.j0 k a0 a1 true))) else (tapearchivelaw19_PathItself.j0 k a0 a1 true))) else (tapearchivelaw19_PathItself.j0 k a0 a1 true))) = some r := h
  clear h
  have HC3 := Aside0.mk H
  clear H
  go_enter Tryd.func7, Tryd.ntmps7
  go_upto_region 1 with (fail)
  go_cut [22] (fun v22 wc => ∃ (kq : Nat) (x22_2 : Bool), v22 = .bool x22_2 ∧ Aside0 (tapearchivelaw19_PathItself.j0 kq a0 a1 x22_2 = some r) ∧ Aside0 (kq ≤ k) ∧ Aside0 (Below w.heap.size w wc))
  case first =>
    have H := HC3.out
    clear HC3
    replace H := Option.bind_eq_some_iff.mp H
    obtain ⟨t332, A40, H⟩ := H
    replace H : (if t332 = true then ((tapearchivelaw19_few.f a1).bind fun t333 => (if t333 = true then ((tapearchiveref19_Valid.f k a0).bind fun t334 => (if t334 = true then ((tapearchiveref19_Valid.f k a1).bind fun t335 => (tapearchivelaw19_PathItself.j0 k a0 a1 (!t335))) else (tapearchivelaw19_PathItself.j0 k a0 a1 true))) else (tapearchivelaw19_PathItself.j0 k a0 a1 true))) else (tapearchivelaw19_PathItself.j0 k a0 a1 true)) = some r := H
    have A4 := Aside0.mk A40
    clear A40
    by_cases c5 : t332 = true
    · subst c5
      have H1 : ((tapearchivelaw19_few.f a1).bind fun t333 => (if t333 = true then ((tapearchiveref19_Valid.f k a0).bind fun t334 => (if t334 = true then ((tapearchiveref19_Valid.f k a1).bind fun t335 => (tapearchivelaw19_PathItself.j0 k a0 a1 (!t335))) else (tapearchivelaw19_PathItself.j0 k a0 a1 true))) else (tapearchivelaw19_PathItself.j0 k a0 a1 true))) = some r := by rw [if_pos rfl] at H; exact H
      clear H
      have H := H1
      clear H1
      replace H := Option.bind_eq_some_iff.mp H
      obtain ⟨t333, A60, H⟩ := H
      replace H : (if t333 = true then ((tapearchiveref19_Valid.f k a0).bind fun t334 => (if t334 = true then ((tapearchiveref19_Valid.f k a1).bind fun t335 => (tapearchivelaw19_PathItself.j0 k a0 a1 (!t335))) else (tapearchivelaw19_PathItself.j0 k a0 a1 true))) else (tapearchivelaw19_PathItself.j0 k a0 a1 true)) = some r := H
      have A6 := Aside0.mk A60
      clear A60
      by_cases c7 : t333 = true
      · subst c7
        have H1 : ((tapearchiveref19_Valid.f k a0).bind fun t334 => (if t334 = true then ((tapearchiveref19_Valid.f k a1).bind fun t335 => (tapearchivelaw19_PathItself.j0 k a0 a1 (!t335))) else (tapearchivelaw19_PathItself.j0 k a0 a1 true))) = some r := by rw [if_pos rfl] at H; exact H
        clear H
        have H := H1
        clear H1
        replace H := Option.bind_eq_some_iff.mp H
        obtain ⟨t334, A80, H⟩ := H
        replace H : (if t334 = true then ((tapearchiveref19_Valid.f k a1).bind fun t335 => (tapearchivelaw19_PathItself.j0 k a0 a1 (!t335))) else (tapearchivelaw19_PathItself.j0 k a0 a1 true)) = some r := H
        have A8 := Aside0.mk A80
        clear A80
        by_cases c9 : t334 = true
        · subst c9
          have H1 : ((tapearchiveref19_Valid.f k a1).bind fun t335 => (tapearchivelaw19_PathItself.j0 k a0 a1 (!t335))) = some r := by rw [if_pos rfl] at H; exact H
          clear H
          have H := H1
          clear H1
          replace H := Option.bind_eq_some_iff.mp H
          obtain ⟨t335, A100, H⟩ := H
          replace H : (tapearchivelaw19_PathItself.j0 k a0 a1 (!t335)) = some r := H
          have A10 := Aside0.mk A100
          clear A100
          have H' := Aside0.mk H
          clear H
          go_wp2_with (first | ((with_reducible refine gate_callee (f := 11) rfl ?_); refine goesL_ (some 6) rfl rfl Tryd.func11 (by kernel_rfl) rfl #[.string a0] rfl (by (try simp only [List.map_toArray, List.map_cons, List.map_nil]); first | done | rfl | (simp only [List.length_drop, List.length_take]; rfl)) ?_; (with_reducible refine (tapearchivelaw19_few.calls a0 true _ A4.out).mono ?_); rintro e w' ⟨rfl, ⟨nd, rfl⟩⟩; refine ⟨_, rfl, ?_⟩) | (go_at_call 11; (with_reducible refine (tapearchivelaw19_few.calls a1 true _ A6.out).mono ?_); rintro e w' ⟨rfl, ⟨nd, rfl⟩⟩) | (go_at_call 23; (with_reducible refine (tapearchiveref19_Valid.calls k a0 true _ A8.out).mono ?_); rintro e w11 ⟨rfl, hb⟩; have n0_ := Aside0.mk (below_step (by repeat (first | (with_reducible first | exact HB.out | apply below_alloc | apply pw_below_drewN | apply below_drew1) | exact HB.out)) hb); clear HB; have HB := n0_; clear n0_; (try clear hb); (try clear hb2); (try clear hk); (try clear hi)) | (go_at_call 23; (with_reducible refine (tapearchiveref19_Valid.calls k a1 t335 _ A10.out).mono ?_); rintro e w12 ⟨rfl, hb⟩; have n0_ := Aside0.mk (below_step (by repeat (first | (with_reducible first | exact HB.out | apply below_alloc | apply pw_below_drewN | apply below_drew1) | exact HB.out)) hb); clear HB; have HB := n0_; clear n0_; (try clear hb); (try clear hb2); (try clear hk); (try clear hi)))
          go_meet
          case rel => exact ⟨_, (!t335), (by first | rfl | (simp; done) | (simp [*]; done)), H', ⟨by first | omega | exact Nat.le_refl _⟩, ⟨by repeat (first | (with_reducible first | exact HB.out | apply below_alloc | apply pw_below_drewN | apply below_drew1) | exact HB.out)⟩⟩
        · replace c9 := Bool.eq_false_iff.mpr c9
          subst c9
          have H1 : (tapearchivelaw19_PathItself.j0 k a0 a1 true) = some r := by rw [if_neg (show ¬ (false = true) by decide)] at H; exact H
          clear H
          have H := H1
          clear H1
          have H' := Aside0.mk H
          clear H
          go_wp2_with (first | ((with_reducible refine gate_callee (f := 11) rfl ?_); refine goesL_ (some 6) rfl rfl Tryd.func11 (by kernel_rfl) rfl #[.string a0] rfl (by (try simp only [List.map_toArray, List.map_cons, List.map_nil]); first | done | rfl | (simp only [List.length_drop, List.length_take]; rfl)) ?_; (with_reducible refine (tapearchivelaw19_few.calls a0 true _ A4.out).mono ?_); rintro e w' ⟨rfl, ⟨nd, rfl⟩⟩; refine ⟨_, rfl, ?_⟩) | (go_at_call 11; (with_reducible refine (tapearchivelaw19_few.calls a1 true _ A6.out).mono ?_); rintro e w' ⟨rfl, ⟨nd, rfl⟩⟩) | (go_at_call 23; (with_reducible refine (tapearchiveref19_Valid.calls k a0 false _ A8.out).mono ?_); rintro e w13 ⟨rfl, hb⟩; have n0_ := Aside0.mk (below_step (by repeat (first | (with_reducible first | exact HB.out | apply below_alloc | apply pw_below_drewN | apply below_drew1) | exact HB.out)) hb); clear HB; have HB := n0_; clear n0_; (try clear hb); (try clear hb2); (try clear hk); (try clear hi)))
          go_meet
          case rel => exact ⟨_, (true), (by first | rfl | (simp; done) | (simp [*]; done)), H', ⟨by first | omega | exact Nat.le_refl _⟩, ⟨by repeat (first | (with_reducible first | exact HB.out | apply below_alloc | apply pw_below_drewN | apply below_drew1) | exact HB.out)⟩⟩
      · replace c7 := Bool.eq_false_iff.mpr c7
        subst c7
        have H1 : (tapearchivelaw19_PathItself.j0 k a0 a1 true) = some r := by rw [if_neg (show ¬ (false = true) by decide)] at H; exact H
        clear H
        have H := H1
        clear H1
        have H' := Aside0.mk H
        clear H
        go_wp2_with (first | ((with_reducible refine gate_callee (f := 11) rfl ?_); refine goesL_ (some 6) rfl rfl Tryd.func11 (by kernel_rfl) rfl #[.string a0] rfl (by (try simp only [List.map_toArray, List.map_cons, List.map_nil]); first | done | rfl | (simp only [List.length_drop, List.length_take]; rfl)) ?_; (with_reducible refine (tapearchivelaw19_few.calls a0 true _ A4.out).mono ?_); rintro e w' ⟨rfl, ⟨nd, rfl⟩⟩; refine ⟨_, rfl, ?_⟩) | (go_at_call 11; (with_reducible refine (tapearchivelaw19_few.calls a1 false _ A6.out).mono ?_); rintro e w' ⟨rfl, ⟨nd, rfl⟩⟩))
        go_meet
        case rel => exact ⟨_, (true), (by first | rfl | (simp; done) | (simp [*]; done)), H', ⟨by first | omega | exact Nat.le_refl _⟩, ⟨by repeat (first | (with_reducible first | exact HB.out | apply below_alloc | apply pw_below_drewN | apply below_drew1) | exact HB.out)⟩⟩
    · replace c5 := Bool.eq_false_iff.mpr c5
      subst c5
      have H1 : (tapearchivelaw19_PathItself.j0 k a0 a1 true) = some r := by rw [if_neg (show ¬ (false = true) by decide)] at H; exact H
      clear H
      have H := H1
      clear H1
      have H' := Aside0.mk H
      clear H
      go_wp2_with (first | ((with_reducible refine gate_callee (f := 11) rfl ?_); refine goesL_ (some 6) rfl rfl Tryd.func11 (by kernel_rfl) rfl #[.string a0] rfl (by (try simp only [List.map_toArray, List.map_cons, List.map_nil]); first | done | rfl | (simp only [List.length_drop, List.length_take]; rfl)) ?_; (with_reducible refine (tapearchivelaw19_few.calls a0 false _ A4.out).mono ?_); rintro e w' ⟨rfl, ⟨nd, rfl⟩⟩; refine ⟨_, rfl, ?_⟩))
      go_meet
      case rel => exact ⟨_, (true), (by first | rfl | (simp; done) | (simp [*]; done)), H', ⟨by first | omega | exact Nat.le_refl _⟩, ⟨by repeat (first | (with_reducible first | exact HB.out | apply below_alloc | apply pw_below_drewN | apply below_drew1) | exact HB.out)⟩⟩
  case rest =>
    clear HC3
    try clear c1
    try clear p2
    try clear c5
    try clear c7
    try clear c9
    try clear c11
    obtain ⟨kq, x22_2, rfl, HA, HJ2, HB⟩ := hcut
    cases kq with
    | zero => exact absurd HA.out (by simp [tapearchivelaw19_PathItself.j0])
    | succ kj2 =>
      have H := HA.out
      clear HA
      simp only [tapearchivelaw19_PathItself.j0] at H
      by_cases c14 : x22_2 = true
      · subst c14
        have H1 : ((tapearchivelaw19_awake.f kj2).bind fun t336 => (some t336)) = some r := by rw [if_pos rfl] at H; exact H
        clear H
        have H := H1
        clear H1
        replace H := Option.bind_eq_some_iff.mp H
        obtain ⟨t336, A150, H⟩ := H
        replace H : (some t336) = some r := H
        have A15 := Aside0.mk A150
        clear A150
        obtain rfl := Option.some.inj H
        go_wp2_with (first | ((with_reducible refine gate_callee (f := 12) rfl ?_); refine goesL_ (some 23) rfl rfl Tryd.func12 (by kernel_rfl) rfl #[] rfl (by (try simp only [List.map_toArray, List.map_cons, List.map_nil]); first | done | rfl | (simp only [List.length_drop, List.length_take]; rfl)) ?_; (with_reducible refine (tapearchivelaw19_awake.calls kj2  t336 _ ?side1 A15.out).mono ?_); (case side1 => exact Go.Proofs.YtlcgepmacgbciaaDoorX.Glob.below hG (by repeat (first | (with_reducible first | exact HB.out | apply below_alloc | apply pw_below_drewN | apply below_drew1) | exact HB.out))); rintro e w16 ⟨rfl, hb⟩; refine ⟨_, rfl, ?_⟩; have n0_ := Aside0.mk (below_step (by repeat (first | (with_reducible first | exact HB.out | apply below_alloc | apply pw_below_drewN | apply below_drew1) | exact HB.out)) hb); clear HB; have HB := n0_; clear n0_; (try clear hb); (try clear hb2); (try clear hk); (try clear hi)))
        go_ret
        exact ⟨by first | rfl | (simp [errW_none, errW_some] <;> rfl) | (simp [*, errW_none, errW_some] <;> rfl), by repeat (first | (with_reducible first | exact HB.out | apply below_alloc | apply pw_below_drewN | apply below_drew1) | exact HB.out)⟩
      · replace c14 := Bool.eq_false_iff.mpr c14
        subst c14
        have H1 : ((path_Pattern.f kj2 a0).bind fun t337 => (if t337 = true then ((path_Match.f kj2 a0 a0).bind fun t338 => (if t338 = true then ((path_Match.f kj2 a0 a1).bind fun t339 => (if (t339 == (a0.toList == a1.toList)) = true then ((path_Match.f kj2 (⟨#[47, 42, 42]⟩ : ByteArray) a1).bind fun t340 => (if t340 = true then ((tapearchivelaw19_awake.f kj2).bind fun t341 => (some t341)) else (some false))) else (some false))) else (some false))) else (some false))) = some r := by rw [if_neg (show ¬ (false = true) by decide)] at H; exact H
        clear H
        have H := H1
        clear H1
        replace H := Option.bind_eq_some_iff.mp H
        obtain ⟨t337, A170, H⟩ := H
        replace H : (if t337 = true then ((path_Match.f kj2 a0 a0).bind fun t338 => (if t338 = true then ((path_Match.f kj2 a0 a1).bind fun t339 => (if (t339 == (a0.toList == a1.toList)) = true then ((path_Match.f kj2 (⟨#[47, 42, 42]⟩ : ByteArray) a1).bind fun t340 => (if t340 = true then ((tapearchivelaw19_awake.f kj2).bind fun t341 => (some t341)) else (some false))) else (some false))) else (some false))) else (some false)) = some r := H
        have A17 := Aside0.mk A170
        clear A170
        by_cases c18 : t337 = true
        · subst c18
          have H1 : ((path_Match.f kj2 a0 a0).bind fun t338 => (if t338 = true then ((path_Match.f kj2 a0 a1).bind fun t339 => (if (t339 == (a0.toList == a1.toList)) = true then ((path_Match.f kj2 (⟨#[47, 42, 42]⟩ : ByteArray) a1).bind fun t340 => (if t340 = true then ((tapearchivelaw19_awake.f kj2).bind fun t341 => (some t341)) else (some false))) else (some false))) else (some false))) = some r := by rw [if_pos rfl] at H; exact H
          clear H
          have H := H1
          clear H1
          replace H := Option.bind_eq_some_iff.mp H
          obtain ⟨t338, A190, H⟩ := H
          replace H : (if t338 = true then ((path_Match.f kj2 a0 a1).bind fun t339 => (if (t339 == (a0.toList == a1.toList)) = true then ((path_Match.f kj2 (⟨#[47, 42, 42]⟩ : ByteArray) a1).bind fun t340 => (if t340 = true then ((tapearchivelaw19_awake.f kj2).bind fun t341 => (some t341)) else (some false))) else (some false))) else (some false)) = some r := H
          have A19 := Aside0.mk A190
          clear A190
          by_cases c20 : t338 = true
          · subst c20
            have H1 : ((path_Match.f kj2 a0 a1).bind fun t339 => (if (t339 == (a0.toList == a1.toList)) = true then ((path_Match.f kj2 (⟨#[47, 42, 42]⟩ : ByteArray) a1).bind fun t340 => (if t340 = true then ((tapearchivelaw19_awake.f kj2).bind fun t341 => (some t341)) else (some false))) else (some false))) = some r := by rw [if_pos rfl] at H; exact H
            clear H
            have H := H1
            clear H1
            replace H := Option.bind_eq_some_iff.mp H
            obtain ⟨t339, A210, H⟩ := H
            replace H : (if (t339 == (a0.toList == a1.toList)) = true then ((path_Match.f kj2 (⟨#[47, 42, 42]⟩ : ByteArray) a1).bind fun t340 => (if t340 = true then ((tapearchivelaw19_awake.f kj2).bind fun t341 => (some t341)) else (some false))) else (some false)) = some r := H
            have A21 := Aside0.mk A210
            clear A210
            by_cases c22 : (t339 == (a0.toList == a1.toList)) = true
            · rw [if_pos c22] at H
              have c22b0 : (t339 == (a0.toList == a1.toList)) = true := c22
              (try (have c22b1 : decide (t339 = (a0.toList == a1.toList)) = true := by simpa using c22))
              (try (have c22b2 : (t339 == (a0.toList == a1.toList)) = true := by simpa using c22))
              clear c22
              replace H := Option.bind_eq_some_iff.mp H
              obtain ⟨t340, A230, H⟩ := H
              replace H : (if t340 = true then ((tapearchivelaw19_awake.f kj2).bind fun t341 => (some t341)) else (some false)) = some r := H
              have A23 := Aside0.mk A230
              clear A230
              by_cases c24 : t340 = true
              · subst c24
                have H1 : ((tapearchivelaw19_awake.f kj2).bind fun t341 => (some t341)) = some r := by rw [if_pos rfl] at H; exact H
                clear H
                have H := H1
                clear H1
                replace H := Option.bind_eq_some_iff.mp H
                obtain ⟨t341, A250, H⟩ := H
                replace H : (some t341) = some r := H
                have A25 := Aside0.mk A250
                clear A250
                obtain rfl := Option.some.inj H
                go_wp2_with (first | ((with_reducible refine gate_callee (f := 17) rfl ?_); refine goesL_ (some 25) rfl rfl Tryd.func17 (by kernel_rfl) rfl #[.string a0] rfl (by (try simp only [List.map_toArray, List.map_cons, List.map_nil]); first | done | rfl | (simp only [List.length_drop, List.length_take]; rfl)) ?_; (with_reducible refine (path_Pattern.calls kj2 a0 true _ ?side1 A17.out).mono ?_); (case side1 => exact Go.Proofs.YtlcgepmacgbciaaDoorX.Glob.below hG (by repeat (first | (with_reducible first | exact HB.out | apply below_alloc | apply pw_below_drewN | apply below_drew1) | exact HB.out))); rintro e w26 ⟨rfl, hb⟩; refine ⟨_, rfl, ?_⟩; have n0_ := Aside0.mk (below_step (by repeat (first | (with_reducible first | exact HB.out | apply below_alloc | apply pw_below_drewN | apply below_drew1) | exact HB.out)) hb); clear HB; have HB := n0_; clear n0_; (try clear hb); (try clear hb2); (try clear hk); (try clear hi)) | (go_at_call 24; (with_reducible refine (path_Match.calls kj2 a0 a0 true _ ?side1 A19.out).mono ?_); (case side1 => exact Go.Proofs.YtlcgepmacgbciaaDoorX.Glob.below hG (by repeat (first | (with_reducible first | exact HB.out | apply below_alloc | apply pw_below_drewN | apply below_drew1) | exact HB.out))); rintro e w27 ⟨rfl, hb⟩; have n0_ := Aside0.mk (below_step (by repeat (first | (with_reducible first | exact HB.out | apply below_alloc | apply pw_below_drewN | apply below_drew1) | exact HB.out)) hb); clear HB; have HB := n0_; clear n0_; (try clear hb); (try clear hb2); (try clear hk); (try clear hi)) | (go_at_call 24; (with_reducible refine (path_Match.calls kj2 a0 a1 t339 _ ?side1 A21.out).mono ?_); (case side1 => exact Go.Proofs.YtlcgepmacgbciaaDoorX.Glob.below hG (by repeat (first | (with_reducible first | exact HB.out | apply below_alloc | apply pw_below_drewN | apply below_drew1) | exact HB.out))); rintro e w28 ⟨rfl, hb⟩; have n0_ := Aside0.mk (below_step (by repeat (first | (with_reducible first | exact HB.out | apply below_alloc | apply pw_below_drewN | apply below_drew1) | exact HB.out)) hb); clear HB; have HB := n0_; clear n0_; (try clear hb); (try clear hb2); (try clear hk); (try clear hi)) | (go_at_call 24; (with_reducible refine (path_Match.calls kj2 (⟨#[47, 42, 42]⟩ : ByteArray) a1 true _ ?side1 A23.out).mono ?_); (case side1 => exact Go.Proofs.YtlcgepmacgbciaaDoorX.Glob.below hG (by repeat (first | (with_reducible first | exact HB.out | apply below_alloc | apply pw_below_drewN | apply below_drew1) | exact HB.out))); rintro e w29 ⟨rfl, hb⟩; have n0_ := Aside0.mk (below_step (by repeat (first | (with_reducible first | exact HB.out | apply below_alloc | apply pw_below_drewN | apply below_drew1) | exact HB.out)) hb); clear HB; have HB := n0_; clear n0_; (try clear hb); (try clear hb2); (try clear hk); (try clear hi)) | (go_at_call 12; (with_reducible refine (tapearchivelaw19_awake.calls kj2  t341 _ ?side1 A25.out).mono ?_); (case side1 => exact Go.Proofs.YtlcgepmacgbciaaDoorX.Glob.below hG (by repeat (first | (with_reducible first | exact HB.out | apply below_alloc | apply pw_below_drewN | apply below_drew1) | exact HB.out))); rintro e w30 ⟨rfl, hb⟩; have n0_ := Aside0.mk (below_step (by repeat (first | (with_reducible first | exact HB.out | apply below_alloc | apply pw_below_drewN | apply below_drew1) | exact HB.out)) hb); clear HB; have HB := n0_; clear n0_; (try clear hb); (try clear hb2); (try clear hk); (try clear hi)))
                go_ret
                exact ⟨by first | rfl | (simp [errW_none, errW_some] <;> rfl) | (simp [*, errW_none, errW_some] <;> rfl), by repeat (first | (with_reducible first | exact HB.out | apply below_alloc | apply pw_below_drewN | apply below_drew1) | exact HB.out)⟩
              · replace c24 := Bool.eq_false_iff.mpr c24
                subst c24
                have H1 : (some false) = some r := by rw [if_neg (show ¬ (false = true) by decide)] at H; exact H
                clear H
                have H := H1
                clear H1
                obtain rfl := Option.some.inj H
                go_wp2_with (first | ((with_reducible refine gate_callee (f := 17) rfl ?_); refine goesL_ (some 25) rfl rfl Tryd.func17 (by kernel_rfl) rfl #[.string a0] rfl (by (try simp only [List.map_toArray, List.map_cons, List.map_nil]); first | done | rfl | (simp only [List.length_drop, List.length_take]; rfl)) ?_; (with_reducible refine (path_Pattern.calls kj2 a0 true _ ?side1 A17.out).mono ?_); (case side1 => exact Go.Proofs.YtlcgepmacgbciaaDoorX.Glob.below hG (by repeat (first | (with_reducible first | exact HB.out | apply below_alloc | apply pw_below_drewN | apply below_drew1) | exact HB.out))); rintro e w31 ⟨rfl, hb⟩; refine ⟨_, rfl, ?_⟩; have n0_ := Aside0.mk (below_step (by repeat (first | (with_reducible first | exact HB.out | apply below_alloc | apply pw_below_drewN | apply below_drew1) | exact HB.out)) hb); clear HB; have HB := n0_; clear n0_; (try clear hb); (try clear hb2); (try clear hk); (try clear hi)) | (go_at_call 24; (with_reducible refine (path_Match.calls kj2 a0 a0 true _ ?side1 A19.out).mono ?_); (case side1 => exact Go.Proofs.YtlcgepmacgbciaaDoorX.Glob.below hG (by repeat (first | (with_reducible first | exact HB.out | apply below_alloc | apply pw_below_drewN | apply below_drew1) | exact HB.out))); rintro e w32 ⟨rfl, hb⟩; have n0_ := Aside0.mk (below_step (by repeat (first | (with_reducible first | exact HB.out | apply below_alloc | apply pw_below_drewN | apply below_drew1) | exact HB.out)) hb); clear HB; have HB := n0_; clear n0_; (try clear hb); (try clear hb2); (try clear hk); (try clear hi)) | (go_at_call 24; (with_reducible refine (path_Match.calls kj2 a0 a1 t339 _ ?side1 A21.out).mono ?_); (case side1 => exact Go.Proofs.YtlcgepmacgbciaaDoorX.Glob.below hG (by repeat (first | (with_reducible first | exact HB.out | apply below_alloc | apply pw_below_drewN | apply below_drew1) | exact HB.out))); rintro e w33 ⟨rfl, hb⟩; have n0_ := Aside0.mk (below_step (by repeat (first | (with_reducible first | exact HB.out | apply below_alloc | apply pw_below_drewN | apply below_drew1) | exact HB.out)) hb); clear HB; have HB := n0_; clear n0_; (try clear hb); (try clear hb2); (try clear hk); (try clear hi)) | (go_at_call 24; (with_reducible refine (path_Match.calls kj2 (⟨#[47, 42, 42]⟩ : ByteArray) a1 false _ ?side1 A23.out).mono ?_); (case side1 => exact Go.Proofs.YtlcgepmacgbciaaDoorX.Glob.below hG (by repeat (first | (with_reducible first | exact HB.out | apply below_alloc | apply pw_below_drewN | apply below_drew1) | exact HB.out))); rintro e w34 ⟨rfl, hb⟩; have n0_ := Aside0.mk (below_step (by repeat (first | (with_reducible first | exact HB.out | apply below_alloc | apply pw_below_drewN | apply below_drew1) | exact HB.out)) hb); clear HB; have HB := n0_; clear n0_; (try clear hb); (try clear hb2); (try clear hk); (try clear hi)))
                go_ret
                exact ⟨by first | rfl | (simp [errW_none, errW_some] <;> rfl) | (simp [*, errW_none, errW_some] <;> rfl), by repeat (first | (with_reducible first | exact HB.out | apply below_alloc | apply pw_below_drewN | apply below_drew1) | exact HB.out)⟩
            · rw [if_neg c22] at H
              have c22b0 : (t339 == (a0.toList == a1.toList)) = false := by simpa using c22
              (try (have c22b1 : decide (t339 = (a0.toList == a1.toList)) = false := by simpa using c22))
              (try (have c22b2 : (t339 == (a0.toList == a1.toList)) = false := by simpa using c22))
              (try (have c22b3 : ¬ (t339 = (a0.toList == a1.toList)) := by simpa using c22))
              clear c22
              obtain rfl := Option.some.inj H
              go_wp2_with (first | ((with_reducible refine gate_callee (f := 17) rfl ?_); refine goesL_ (some 25) rfl rfl Tryd.func17 (by kernel_rfl) rfl #[.string a0] rfl (by (try simp only [List.map_toArray, List.map_cons, List.map_nil]); first | done | rfl | (simp only [List.length_drop, List.length_take]; rfl)) ?_; (with_reducible refine (path_Pattern.calls kj2 a0 true _ ?side1 A17.out).mono ?_); (case side1 => exact Go.Proofs.YtlcgepmacgbciaaDoorX.Glob.below hG (by repeat (first | (with_reducible first | exact HB.out | apply below_alloc | apply pw_below_drewN | apply below_drew1) | exact HB.out))); rintro e w35 ⟨rfl, hb⟩; refine ⟨_, rfl, ?_⟩; have n0_ := Aside0.mk (below_step (by repeat (first | (with_reducible first | exact HB.out | apply below_alloc | apply pw_below_drewN | apply below_drew1) | exact HB.out)) hb); clear HB; have HB := n0_; clear n0_; (try clear hb); (try clear hb2); (try clear hk); (try clear hi)) | (go_at_call 24; (with_reducible refine (path_Match.calls kj2 a0 a0 true _ ?side1 A19.out).mono ?_); (case side1 => exact Go.Proofs.YtlcgepmacgbciaaDoorX.Glob.below hG (by repeat (first | (with_reducible first | exact HB.out | apply below_alloc | apply pw_below_drewN | apply below_drew1) | exact HB.out))); rintro e w36 ⟨rfl, hb⟩; have n0_ := Aside0.mk (below_step (by repeat (first | (with_reducible first | exact HB.out | apply below_alloc | apply pw_below_drewN | apply below_drew1) | exact HB.out)) hb); clear HB; have HB := n0_; clear n0_; (try clear hb); (try clear hb2); (try clear hk); (try clear hi)) | (go_at_call 24; (with_reducible refine (path_Match.calls kj2 a0 a1 t339 _ ?side1 A21.out).mono ?_); (case side1 => exact Go.Proofs.YtlcgepmacgbciaaDoorX.Glob.below hG (by repeat (first | (with_reducible first | exact HB.out | apply below_alloc | apply pw_below_drewN | apply below_drew1) | exact HB.out))); rintro e w37 ⟨rfl, hb⟩; have n0_ := Aside0.mk (below_step (by repeat (first | (with_reducible first | exact HB.out | apply below_alloc | apply pw_below_drewN | apply below_drew1) | exact HB.out)) hb); clear HB; have HB := n0_; clear n0_; (try clear hb); (try clear hb2); (try clear hk); (try clear hi)))
              go_ret
              exact ⟨by first | rfl | (simp [errW_none, errW_some] <;> rfl) | (simp [*, errW_none, errW_some] <;> rfl), by repeat (first | (with_reducible first | exact HB.out | apply below_alloc | apply pw_below_drewN | apply below_drew1) | exact HB.out)⟩
          · replace c20 := Bool.eq_false_iff.mpr c20
            subst c20
            have H1 : (some false) = some r := by rw [if_neg (show ¬ (false = true) by decide)] at H; exact H
            clear H
            have H := H1
            clear H1
            obtain rfl := Option.some.inj H
            go_wp2_with (first | ((with_reducible refine gate_callee (f := 17) rfl ?_); refine goesL_ (some 25) rfl rfl Tryd.func17 (by kernel_rfl) rfl #[.string a0] rfl (by (try simp only [List.map_toArray, List.map_cons, List.map_nil]); first | done | rfl | (simp only [List.length_drop, List.length_take]; rfl)) ?_; (with_reducible refine (path_Pattern.calls kj2 a0 true _ ?side1 A17.out).mono ?_); (case side1 => exact Go.Proofs.YtlcgepmacgbciaaDoorX.Glob.below hG (by repeat (first | (with_reducible first | exact HB.out | apply below_alloc | apply pw_below_drewN | apply below_drew1) | exact HB.out))); rintro e w38 ⟨rfl, hb⟩; refine ⟨_, rfl, ?_⟩; have n0_ := Aside0.mk (below_step (by repeat (first | (with_reducible first | exact HB.out | apply below_alloc | apply pw_below_drewN | apply below_drew1) | exact HB.out)) hb); clear HB; have HB := n0_; clear n0_; (try clear hb); (try clear hb2); (try clear hk); (try clear hi)) | (go_at_call 24; (with_reducible refine (path_Match.calls kj2 a0 a0 false _ ?side1 A19.out).mono ?_); (case side1 => exact Go.Proofs.YtlcgepmacgbciaaDoorX.Glob.below hG (by repeat (first | (with_reducible first | exact HB.out | apply below_alloc | apply pw_below_drewN | apply below_drew1) | exact HB.out))); rintro e w39 ⟨rfl, hb⟩; have n0_ := Aside0.mk (below_step (by repeat (first | (with_reducible first | exact HB.out | apply below_alloc | apply pw_below_drewN | apply below_drew1) | exact HB.out)) hb); clear HB; have HB := n0_; clear n0_; (try clear hb); (try clear hb2); (try clear hk); (try clear hi)))
            go_ret
            exact ⟨by first | rfl | (simp [errW_none, errW_some] <;> rfl) | (simp [*, errW_none, errW_some] <;> rfl), by repeat (first | (with_reducible first | exact HB.out | apply below_alloc | apply pw_below_drewN | apply below_drew1) | exact HB.out)⟩
        · replace c18 := Bool.eq_false_iff.mpr c18
          subst c18
          have H1 : (some false) = some r := by rw [if_neg (show ¬ (false = true) by decide)] at H; exact H
          clear H
          have H := H1
          clear H1
          obtain rfl := Option.some.inj H
          go_wp2_with (first | ((with_reducible refine gate_callee (f := 17) rfl ?_); refine goesL_ (some 25) rfl rfl Tryd.func17 (by kernel_rfl) rfl #[.string a0] rfl (by (try simp only [List.map_toArray, List.map_cons, List.map_nil]); first | done | rfl | (simp only [List.length_drop, List.length_take]; rfl)) ?_; (with_reducible refine (path_Pattern.calls kj2 a0 false _ ?side1 A17.out).mono ?_); (case side1 => exact Go.Proofs.YtlcgepmacgbciaaDoorX.Glob.below hG (by repeat (first | (with_reducible first | exact HB.out | apply below_alloc | apply pw_below_drewN | apply below_drew1) | exact HB.out))); rintro e w40 ⟨rfl, hb⟩; refine ⟨_, rfl, ?_⟩; have n0_ := Aside0.mk (below_step (by repeat (first | (with_reducible first | exact HB.out | apply below_alloc | apply pw_below_drewN | apply below_drew1) | exact HB.out)) hb); clear HB; have HB := n0_; clear n0_; (try clear hb); (try clear hb2); (try clear hk); (try clear hi)))
          go_ret
          exact ⟨by first | rfl | (simp [errW_none, errW_some] <;> rfl) | (simp [*, errW_none, errW_some] <;> rfl), by repeat (first | (with_reducible first | exact HB.out | apply below_alloc | apply pw_below_drewN | apply below_drew1) | exact HB.out)⟩
end Go.Proofs.YtlcgepmacgbciaaDoor.Q
end
section
namespace Go.Proofs.YtlcgepmacgbciaaDoor.SPathItself
open Go.RowKit Go.Proofs.YtlcgepmacgbciaaDoor.Q Go.Proofs.YtlcgepmacgbciaaDoorW.PrintWords Go.Proofs.YtlcgepmacgbciaaDoorW.PrintLast Go.Proofs.YtlcgepmacgbciaaDoorW.Opens Go.Proofs.YtlcgepmacgbciaaDoorW
set_option linter.unusedVariables false
def Pure : Prop := ∀ (x0 : ByteArray) (x1 : ByteArray), x0.size ≤ 140737488351232 → x1.size ≤ 140737488351232 → ∃ k, tapearchivelaw19_PathItself.f k x0 x1 = some true
end Go.Proofs.YtlcgepmacgbciaaDoor.SPathItself
end
section
namespace Go.Proofs.YtlcgepmacgbciaaDoor.Pth
variable {α β : Type} (st : α → Bool) (mt : α → β → Bool)
def glob : List α → List β → Bool
  | [], l => l.isEmpty
  | c :: p, l => if st c = true then (List.range (l.length + 1)).any fun i => glob p (l.drop i) else match l with
    | [] => false
    | x :: r => mt c x && glob p r
theorem glob_star {c : α} (h : st c = true) (p : List α) (l : List β) : glob st mt (c :: p) l = true ↔ ∃ i, i ≤ l.length ∧ glob st mt p (l.drop i) = true := by
  simp only [glob, if_pos h, List.any_eq_true, List.mem_range]
  constructor
  · rintro ⟨i, h1, h2⟩; exact ⟨i, by omega, h2⟩
  · rintro ⟨i, h1, h2⟩; exact ⟨i, by omega, h2⟩
theorem glob_one {c : α} (h : st c = false) (p : List α) (l : List β) : glob st mt (c :: p) l = true ↔ ∃ x r, l = x :: r ∧ mt c x = true ∧ glob st mt p r = true := by
  have h' : ¬ (st c = true) := by simp [h]
  cases l with
  | nil => simp [glob, h']
  | cons x r =>
    simp only [glob, if_neg h', Bool.and_eq_true]
    exact ⟨fun ⟨a, b⟩ => ⟨x, r, rfl, a, b⟩, fun ⟨y, t, e, a, b⟩ => by obtain ⟨rfl, rfl⟩ := List.cons.inj e; exact ⟨a, b⟩⟩
theorem glob_nil (l : List β) : glob st mt [] l = true ↔ l = [] := by simp [glob]
theorem glob_app (q : List α) : ∀ (p : List α) (l : List β), glob st mt (p ++ q) l = true ↔ ∃ i, i ≤ l.length ∧ glob st mt p (l.take i) = true ∧ glob st mt q (l.drop i) = true
  | [], l => by
    simp only [List.nil_append, glob_nil]
    constructor
    · intro h; exact ⟨0, Nat.zero_le _, by simp, by simpa using h⟩
    · rintro ⟨i, h1, h2, h3⟩
      have : i = 0 ∨ l = [] := by simpa using h2
      rcases this with rfl | rfl
      · simpa using h3
      · simpa using h3
  | c :: p, l => by
    have ih := glob_app q p
    rw [List.cons_append]
    cases hc : st c with
    | true =>
      rw [glob_star st mt hc]
      constructor
      · rintro ⟨j, h1, h2⟩
        obtain ⟨i, h3, h4, h5⟩ := (ih _).1 h2
        rw [List.length_drop] at h3
        refine ⟨j + i, by omega, (glob_star st mt hc _ _).2 ⟨j, by rw [List.length_take]; omega, ?_⟩, by rw [← List.drop_drop]; exact h5⟩
        rw [List.drop_take, Nat.add_sub_cancel_left]
        exact h4
      · rintro ⟨i, h1, h2, h3⟩
        obtain ⟨j, h4, h5⟩ := (glob_star st mt hc _ _).1 h2
        rw [List.length_take] at h4
        rw [List.drop_take] at h5
        refine ⟨j, by omega, (ih _).2 ⟨i - j, by rw [List.length_drop]; omega, h5, ?_⟩⟩
        rw [List.drop_drop, show j + (i - j) = i from by omega]
        exact h3
    | false =>
      rw [glob_one st mt hc]
      constructor
      · rintro ⟨x, r, rfl, h2, h3⟩
        obtain ⟨i, h4, h5, h6⟩ := (ih _).1 h3
        exact ⟨i + 1, by simp; omega, by rw [List.take_succ_cons]; exact (glob_one st mt hc _ _).2 ⟨x, _, rfl, h2, h5⟩, h6⟩
      · rintro ⟨i, h1, h2, h3⟩
        obtain ⟨x, r, h4, h5, h6⟩ := (glob_one st mt hc _ _).1 h2
        cases l with
        | nil => simp at h4
        | cons y l =>
          cases i with
          | zero => simp at h4
          | succ i =>
            rw [List.take_succ_cons] at h4
            obtain ⟨rfl, rfl⟩ := List.cons.inj h4
            exact ⟨_, _, rfl, h5, (ih _).2 ⟨i, by simp at h1; omega, h6, h3⟩⟩
theorem glob_single_star {c : α} (h : st c = true) (l : List β) : glob st mt [c] l = true := (glob_star st mt h _ _).2 ⟨l.length, Nat.le_refl _, by simp [glob]⟩
theorem glob_single_one {c : α} (h : st c = false) (l : List β) : glob st mt [c] l = true ↔ ∃ x, l = [x] ∧ mt c x = true := by
  rw [glob_one st mt h]
  constructor
  · rintro ⟨x, r, rfl, h1, h2⟩; obtain rfl := (glob_nil st mt r).1 h2; exact ⟨x, rfl, h1⟩
  · rintro ⟨x, rfl, h1⟩; exact ⟨x, [], rfl, h1, (glob_nil st mt _).2 rfl⟩
def rowOf (p : List α) (l : List β) : List Bool := (List.range (l.length + 1)).map fun k => glob st mt p (l.take k)
theorem rowOf_length (p : List α) (l : List β) : (rowOf st mt p l).length = l.length + 1 := by simp [rowOf]
theorem rowOf_get (p : List α) (l : List β) (k : Nat) (h : k ≤ l.length) : (rowOf st mt p l).getD k false = glob st mt p (l.take k) := by
  have : k < (rowOf st mt p l).length := by rw [rowOf_length]; omega
  rw [List.getD_eq_getElem?_getD, List.getElem?_eq_getElem this]
  simp [rowOf]
theorem rowOf_start (l : List β) : rowOf st mt [] l = (List.replicate (l.length + 1) false).set 0 true := by
  apply List.ext_getElem (by simp [rowOf])
  intro i h1 h2
  have hi : i < l.length + 1 := by simpa [rowOf] using h1
  simp only [rowOf, List.getElem_map, List.getElem_range, List.getElem_set, List.getElem_replicate]
  cases i with
  | zero => simp [glob]
  | succ i =>
    cases l with
    | nil => simp at hi
    | cons x l => simp [glob]
theorem row_star {c : α} (h : st c = true) (p : List α) (l : List β) (k : Nat) (hk : k ≤ l.length) :
    glob st mt (p ++ [c]) (l.take k) = (glob st mt p (l.take k) || (decide (0 < k) && glob st mt (p ++ [c]) (l.take (k - 1)))) := by
  rw [Bool.eq_iff_iff]
  simp only [Bool.or_eq_true, Bool.and_eq_true, decide_eq_true_eq]
  constructor
  · intro hg
    obtain ⟨i, h1, h2, h3⟩ := (glob_app st mt _ _ _).1 hg
    rw [List.length_take] at h1
    rw [List.take_take] at h2
    by_cases e : i = k
    · subst e
      left
      simpa using h2
    · right
      refine ⟨by omega, (glob_app st mt _ _ _).2 ⟨i, by rw [List.length_take]; omega, ?_, glob_single_star st mt h _⟩⟩
      rw [List.take_take]
      rw [show min i k = i from by omega] at h2
      rw [show min i (k - 1) = i from by omega]
      exact h2
  · rintro (hg | ⟨h0, hg⟩)
    · exact (glob_app st mt _ _ _).2 ⟨(l.take k).length, Nat.le_refl _, by rw [List.take_length]; exact hg, glob_single_star st mt h _⟩
    · obtain ⟨i, h1, h2, h3⟩ := (glob_app st mt _ _ _).1 hg
      rw [List.length_take] at h1
      rw [List.take_take, show min i (k - 1) = i from by omega] at h2
      exact (glob_app st mt _ _ _).2 ⟨i, by rw [List.length_take]; omega, by rw [List.take_take, show min i k = i from by omega]; exact h2, glob_single_star st mt h _⟩
theorem row_one {c : α} (h : st c = false) (p : List α) (l : List β) (k : Nat) (hk : k < l.length) :
    glob st mt (p ++ [c]) (l.take (k + 1)) = (glob st mt p (l.take k) && mt c (l[k]'hk)) := by
  rw [Bool.eq_iff_iff]
  simp only [Bool.and_eq_true]
  have e : l.take (k + 1) = l.take k ++ [l[k]] := List.take_succ_eq_append_getElem hk
  have el : (l.take k).length = k := by rw [List.length_take]; omega
  rw [glob_app]
  constructor
  · rintro ⟨i, h1, h2, h3⟩
    obtain ⟨x, h4, h5⟩ := (glob_single_one st mt h _).1 h3
    have hl := congrArg List.length h4
    rw [List.length_drop, List.length_singleton, List.length_take] at hl
    obtain rfl : i = k := by omega
    rw [e, List.take_append_of_le_length (by omega), List.take_of_length_le (by omega)] at h2
    rw [e, List.drop_append_of_le_length (by omega), List.drop_of_length_le (by omega), List.nil_append] at h4
    obtain rfl := (List.cons.inj h4).1
    exact ⟨h2, h5⟩
  · rintro ⟨h1, h2⟩
    refine ⟨k, by rw [List.length_take]; omega, ?_, ?_⟩
    · rw [List.take_take, show min k (k + 1) = k from by omega]; exact h1
    · rw [e, List.drop_append_of_le_length (by omega), List.drop_of_length_le (by omega), List.nil_append]
      exact (glob_single_one st mt h _).2 ⟨_, rfl, h2⟩
theorem row_one_zero {c : α} (h : st c = false) (p : List α) (l : List β) : glob st mt (p ++ [c]) (l.take 0) = false := by
  rw [Bool.eq_false_iff]
  intro hg
  obtain ⟨i, _, _, h3⟩ := (glob_app st mt _ _ _).1 hg
  obtain ⟨x, h4, _⟩ := (glob_single_one st mt h _).1 h3
  simp at h4
def lit (p : List α) (l : List β) : Prop := p.length = l.length ∧ (∀ c ∈ p, st c = false) ∧ ∀ (i : Nat) (h : i < p.length) (h' : i < l.length), mt p[i] l[i] = true
theorem lit_nil : lit st mt [] ([] : List β) := ⟨rfl, by simp, by simp⟩
theorem lit_snoc {p : List α} {l : List β} {c : α} {x : β} (h : lit st mt p l) (hc : st c = false) (hm : mt c x = true) : lit st mt (p ++ [c]) (l ++ [x]) := by
  obtain ⟨h1, h2, h3⟩ := h
  refine ⟨by simp [h1], ?_, ?_⟩
  · intro d hd
    rcases List.mem_append.1 hd with hd | hd
    · exact h2 d hd
    · obtain rfl := List.mem_singleton.1 hd; exact hc
  · intro i h4 h5
    by_cases hi : i < p.length
    · rw [List.getElem_append_left hi, List.getElem_append_left (by omega)]; exact h3 i hi (by omega)
    · have : i = p.length := by simp at h4; omega
      subst this
      rw [List.getElem_append_right (Nat.le_refl _), List.getElem_append_right (by omega)]
      simpa [h1] using hm
theorem glob_lit_len : ∀ (p q : List α) (l : List β), (∀ c ∈ p, st c = false) → glob st mt (p ++ q) l = true → p.length ≤ l.length ∧ glob st mt q (l.drop p.length) = true
  | [], q, l, _, h => ⟨Nat.zero_le _, by simpa using h⟩
  | c :: p, q, l, hp, h => by
    rw [List.cons_append] at h
    obtain ⟨x, r, rfl, _, h2⟩ := (glob_one st mt (hp c (by simp)) _ _).1 h
    obtain ⟨h3, h4⟩ := glob_lit_len p q r (fun d hd => hp d (by simp [hd])) h2
    exact ⟨by simp; omega, by simpa using h4⟩
theorem glob_lit : ∀ (p q : List α) (l m : List β), lit st mt p l → (glob st mt (p ++ q) (l ++ m) = true ↔ glob st mt q m = true)
  | [], q, l, m, h => by
    obtain rfl := List.length_eq_zero_iff.1 h.1.symm
    simp
  | c :: p, q, l, m, h => by
    obtain ⟨h1, h2, h3⟩ := h
    cases l with
    | nil => simp at h1
    | cons x l =>
      have ih := glob_lit p q l m ⟨by simpa using h1, fun d hd => h2 d (by simp [hd]), fun i h4 h5 => h3 (i + 1) (by simpa using h4) (by simpa using h5)⟩
      rw [List.cons_append, List.cons_append, glob_one st mt (h2 c (by simp)), ← ih]
      constructor
      · rintro ⟨y, r, e, _, h5⟩; obtain ⟨rfl, rfl⟩ := List.cons.inj e; exact h5
      · intro h5; exact ⟨x, _, rfl, h3 0 (by simp) (by simp), h5⟩
theorem glob_stars : ∀ (p : List α), (glob st mt p ([] : List β) = true ↔ ∀ c ∈ p, st c = true)
  | [] => by simp [glob]
  | c :: p => by
    have ih := glob_stars p
    cases hc : st c with
    | true =>
      rw [glob_star st mt hc]
      constructor
      · rintro ⟨i, h1, h2⟩ d hd
        rcases List.mem_cons.1 hd with rfl | hd
        · exact hc
        · exact ih.1 (by simpa using h2) d hd
      · intro h; exact ⟨0, Nat.zero_le _, by simpa using ih.2 fun d hd => h d (by simp [hd])⟩
    | false =>
      rw [glob_one st mt hc]
      constructor
      · rintro ⟨x, r, e, _⟩; cases e
      · intro h; have := h c (by simp); rw [hc] at this; cases this
end Go.Proofs.YtlcgepmacgbciaaDoor.Pth
end
section
namespace Go.Proofs.YtlcgepmacgbciaaDoor.Pth
open Go.RowKit Go.Proofs.YtlcgepmacgbciaaDoorW.PrintWords Go.Proofs.YtlcgepmacgbciaaDoorW.EvMore
abbrev B := List UInt8
def mk (l : B) : ByteArray := ⟨l.toArray⟩
theorem bs_of_mk (l : B) : bs (mk l) = l := rfl
theorem mk_size (l : B) : (mk l).size = l.length := rfl
theorem mk_toList (l : B) : (mk l).toList = l := toList_bs _
def pmtN (pat : Bool) (n : Nat) : Bool :=
  (decide (97 ≤ n) && decide (n ≤ 122)) || (decide (65 ≤ n) && decide (n ≤ 90)) || (decide (48 ≤ n) && decide (n ≤ 57)) || decide (n = 46) || decide (n = 95) || decide (n = 45) || (pat && (decide (n = 42) || decide (n = 63)))
def pmt (pat : Bool) (c : UInt8) : Bool := pmtN pat c.toNat
def nm (pat : Bool) (l : B) : Bool := !(l == []) && !(l == [46]) && !(l == [46, 46]) && l.all (pmt pat)
def pieces : B → List B
  | [] => [[]]
  | c :: r => if c = 47 then [] :: pieces r else match pieces r with
    | [] => [[c]]
    | p :: ps => (c :: p) :: ps
def parseS (pat : Bool) (l : B) : List B × Int :=
  if 200 < l.length then ([], 6)
  else match l with
    | [] => ([], 1)
    | c :: r => if c = 47 then
        if (pieces r).all (nm pat) = true then (if (pieces r).any (fun x => decide (24 < x.length)) = true ∨ 8 < (pieces r).length then ([], 6) else (pieces r, 0)) else ([], 1)
      else ([], 1)
def outS (p : List B × Int) : List ByteArray × Int := (p.1.map mk, p.2)
def cat (l : List B) : B := (l.map fun x => 47 :: x).flatten
theorem pieces_ne : ∀ l : B, pieces l ≠ []
  | [] => by simp [pieces]
  | c :: r => by
    unfold pieces
    split
    · simp
    · split <;> simp
theorem pieces_no : ∀ {l : B}, 47 ∉ l → pieces l = [l]
  | [], _ => rfl
  | c :: r, h => by
    have h1 : c ≠ 47 := fun e => h (by simp [e])
    have h2 := pieces_no (l := r) fun e => h (by simp [e])
    unfold pieces
    rw [if_neg h1, h2]
theorem pieces_cut : ∀ {a b : B}, 47 ∉ a → pieces (a ++ 47 :: b) = a :: pieces b
  | [], b, _ => by simp [pieces]
  | c :: r, b, h => by
    have h1 : c ≠ 47 := fun e => h (by simp [e])
    have h2 := pieces_cut (a := r) (b := b) fun e => h (by simp [e])
    rw [List.cons_append]
    conv => lhs; unfold pieces
    rw [if_neg h1, h2]
theorem pieces_pre : ∀ {a b : B}, 47 ∉ a → ∃ p ps, pieces b = p :: ps ∧ pieces (a ++ b) = (a ++ p) :: ps
  | [], b, _ => by
    cases h : pieces b with
    | nil => exact absurd h (pieces_ne b)
    | cons p ps => exact ⟨p, ps, rfl, by simpa using h⟩
  | c :: r, b, h => by
    have h1 : c ≠ 47 := fun e => h (by simp [e])
    obtain ⟨p, ps, h2, h3⟩ := pieces_pre (a := r) (b := b) fun e => h (by simp [e])
    refine ⟨p, ps, h2, ?_⟩
    rw [List.cons_append]
    conv => lhs; unfold pieces
    rw [if_neg h1, h3]
    rfl
theorem cut_cases (l : B) : 47 ∉ l ∨ ∃ a b, l = a ++ 47 :: b ∧ 47 ∉ a := by
  induction l with
  | nil => left; simp
  | cons c r ih =>
    by_cases hc : c = 47
    · right; exact ⟨[], r, by simp [hc], by simp⟩
    · rcases ih with h | ⟨a, b, h1, h2⟩
      · left; simp [h]; exact fun e => hc e.symm
      · right; exact ⟨c :: a, b, by simp [h1], by simp [h2]; exact fun e => hc e.symm⟩
theorem pieces_len : ∀ l : B, (pieces l).length ≤ l.length + 1
  | [] => by simp [pieces]
  | c :: r => by
    have ih := pieces_len r
    unfold pieces
    split
    · simp; omega
    · split
      · simp
      · rename_i p ps h; rw [h] at ih; simp at ih ⊢; omega
theorem pieces_join : ∀ (l : B), cat (pieces l) = 47 :: l
  | [] => rfl
  | c :: r => by
    have ih := pieces_join r
    unfold pieces
    split
    · rename_i hc
      subst hc
      simp only [cat, List.map_cons, List.flatten_cons, List.cons_append, List.nil_append] at ih ⊢
      rw [ih]
    · split
      · rename_i e; exact absurd e (pieces_ne r)
      · rename_i q qs e
        rw [e] at ih
        simp only [cat, List.map_cons, List.flatten_cons, List.cons_append] at ih ⊢
        rw [List.cons.injEq] at ih
        rw [ih.2]
theorem parseS_ok {pat : Bool} {l : B} (h : (parseS pat l).2 = 0) : ∃ r, l = 47 :: r ∧ l.length ≤ 200 ∧ (parseS pat l).1 = pieces r ∧ (pieces r).all (nm pat) = true ∧ (∀ x ∈ pieces r, x.length ≤ 24) ∧ (pieces r).length ≤ 8 := by
  unfold parseS at h ⊢
  split at h
  · simp at h
  rename_i h200
  rw [if_neg h200]
  split at h
  · simp at h
  · rename_i c r
    split at h
    · rename_i hc
      split at h
      · rename_i ha
        split at h
        · simp at h
        · rename_i hb
          rw [not_or] at hb
          refine ⟨r, by rw [hc], by omega, ?_, ha, ?_, by omega⟩
          · simp only [if_pos hc, if_pos ha]
            rw [if_neg (by rw [not_or]; exact hb)]
          · intro x hx
            have := hb.1
            simp at this
            exact this x hx
      · simp at h
    · simp at h
theorem parseS_of {pat : Bool} {r : B} (h1 : r.length + 1 ≤ 200) (h2 : (pieces r).all (nm pat) = true) (h3 : ∀ x ∈ pieces r, x.length ≤ 24) (h4 : (pieces r).length ≤ 8) : parseS pat (47 :: r) = (pieces r, 0) := by
  unfold parseS
  rw [if_neg (by simp; omega)]
  simp only [if_true, h2]
  rw [if_neg]
  rw [not_or]
  refine ⟨?_, by omega⟩
  simp
  exact h3
theorem pmt_mono {c : UInt8} (h : pmt false c = true) : pmt true c = true := by
  unfold pmt pmtN at h ⊢
  simp only [Bool.false_and, Bool.or_false] at h
  rw [h]; simp
theorem nm_mono {l : B} (h : nm false l = true) : nm true l = true := by
  unfold nm at h ⊢
  simp only [Bool.and_eq_true] at h ⊢
  refine ⟨h.1, ?_⟩
  rw [List.all_eq_true] at h ⊢
  exact fun c hc => pmt_mono (h.2 c hc)
theorem parseS_mono {l : B} (h : (parseS false l).2 = 0) : parseS true l = parseS false l := by
  obtain ⟨r, h1, h2, h3, h4, h5, h6⟩ := parseS_ok h
  subst h1
  rw [parseS_of (by simpa using h2) h4 h5 h6, parseS_of (by simpa using h2) ?_ h5 h6]
  rw [List.all_eq_true] at h4 ⊢
  exact fun x hx => nm_mono (h4 x hx)
theorem parseS_cat {pat : Bool} {l : B} (h : (parseS pat l).2 = 0) : cat (parseS pat l).1 = l := by
  obtain ⟨r, h1, h2, h3, h4, h5, h6⟩ := parseS_ok h
  rw [h3, pieces_join, h1]
theorem parseS_inj {pat : Bool} {l m : B} (hl : (parseS pat l).2 = 0) (hm : (parseS pat m).2 = 0) (h : (parseS pat l).1 = (parseS pat m).1) : l = m := by
  rw [← parseS_cat hl, ← parseS_cat hm, h]
def rowS (p s : B) : Bool := glob (fun c : UInt8 => c == 42) (fun c x => c == 63 || c == x) p s
def matchL (p l : List B) : Bool := glob (fun n : B => n == [42, 42]) rowS p l
def matchS (p s : B) : Bool := decide ((parseS true p).2 = 0) && (decide ((parseS false s).2 = 0) && matchL (parseS true p).1 (parseS false s).1)
end Go.Proofs.YtlcgepmacgbciaaDoor.Pth
end
section
namespace Go.Proofs.YtlcgepmacgbciaaDoor.Q
open Go.RowKit Go.Proofs.YtlcgepmacgbciaaDoorW.PrintWords Go.Proofs.YtlcgepmacgbciaaDoorW.PrintLast Go.Proofs.YtlcgepmacgbciaaDoorW.PrintMore
attribute [local go_sem] max2_int min2_int max_two min_two max_three min_three max_four min_four
attribute [local go_sem ↓] isSome_setCell
attribute [local go_sem] string_gtr
set_option linter.unusedVariables false
set_option linter.unusedSimpArgs false
end Go.Proofs.YtlcgepmacgbciaaDoor.Q
end
section
namespace Go.Proofs.YtlcgepmacgbciaaDoor.Q
open Go.RowKit Go.Proofs.YtlcgepmacgbciaaDoorW.PrintWords Go.Proofs.YtlcgepmacgbciaaDoorW.PrintLast Go.Proofs.YtlcgepmacgbciaaDoorW.PrintMore
attribute [local go_sem] max2_int min2_int max_two min_two max_three min_three max_four min_four
attribute [local go_sem ↓] isSome_setCell
attribute [local go_sem] string_gtr
set_option linter.unusedVariables false
set_option linter.unusedSimpArgs false
end Go.Proofs.YtlcgepmacgbciaaDoor.Q
end
section
namespace Go.Proofs.YtlcgepmacgbciaaDoor.Q
open Go.RowKit Go.Proofs.YtlcgepmacgbciaaDoorW.PrintWords Go.Proofs.YtlcgepmacgbciaaDoorW.PrintLast Go.Proofs.YtlcgepmacgbciaaDoorW.PrintMore
attribute [local go_sem] max2_int min2_int max_two min_two max_three min_three max_four min_four
attribute [local go_sem ↓] isSome_setCell
attribute [local go_sem] string_gtr
set_option linter.unusedVariables false
set_option linter.unusedSimpArgs false
end Go.Proofs.YtlcgepmacgbciaaDoor.Q
end
section
namespace Go.Proofs.YtlcgepmacgbciaaDoor.Pth
open Go.RowKit Go.Proofs.YtlcgepmacgbciaaDoor.Q Go.Proofs.YtlcgepmacgbciaaDoorW.PrintWords Go.Proofs.YtlcgepmacgbciaaDoorW.PrintMore Go.Proofs.YtlcgepmacgbciaaDoorW.EvMore
theorem permitted_ev (c : UInt8) (pat : Bool) : Ev (fun k => path_permitted.f k (c.toNat : Int) pat) (pmt pat c) := by
  refine Ev.of (fun k => path_permitted.mono _ _ k) (k := 3) ?_
  have key : ∀ n : Fin 256, ∀ pat : Bool, path_permitted.f 3 (n.val : Int) pat = some (pmtN pat n.val) := by decide +kernel
  exact key ⟨c.toNat, c.toNat_lt⟩ pat
theorem plain_f (c : UInt8) : tapearchiveref19_plain.f (c.toNat : Int) = some (pmt false c) := by
  have key : ∀ n : Fin 256, tapearchiveref19_plain.f (n.val : Int) = some (pmtN false n.val) := by decide +kernel
  exact key ⟨c.toNat, c.toNat_lt⟩
theorem name_loop (s : ByteArray) (pat : Bool) (hs : s.size ≤ 4611686018427387904) : ∀ (d i : Nat), i + d = s.size → Ev (fun k => path_name.l0 k s pat (s.size : Int) (i : Int)) (((bs s).drop i).all (pmt pat)) := by
  intro d
  induction d with
  | zero =>
    intro i hi
    refine Ev.next (fun k => by rw [path_name.l0]) ?_
    refine Ev.neg (by omega) ?_
    rw [List.drop_of_length_le (by rw [bs_length]; omega)]
    exact Ev.done fun _ => rfl
  | succ d ih =>
    intro i hi
    have hl : i < (bs s).length := by rw [bs_length]; omega
    refine Ev.next (fun k => by rw [path_name.l0]) ?_
    refine Ev.pos (by omega) (Ev.pos (by omega) (Ev.pos (by omega) ?_))
    rw [bt_get s i _ (List.getElem?_eq_getElem hl), List.drop_eq_getElem_cons hl, List.all_cons]
    refine Ev.both (permitted_ev _ pat) ?_
    have ih := ih (i + 1) (by omega)
    cases h : pmt pat (bs s)[i] with
    | true =>
      refine Ev.pos rfl ?_
      rw [wrap_in (by omega) (by omega), show (i : Int) + 1 = ((i + 1 : Nat) : Int) from rfl, Bool.true_and]
      exact ih
    | false => exact Ev.neg (by simp) (Ev.done fun _ => rfl)
theorem name_ev (s : ByteArray) (pat : Bool) (hs : s.size ≤ 4611686018427387904) : Ev (fun k => path_name.f k s pat) (nm pat (bs s)) := by
  have hall := name_loop s pat hs s.size 0 (by omega)
  rw [List.drop_zero] at hall
  unfold path_name.f nm
  rw [toList_bs]
  have bad : Ev (fun k => path_name.j0 k s pat true) false := Ev.next (fun k => by rw [path_name.j0]) (Ev.pos rfl (Ev.done fun _ => rfl))
  by_cases h0 : bs s = []
  · refine Ev.pos h0 ?_
    rw [h0]
    exact bad
  refine Ev.neg h0 ?_
  by_cases h1 : bs s = [46]
  · refine Ev.pos h1 ?_
    rw [h1]
    exact bad
  refine Ev.neg h1 ?_
  rw [beq_false_of_ne h0, beq_false_of_ne h1]
  cases h2 : bs s == [46, 46] with
  | true => exact bad
  | false => exact Ev.next (fun k => by rw [path_name.j0]) (Ev.neg (by simp) (by simpa using hall))
theorem occ_one (c : UInt8) (l : B) (h : c ∉ l) : Lib.indexByte l c = -1 := by
  have hg := Lib.indexByte_ge l c
  by_cases h1 : Lib.indexByte l c = -1
  · exact h1
  · obtain ⟨o, ho⟩ : ∃ o : Nat, Lib.indexByte l c = o := ⟨(Lib.indexByte l c).toNat, by omega⟩
    exact absurd (List.mem_of_getElem? (Lib.indexByte_some ho).1) h
theorem cut_none {l : B} (h : 47 ∉ l) : Lib.cut l [47] = (l, [], false) := by
  unfold Lib.cut
  rw [Lib.index_one, occ_one 47 l h]
  rfl
theorem cut_some {a b : B} (h : 47 ∉ a) : Lib.cut (a ++ 47 :: b) [47] = (a, b, true) := by
  have e : Lib.indexByte (a ++ 47 :: b) 47 = (a.length : Int) := by
    cases ho : Lib.indexByte (a ++ 47 :: b) 47 with
    | ofNat o =>
      obtain ⟨h1, h2⟩ := Lib.indexByte_some (o := o) ho
      by_cases h3 : o < a.length
      · rw [List.getElem?_append_left h3] at h1
        exact absurd (List.mem_of_getElem? h1) h
      · by_cases h4 : a.length < o
        · exact absurd (by simp) (h2 a.length h4)
        · show (o : Int) = _
          omega
    | negSucc n =>
      have hg := Lib.indexByte_ge (a ++ 47 :: b) 47
      have e : Lib.indexByte (a ++ 47 :: b) 47 = -1 := by rw [ho] at hg ⊢; omega
      exact absurd (by simp) (Lib.indexByte_none e a.length)
  unfold Lib.cut
  rw [Lib.index_one, e, if_pos (by omega)]
  simp
def finS (pat : Bool) (l : B) (names : List ByteArray) (long : Bool) : List ByteArray × Int :=
  if (pieces l).all (nm pat) = true then (if long = true ∨ (pieces l).any (fun x => decide (24 < x.length)) = true ∨ 8 < names.length + (pieces l).length then ([], 6) else (names ++ (pieces l).map mk, 0)) else ([], 1)
theorem parse_loop (pat : Bool) : ∀ (n : Nat) (s : ByteArray) (names : List ByteArray) (long : Bool), s.size ≤ n → s.size + names.length ≤ 2000000000 → Ev (fun k => path_parse.l0 k pat s names long) (finS pat (bs s) names long) := by
  intro n
  induction n with
  | zero =>
    intro s names long h0 hs
    refine Ev.next (fun k => by rw [path_parse.l0]) ?_
    have hb : bs s = [] := List.length_eq_zero_iff.1 (by rw [bs_length]; omega)
    have hc : strings_Cut.f s ⟨#[47]⟩ = some (mk [], mk [], false) := by
      unfold strings_Cut.f
      rw [if_pos (by omega), show s.data.toList = bs s from rfl, hb]
      rfl
    refine Ev.bindS hc (Ev.both (name_ev (mk []) pat (by rw [mk_size]; simp)) (Ev.neg (by simp [bs_of_mk, nm]) (Ev.done fun _ => ?_)))
    unfold finS
    rw [if_neg]
    rw [hb]
    simp [pieces, nm]
  | succ n ih =>
    intro s names long h0 hs
    refine Ev.next (fun k => by rw [path_parse.l0]) ?_
    have fin1 : ∀ (a : B) (more : Bool) (b : B), bs s = (if more = true then a ++ 47 :: b else a) → strings_Cut.f s ⟨#[47]⟩ = some (mk a, mk b, more) → 47 ∉ a → Ev (fun k => (strings_Cut.f s ⟨#[47]⟩).bind fun bt104 => ((path_name.f k bt104.1 pat).bind fun t107 => (if t107 = true then (if (bt104.1.size : Int) > 24 then (if names.length < 8796093022208 then (if bt104.2.2 = true then (path_parse.l0 k pat bt104.2.1 (names ++ [bt104.1]) true) else (some (([] : List ByteArray), (6 : Int)))) else (none)) else (if names.length < 8796093022208 then ((some (names ++ [bt104.1] : List ByteArray)).bind fun y111 => (if bt104.2.2 = true then (path_parse.l0 k pat bt104.2.1 y111 long) else (if long = true then (some (([] : List ByteArray), (6 : Int))) else (if (y111.length : Int) > 8 then (some (([] : List ByteArray), (6 : Int))) else (some (y111, (0 : Int))))))) else (none))) else (some (([] : List ByteArray), (1 : Int)))))) (finS pat (bs s) names long) := by
      intro a more b hbs hcut ha
      have hlen : (bs s).length = s.size := bs_length s
      have hal : a.length ≤ s.size := by
        rw [hbs] at hlen
        split at hlen
        · simp at hlen; omega
        · omega
      refine Ev.bindS hcut (Ev.both (name_ev (mk a) pat (by rw [mk_size]; omega)) ?_)
      rw [bs_of_mk]
      have hP : pieces (bs s) = if more = true then a :: pieces b else [a] := by
        rw [hbs]
        split
        · exact pieces_cut ha
        · exact pieces_no ha
      have hne := List.length_pos_iff.2 (pieces_ne b)
      unfold finS
      rw [hP]
      by_cases hn : nm pat a = true
      · refine Ev.pos hn ?_
        have rest : ∀ L : Bool, more = true → Ev (fun k => path_parse.l0 k pat (mk b) (names ++ [mk a]) L) (if (pieces b).all (nm pat) = true then (if L = true ∨ (pieces b).any (fun x => decide (24 < x.length)) = true ∨ 8 < names.length + 1 + (pieces b).length then ([], 6) else (names ++ (a :: pieces b).map mk, 0)) else ([], 1)) := by
          intro L hm
          have hbl : a.length + (b.length + 1) = s.size := by
            rw [hbs, if_pos hm] at hlen
            simpa using hlen
          have := ih (mk b) (names ++ [mk a]) L (by rw [mk_size]; omega) (by rw [mk_size, List.length_append, List.length_singleton]; omega)
          unfold finS at this
          rw [bs_of_mk, List.length_append, List.length_singleton, List.append_assoc, List.singleton_append] at this
          exact this
        by_cases h24 : 24 < a.length
        · refine Ev.pos (by rw [mk_size]; omega) (Ev.pos (by omega) ?_)
          cases hm : more with
          | true =>
            refine Ev.pos rfl ?_
            have := rest true hm
            simp only [true_or, if_true] at this ⊢
            simp only [List.all_cons, hn, Bool.true_and, List.any_cons, h24, decide_true, Bool.true_or, true_or, or_true, if_true]
            exact this
          | false =>
            refine Ev.neg (by simp) (Ev.done fun _ => ?_)
            simp [hn, h24]
        · refine Ev.neg (by rw [mk_size]; omega) (Ev.pos (by omega) (Ev.bindS rfl ?_))
          cases hm : more with
          | true =>
            refine Ev.pos rfl ?_
            have := rest long hm
            simp only [if_true, List.all_cons, hn, Bool.true_and, List.any_cons, h24, decide_false, Bool.false_or, List.length_cons] at this ⊢
            rw [show names.length + ((pieces b).length + 1) = names.length + 1 + (pieces b).length from by omega]
            exact this
          | false =>
            refine Ev.neg (by simp) ?_
            simp only [Bool.false_eq_true, if_false, List.all_cons, List.all_nil, Bool.and_true, hn, if_true, List.any_cons, List.any_nil, Bool.or_false, h24, decide_false, false_or, List.length_singleton, List.map_cons, List.map_nil]
            by_cases hL : long = true
            · refine Ev.pos hL (Ev.done fun _ => ?_)
              rw [if_pos (Or.inl hL)]
            · refine Ev.neg hL ?_
              by_cases h8 : 8 < names.length + 1
              · refine Ev.pos (by rw [List.length_append, List.length_singleton]; omega) (Ev.done fun _ => ?_)
                rw [if_pos (Or.inr h8)]
              · refine Ev.neg (by rw [List.length_append, List.length_singleton]; omega) (Ev.done fun _ => ?_)
                rw [if_neg (by rw [not_or]; exact ⟨hL, h8⟩)]
      · refine Ev.neg hn (Ev.done fun _ => ?_)
        rw [if_neg]
        cases more <;> simp [hn]
    rcases cut_cases (bs s) with h | ⟨a, b, h, ha⟩
    · refine fin1 (bs s) false [] (by simp) ?_ h
      unfold strings_Cut.f
      rw [if_pos (by omega), show s.data.toList = bs s from rfl, show (⟨#[47]⟩ : ByteArray).data.toList = [47] from rfl, cut_none h]
      rfl
    · refine fin1 a true b (by simpa using h) ?_ ha
      unfold strings_Cut.f
      rw [if_pos (by omega), show s.data.toList = bs s from rfl, show (⟨#[47]⟩ : ByteArray).data.toList = [47] from rfl, h, cut_some ha]
      rfl
theorem parse_ev (s : ByteArray) (pat : Bool) : Ev (fun k => path_parse.f k s pat) (outS (parseS pat (bs s))) := by
  unfold path_parse.f parseS
  rw [bs_length]
  by_cases h : 200 < s.size
  · refine Ev.pos (by omega) (Ev.done fun _ => ?_)
    rw [if_pos h]
    rfl
  refine Ev.neg (by omega) ?_
  rw [if_neg h]
  have hp : strings_CutPrefix.f s ⟨#[47]⟩ = some (match bs s with | [] => (mk [], false) | c :: r => if c = 47 then (mk r, true) else (mk (c :: r), false)) := by
    unfold strings_CutPrefix.f Lib.trimPrefix Lib.hasPrefix
    rw [show s.data.toList = bs s from rfl, show (⟨#[47]⟩ : ByteArray).data.toList = [47] from rfl]
    cases bs s with
    | nil => rfl
    | cons c r =>
      by_cases hc : c = 47
      · subst hc; simp [mk]
      · have hc2 : ((47 : UInt8) == c) = false := beq_false_of_ne fun e => hc e.symm
        simp [hc, mk, List.isPrefixOf]
        exact fun e => hc e.symm
  refine Ev.bindS hp ?_
  cases hs : bs s with
  | nil => exact Ev.neg (by simp) (Ev.done fun _ => rfl)
  | cons c r =>
    have hl : r.length + 1 = s.size := by rw [← bs_length s, hs]; rfl
    by_cases hc : c = 47
    · simp only [if_pos hc]
      refine Ev.pos trivial ?_
      have := parse_loop pat r.length (mk r) [] false (by rw [mk_size]; omega) (by rw [mk_size]; simp; omega)
      unfold finS at this
      rw [bs_of_mk] at this
      simp only [Bool.false_eq_true, false_or, List.length_nil, Nat.zero_add, List.nil_append] at this
      refine Ev.congr (fun k => rfl) ?_
      have e : outS (if (pieces r).all (nm pat) = true then (if (pieces r).any (fun x => decide (24 < x.length)) = true ∨ 8 < (pieces r).length then ([], 6) else (pieces r, 0)) else ([], 1)) = (if (pieces r).all (nm pat) = true then (if (pieces r).any (fun x => decide (24 < x.length)) = true ∨ 8 < (pieces r).length then ([], 6) else ((pieces r).map mk, 0)) else ([], 1)) := by
        split
        · split <;> rfl
        · rfl
      rw [e]
      exact this
    · simp only [if_neg hc]
      exact Ev.neg (by simp) (Ev.done fun _ => rfl)
theorem Parse_ev (s : ByteArray) : Ev (fun k => path_Parse.f k s) (outS (parseS false (bs s))) := by
  unfold path_Parse.f
  exact Ev.both (parse_ev s false) (Ev.done fun _ => rfl)
theorem bad_mid {pat : Bool} {cur : B} {c : UInt8} {r : B} (h : 47 ∉ cur) (hc : c ≠ 47) (hp : pmt pat c = false) : ¬ (pieces (cur ++ c :: r)).all (nm pat) = true := by
  have h2 : 47 ∉ cur ++ [c] := by simp [h]; exact fun e => hc e.symm
  obtain ⟨p, ps, h3, h4⟩ := pieces_pre (a := cur ++ [c]) (b := r) h2
  rw [List.append_assoc, List.singleton_append] at h4
  rw [h4, List.all_cons]
  intro h5
  rw [Bool.and_eq_true] at h5
  have h6 := h5.1
  unfold nm at h6
  rw [Bool.and_eq_true] at h6
  have := List.all_eq_true.1 h6.2 c (by simp)
  rw [hp] at this
  cases this
def refS (pat : Bool) (out : List ByteArray) (l : B) : List ByteArray × Bool := if (pieces l).all (nm pat) = true then (out ++ (pieces l).map mk, true) else ([], false)
theorem nm_of_all {pat : Bool} {l : B} (h : ∀ c ∈ l, pmt pat c = true) : nm pat l = (!(l == []) && !(l == [46]) && !(l == [46, 46])) := by
  unfold nm
  rw [List.all_eq_true.2 h, Bool.and_true]
theorem names_loop (s : ByteArray) (pat : Bool) (hs : s.size ≤ 1000000000) : ∀ (d i from_ : Nat) (out : List ByteArray), i + d = s.size → from_ ≤ i → out.length ≤ i → 47 ∉ ((bs s).drop from_).take (i - from_) → (∀ c ∈ ((bs s).drop from_).take (i - from_), pmt pat c = true) →
    Ev (fun k => tapearchiveref19_names.l0 k s pat out (from_ : Int) (i : Int)) (refS pat out ((bs s).drop from_)) := by
  intro d
  induction d with
  | zero =>
    intro i from_ out hi hf ho h47 hall
    have e : ((bs s).drop from_).take (i - from_) = (bs s).drop from_ := List.take_of_length_le (by rw [List.length_drop, bs_length]; omega)
    rw [e] at h47 hall
    refine Ev.next (fun k => by rw [tapearchiveref19_names.l0]) ?_
    refine Ev.pos (by omega) (Ev.neg (by omega) (Ev.next (fun k => by rw [tapearchiveref19_names.j2]) ?_))
    have ee : (s.extract (from_ : Int).toNat (i : Int).toNat) = mk ((bs s).drop from_) := by
      apply bs_inj
      rw [bs_extract, Int.toNat_natCast, Int.toNat_natCast, e, bs_of_mk]
    refine Ev.neg (by simp) (Ev.pos (by omega) (Ev.pos (by omega) (Ev.pos (by omega) ?_)))
    rw [ee, mk_toList]
    unfold refS
    rw [pieces_no h47, List.all_cons, List.all_nil, Bool.and_true, nm_of_all hall]
    generalize (bs s).drop from_ = cur at *
    by_cases h1 : cur = []
    · exact Ev.pos h1 (Ev.done fun _ => by rw [if_neg (by simp [h1])])
    refine Ev.neg h1 ?_
    by_cases h2 : cur = [46]
    · exact Ev.pos h2 (Ev.done fun _ => by rw [if_neg (by simp [h2])])
    refine Ev.neg h2 ?_
    by_cases h3 : cur = [46, 46]
    · exact Ev.pos h3 (Ev.done fun _ => by rw [if_neg (by simp [h3])])
    refine Ev.neg h3 (Ev.pos (by omega) ?_)
    rw [if_pos (by simp [h1, h2, h3])]
    refine Ev.next (fun k => by rw [tapearchiveref19_names.l0]) ?_
    rw [wrap_in (by omega) (by omega)]
    exact Ev.neg (by omega) (Ev.done fun _ => rfl)
  | succ d ih =>
    intro i from_ out hi hf ho h47 hall
    have hl : i < (bs s).length := by rw [bs_length]; omega
    have hbt := bt_get s i _ (List.getElem?_eq_getElem hl)
    have hd : (bs s).drop i = (bs s)[i] :: (bs s).drop (i + 1) := List.drop_eq_getElem_cons hl
    have hsplit : (bs s).drop from_ = ((bs s).drop from_).take (i - from_) ++ (bs s)[i] :: (bs s).drop (i + 1) := by
      rw [← hd]
      conv => lhs; rw [← List.take_append_drop (i - from_) ((bs s).drop from_)]
      rw [List.drop_drop, show from_ + (i - from_) = i from by omega]
    have hsn : ((bs s).drop from_).take (i + 1 - from_) = ((bs s).drop from_).take (i - from_) ++ [(bs s)[i]] := by
      rw [show i + 1 - from_ = (i - from_) + 1 from by omega, List.take_succ_eq_append_getElem (by rw [List.length_drop]; omega)]
      congr 1
      rw [List.getElem_drop]
      congr 2
      omega
    have ih1 := ih (i + 1) from_ out (by omega) (by omega) (by omega)
    have ih2 := fun o => ih (i + 1) (i + 1) o (by omega) (by omega)
    rw [hsn] at ih1
    generalize (bs s)[i] = c at *
    refine Ev.next (fun k => by rw [tapearchiveref19_names.l0]) ?_
    refine Ev.pos (by omega) (Ev.pos (by omega) (Ev.pos (by omega) ?_))
    rw [hbt]
    refine Ev.next (fun k => by rw [tapearchiveref19_names.j2]) ?_
    have h47b : ((c.toNat : Int) != 47) = !(c == 47) := by
      rw [Bool.eq_iff_iff]
      simp only [bne_iff_ne, ne_eq, Bool.not_eq_true', beq_eq_false_iff_ne]
      constructor
      · intro h e; subst e; exact h rfl
      · intro h e; apply h; apply UInt8.toNat_inj.1; have : c.toNat = 47 := by omega
        rw [this]; rfl
    by_cases hc : c = 47
    · subst hc
      refine Ev.neg (by simp) (Ev.pos (by omega) (Ev.pos (by omega) (Ev.pos (by omega) ?_)))
      have ee : (s.extract (from_ : Int).toNat (i : Int).toNat) = mk (((bs s).drop from_).take (i - from_)) := by
        apply bs_inj
        rw [bs_extract, Int.toNat_natCast, Int.toNat_natCast, bs_of_mk]
      rw [ee, mk_toList]
      unfold refS
      have hP := pieces_cut (b := (bs s).drop (i + 1)) h47
      rw [← hsplit] at hP
      rw [hP, List.all_cons, nm_of_all hall]
      generalize ((bs s).drop from_).take (i - from_) = cur at *
      by_cases h1 : cur = []
      · exact Ev.pos h1 (Ev.done fun _ => by rw [if_neg (by simp [h1])])
      refine Ev.neg h1 ?_
      by_cases h2 : cur = [46]
      · exact Ev.pos h2 (Ev.done fun _ => by rw [if_neg (by simp [h2])])
      refine Ev.neg h2 ?_
      by_cases h3 : cur = [46, 46]
      · exact Ev.pos h3 (Ev.done fun _ => by rw [if_neg (by simp [h3])])
      refine Ev.neg h3 (Ev.pos (by omega) ?_)
      rw [wrap_in (by omega) (by omega), show (i : Int) + 1 = ((i + 1 : Nat) : Int) from rfl]
      have := ih2 (out ++ [mk cur]) (by simp; omega) (by simp) (by simp)
      unfold refS at this
      rw [beq_false_of_ne h1, beq_false_of_ne h2, beq_false_of_ne h3]
      simpa using this
    · rw [h47b, beq_false_of_ne hc]
      refine Ev.pos rfl (Ev.pos (by omega) (Ev.pos (by omega) ?_))
      have hg : pmt pat c = true → Ev (fun k => tapearchiveref19_names.j3 k s pat out (from_ : Int) (i : Int) false) (refS pat out ((bs s).drop from_)) := by
        intro hp
        refine Ev.next (fun k => by rw [tapearchiveref19_names.j3]) (Ev.neg (by simp) ?_)
        rw [wrap_in (by omega) (by omega), show (i : Int) + 1 = ((i + 1 : Nat) : Int) from rfl]
        refine ih1 (by simp only [List.mem_append, List.mem_singleton, not_or]; exact ⟨h47, fun e => hc e.symm⟩) ?_
        intro x hx
        rcases List.mem_append.1 hx with hx | hx
        · exact hall x hx
        · obtain rfl := List.mem_singleton.1 hx; exact hp
      have hbad : pmt pat c = false → Ev (fun k => tapearchiveref19_names.j3 k s pat out (from_ : Int) (i : Int) true) (refS pat out ((bs s).drop from_)) := by
        intro hp
        refine Ev.next (fun k => by rw [tapearchiveref19_names.j3]) (Ev.pos rfl (Ev.done fun _ => ?_))
        unfold refS
        rw [hsplit, if_neg (bad_mid h47 hc hp)]
      rw [hbt]
      refine Ev.bindS (plain_f c) ?_
      cases hp : pmt false c with
      | true =>
        refine Ev.pos rfl (hg ?_)
        cases pat
        · exact hp
        · exact pmt_mono hp
      | false =>
        refine Ev.neg (by simp) ?_
        have hpat : pmt true c = (pmt false c || (decide (c.toNat = 42) || decide (c.toNat = 63))) := by
          unfold pmt pmtN; simp
        rw [hp, Bool.false_or] at hpat
        cases pat with
        | true =>
          refine Ev.pos rfl ?_
          by_cases h42 : c.toNat = 42
          · refine Ev.pos (by omega) (hg (by rw [hpat]; simp [h42]))
          · refine Ev.neg (by omega) ?_
            by_cases h63 : c.toNat = 63
            · have e : ((c.toNat : Int) == 63) = true := by rw [beq_iff_eq]; omega
              rw [e]
              exact hg (by rw [hpat]; simp [h63])
            · have e : ((c.toNat : Int) == 63) = false := by rw [beq_eq_false_iff_ne]; omega
              rw [e]
              exact hbad (by rw [hpat]; simp [h42, h63])
        | false => exact Ev.neg (by simp) (hbad hp)
theorem names_ev (s : ByteArray) (pat : Bool) (hs : s.size ≤ 1000000000) : Ev (fun k => tapearchiveref19_names.f k s pat) (match bs s with | [] => ([], false) | c :: r => if c = 47 then refS pat [] r else ([], false)) := by
  unfold tapearchiveref19_names.f
  have bad : Ev (fun k => tapearchiveref19_names.j0 k s pat true) ([], false) := Ev.next (fun k => by rw [tapearchiveref19_names.j0]) (Ev.pos rfl (Ev.done fun _ => rfl))
  have hlen := bs_length s
  cases hb : bs s with
  | nil =>
    rw [hb] at hlen
    exact Ev.pos (by simp at hlen; omega) bad
  | cons c r =>
    have h0 : (bs s)[0]? = some c := by rw [hb]; rfl
    have hbt := bt_get s 0 c h0
    rw [hb] at hlen
    simp only [List.length_cons] at hlen
    refine Ev.neg (by omega) (Ev.pos (by omega) ?_)
    rw [show ((0 : Nat) : Int) = 0 from rfl] at hbt
    rw [hbt]
    by_cases hc : c = 47
    · simp only [if_pos hc]
      subst hc
      refine Ev.next (fun k => by rw [tapearchiveref19_names.j0]) (Ev.neg (by simp) ?_)
      have := names_loop s pat hs (s.size - 1) 1 1 [] (by omega) (Nat.le_refl _) (by simp) (by simp) (by simp)
      rw [hb, List.drop_one, List.tail_cons] at this
      exact this
    · simp only [if_neg hc]
      have e : ((c.toNat : Int) != 47) = true := by
        rw [bne_iff_ne]
        intro e
        apply hc
        apply UInt8.toNat_inj.1
        have : c.toNat = 47 := by omega
        rw [this]; rfl
      rw [e]
      exact bad
theorem rd_nat {l : List ByteArray} {i : Nat} (h : i < l.length) : rdOf ByteArray.empty l (i : Int) = l[i] := by
  unfold rdOf
  rw [Int.toNat_natCast, List.getD_eq_getElem?_getD, List.getElem?_eq_getElem h]
  rfl
theorem limits_ev (l : List ByteArray) (hl : l.length ≤ 4611686018427387904) : Ev (fun k => tapearchiveref19_limits.f k l) (if l.any (fun x => decide (24 < x.size)) = true ∨ 8 < l.length then 6 else 0) := by
  unfold tapearchiveref19_limits.f
  have go : ∀ (d i : Nat), i + d = l.length → Ev (fun k => tapearchiveref19_limits.l0 k l (i : Int)) (if (l.drop i).any (fun x => decide (24 < x.size)) = true ∨ 8 < l.length then 6 else 0) := by
    intro d
    induction d with
    | zero =>
      intro i hi
      refine Ev.next (fun k => by rw [tapearchiveref19_limits.l0]) (Ev.neg (by omega) ?_)
      rw [List.drop_of_length_le (by omega)]
      simp only [List.any_nil, Bool.false_eq_true, false_or]
      by_cases h : 8 < l.length
      · exact Ev.pos (by omega) (Ev.done fun _ => by rw [if_pos h])
      · exact Ev.neg (by omega) (Ev.done fun _ => by rw [if_neg h])
    | succ d ih =>
      intro i hi
      have hlt : i < l.length := by omega
      refine Ev.next (fun k => by rw [tapearchiveref19_limits.l0]) (Ev.pos (by omega) (Ev.pos (by omega) ?_))
      rw [rd_nat hlt, List.drop_eq_getElem_cons hlt, List.any_cons]
      by_cases h : 24 < l[i].size
      · exact Ev.pos (by omega) (Ev.done fun _ => by rw [if_pos]; simp [h])
      · refine Ev.neg (by omega) ?_
        rw [wrap_in (by omega) (by omega), show (i : Int) + 1 = ((i + 1 : Nat) : Int) from rfl]
        simp only [h, decide_false, Bool.false_or]
        exact ih (i + 1) (by omega)
  have := go l.length 0 (by omega)
  rw [List.drop_zero] at this
  exact this
theorem rparse_ev (s : ByteArray) (pat : Bool) : Ev (fun k => tapearchiveref19_parse.f k s pat) (outS (parseS pat (bs s))) := by
  unfold tapearchiveref19_parse.f parseS
  rw [bs_length]
  by_cases h : 200 < s.size
  · refine Ev.pos (by omega) (Ev.done fun _ => ?_)
    rw [if_pos h]
    rfl
  refine Ev.neg (by omega) ?_
  rw [if_neg h]
  refine Ev.both (names_ev s pat (by omega)) ?_
  have hlen := bs_length s
  cases hs : bs s with
  | nil => exact Ev.neg (by simp) (Ev.done fun _ => rfl)
  | cons c r =>
    rw [hs] at hlen
    simp only [List.length_cons] at hlen
    by_cases hc : c = 47
    · simp only [if_pos hc]
      unfold refS
      by_cases ha : (pieces r).all (nm pat) = true
      · rw [if_pos ha, if_pos ha]
        have hpl := pieces_len r
        refine Ev.pos rfl (Ev.both (limits_ev _ (by simp; omega)) ?_)
        have e : (((([] : List ByteArray) ++ (pieces r).map mk)).any (fun x => decide (24 < x.size)) = true ∨ 8 < (([] : List ByteArray) ++ (pieces r).map mk).length) ↔ ((pieces r).any (fun x => decide (24 < x.length)) = true ∨ 8 < (pieces r).length) := by
          rw [List.nil_append, List.any_map, List.length_map]
          exact Iff.rfl
        by_cases hb : (pieces r).any (fun x => decide (24 < x.length)) = true ∨ 8 < (pieces r).length
        · rw [if_pos hb, if_pos (e.2 hb)]
          exact Ev.neg (by simp) (Ev.done fun _ => rfl)
        · rw [if_neg hb, if_neg (fun x => hb (e.1 x))]
          exact Ev.pos rfl (Ev.done fun _ => rfl)
      · rw [if_neg ha, if_neg ha]
        exact Ev.neg (by simp) (Ev.done fun _ => rfl)
    · simp only [if_neg hc]
      exact Ev.neg (by simp) (Ev.done fun _ => rfl)
theorem rParse_ev (s : ByteArray) : Ev (fun k => tapearchiveref19_Parse.f k s) (outS (parseS false (bs s))) := by
  unfold tapearchiveref19_Parse.f
  exact Ev.both (rparse_ev s false) (Ev.done fun _ => rfl)
end Go.Proofs.YtlcgepmacgbciaaDoor.Pth
end
section
namespace Go.Proofs.YtlcgepmacgbciaaDoor.Pth
open Go.RowKit Go.Proofs.YtlcgepmacgbciaaDoor.Q Go.Proofs.YtlcgepmacgbciaaDoorW.PrintWords Go.Proofs.YtlcgepmacgbciaaDoorW.PrintMore Go.Proofs.YtlcgepmacgbciaaDoorW.EvMore
def stB : UInt8 → Bool := fun c => c == 42
def mtB : UInt8 → UInt8 → Bool := fun c x => c == 63 || c == x
theorem rowS_eq (p s : B) : rowS p s = glob stB mtB p s := rfl
theorem dw_nil (l : B) (c : UInt8) : l.dropWhile (· == c) = [] ↔ ∀ x ∈ l, x = c := by
  induction l with
  | nil => simp
  | cons a l ih =>
    by_cases h : a = c
    · subst h; simp [ih]
    · have h2 : (a == c) = false := beq_false_of_ne h
      simp [List.dropWhile_cons, h2, h]
theorem dw_head (l : B) (c : UInt8) (h : l.dropWhile (· == c) ≠ []) : ∃ x ∈ l.dropWhile (· == c), x ≠ c := by
  induction l with
  | nil => simp at h
  | cons a l ih =>
    by_cases hc : a = c
    · subst hc
      simp only [List.dropWhile_cons, beq_self_eq_true, if_true] at h ⊢
      exact ih h
    · have h2 : (a == c) = false := beq_false_of_ne hc
      simp only [List.dropWhile_cons, h2, Bool.false_eq_true, if_false] at h ⊢
      exact ⟨a, by simp, hc⟩
theorem trimB_nil (l : B) (c : UInt8) : Lib.trimB l c = [] ↔ ∀ x ∈ l, x = c := by
  unfold Lib.trimB Lib.trimLeftB Lib.trimRightB
  rw [dw_nil]
  constructor
  · intro h
    by_cases e : l.reverse.dropWhile (· == c) = []
    · have := (dw_nil _ _).1 e
      intro x hx; exact this x (by simpa using hx)
    · obtain ⟨x, hx, hne⟩ := dw_head _ _ e
      exact absurd (h x (by simpa using hx)) hne
  · intro h x hx
    have := (List.dropWhile_sublist _).subset (List.mem_reverse.1 hx)
    exact h x (List.mem_reverse.1 this)
theorem byte_eq (a b : UInt8) : ((a.toNat : Int) == (b.toNat : Int)) = (a == b) := by
  rw [Bool.eq_iff_iff]
  simp only [beq_iff_eq]
  constructor
  · intro h; apply UInt8.toNat_inj.1; omega
  · rintro rfl; rfl
structure Hd (a : Prop) : Prop where
  out : a
theorem get_lt {s : ByteArray} {i : Nat} {c : UInt8} (h : (bs s)[i]? = some c) : i < s.size := (List.getElem?_eq_some_iff.1 h).1
section
variable (p s : ByteArray) (hp : p.size ≤ 2000000000) (hs : s.size ≤ 2000000000)
include hp hs
theorem fits_star (st : Int) (bk i k : Nat) (hc : (bs p)[i]? = some 42) (hk : k < (bs s).length) {r : Bool} (g : Ev (fun n => path_fits.l0 n p s (i : Int) (k : Int) ((i + 1 : Nat) : Int) (k : Int)) r) : Ev (fun n => path_fits.l0 n p s st (bk : Int) (i : Int) (k : Int)) r := by
  have _u := And.intro hp hs
  have hi := get_lt hc
  rw [bs_length] at hk
  refine Ev.next (fun k => by rw [path_fits.l0]) ?_
  refine Ev.pos (by omega) (Ev.pos (by omega) (Ev.pos (by omega) ?_))
  rw [bt_get p i _ hc, show (((42 : UInt8).toNat : Int) == 42) = true from rfl]
  refine Ev.next (fun k => by rw [path_fits.j1]) (Ev.pos rfl ?_)
  rw [wrap_in (by omega) (by omega)]
  exact g
theorem fits_pass (st : Int) (bk i k : Nat) {c x : UInt8} (hc : (bs p)[i]? = some c) (hx : (bs s)[k]? = some x) (h : stB c = false) (hm : mtB c x = true) {r : Bool} (g : Ev (fun n => path_fits.l0 n p s st (bk : Int) ((i + 1 : Nat) : Int) ((k + 1 : Nat) : Int)) r) : Ev (fun n => path_fits.l0 n p s st (bk : Int) (i : Int) (k : Int)) r := by
  have _u := And.intro hp hs
  have hi := get_lt hc
  have hk := get_lt hx
  have hb1 := bt_get p i _ hc
  have hb2 := bt_get s k _ hx
  refine Ev.next (fun k => by rw [path_fits.l0]) ?_
  refine Ev.pos (by omega) (Ev.pos (by omega) (Ev.pos (by omega) ?_))
  rw [hb1, show ((c.toNat : Int) == 42) = stB c from byte_eq _ 42, h]
  refine Ev.next (fun k => by rw [path_fits.j1]) (Ev.neg (by simp) (Ev.pos (by omega) (Ev.pos (by omega) ?_)))
  rw [hb1, hb2, byte_eq]
  have go : Ev (fun n => path_fits.j2 n p s st (bk : Int) (i : Int) (k : Int) true) r := by
    refine Ev.next (fun k => by rw [path_fits.j2]) (Ev.pos rfl ?_)
    rw [wrap_in (by omega) (by omega), wrap_in (by omega) (by omega)]
    exact g
  by_cases h63 : c = 63
  · subst h63; exact Ev.pos rfl go
  · have hne : ¬ (c.toNat : Int) = 63 := fun e => h63 (UInt8.toNat_inj.1 (by have e2 : c.toNat = 63 := by omega
                                                                             rw [e2]; rfl))
    refine Ev.neg hne (Ev.pos (by omega) (Ev.pos (by omega) ?_))
    have e : (c == x) = true := by
      unfold mtB at hm
      rw [beq_false_of_ne h63, Bool.false_or] at hm
      exact hm
    rw [e]
    exact go
theorem fits_stop (st : Int) (bk i k : Nat) {x : UInt8} (hi : i ≤ (bs p).length) (hx : (bs s)[k]? = some x) (h : ∀ c, (bs p)[i]? = some c → stB c = false ∧ mtB c x = false) {r : Bool} (g : Ev (fun n => path_fits.j2 n p s st (bk : Int) (i : Int) (k : Int) false) r) : Ev (fun n => path_fits.l0 n p s st (bk : Int) (i : Int) (k : Int)) r := by
  have _u := And.intro hp hs
  have hk := get_lt hx
  have hb2 := bt_get s k _ hx
  rw [bs_length] at hi
  refine Ev.next (fun k => by rw [path_fits.l0]) ?_
  refine Ev.pos (by omega) ?_
  cases hc : (bs p)[i]? with
  | some c =>
    have hlt := get_lt hc
    obtain ⟨h1, h2⟩ := h c hc
    have hb1 := bt_get p i _ hc
    refine Ev.pos (by omega) (Ev.pos (by omega) ?_)
    rw [hb1, show ((c.toNat : Int) == 42) = stB c from byte_eq _ 42, h1]
    refine Ev.next (fun k => by rw [path_fits.j1]) (Ev.neg (by simp) (Ev.pos (by omega) (Ev.pos (by omega) ?_)))
    rw [hb1, hb2, byte_eq]
    unfold mtB at h2
    rw [Bool.or_eq_false_iff] at h2
    have hne : ¬ (c.toNat : Int) = 63 := fun e => by
      have : c = 63 := UInt8.toNat_inj.1 (by have e2 : c.toNat = 63 := by omega
                                             rw [e2]; rfl)
      rw [this] at h2
      simp at h2
    refine Ev.neg hne (Ev.pos (by omega) (Ev.pos (by omega) ?_))
    rw [h2.2]
    exact g
  | none =>
    have hge := List.getElem?_eq_none_iff.1 hc
    rw [bs_length] at hge
    exact Ev.neg (by omega) (Ev.next (fun k => by rw [path_fits.j1]) (Ev.neg (by simp) (Ev.neg (by omega) g)))
theorem fits_end (st : Int) (bk i : Nat) (hi : i ≤ (bs p).length) : Ev (fun n => path_fits.l0 n p s st (bk : Int) (i : Int) ((bs s).length : Int)) (glob stB mtB ((bs p).drop i) ([] : B)) := by
  have _u := And.intro hp hs
  refine Ev.next (fun k => by rw [path_fits.l0]) ?_
  rw [bs_length] at hi
  refine Ev.neg (by rw [bs_length]; omega) (Ev.pos (by omega) (Ev.pos (by omega) ?_))
  have hx : bs (p.extract (i : Int).toNat p.size) = (bs p).drop i := by
    rw [bs_extract, Int.toNat_natCast]
    exact List.take_of_length_le (by rw [List.length_drop, bs_length]; omega)
  have ht : strings_Trim.f (p.extract (i : Int).toNat p.size) ⟨#[42]⟩ = some (mk (Lib.trimB ((bs p).drop i) 42)) := by
    unfold strings_Trim.f
    rw [if_pos]
    · rw [show (p.extract (i : Int).toNat p.size).data.toList = bs (p.extract (i : Int).toNat p.size) from rfl, hx]
      rfl
    · refine ⟨?_, rfl, by decide⟩
      have := congrArg List.length hx
      rw [bs_length, List.length_drop, bs_length] at this
      omega
  refine Ev.bindS ht (Ev.done fun _ => ?_)
  rw [mk_toList]
  congr 1
  rw [Bool.eq_iff_iff, beq_iff_eq, trimB_nil, glob_stars]
  simp [stB]
theorem fits_back (st bk i k : Nat) (hst : st < 2000000001) (hbk : bk < 2000000001) {r : Bool} (g : Ev (fun n => path_fits.l0 n p s (st : Int) ((bk + 1 : Nat) : Int) ((st + 1 : Nat) : Int) ((bk + 1 : Nat) : Int)) r) : Ev (fun n => path_fits.j2 n p s (st : Int) (bk : Int) (i : Int) (k : Int) false) r := by
  have _u := And.intro hp hs
  refine Ev.next (fun k => by rw [path_fits.j2]) (Ev.neg (by simp) (Ev.pos (by omega) ?_))
  rw [wrap_in (by omega) (by omega), wrap_in (by omega) (by omega)]
  exact g
theorem star_loop (st bk i k : Nat) (h1 : st < i) (h2 : i ≤ (bs p).length) (h3 : bk ≤ k) (h4 : k ≤ (bs s).length) (h5 : i - (st + 1) = k - bk)
    (hl : lit stB mtB (((bs p).drop (st + 1)).take (i - (st + 1))) (((bs s).drop bk).take (k - bk)))
    (hg : Hd (glob stB mtB (bs p) (bs s) = true ↔ ∃ t, bk ≤ t ∧ t ≤ (bs s).length ∧ glob stB mtB ((bs p).drop (st + 1)) ((bs s).drop t) = true)) :
    Ev (fun n => path_fits.l0 n p s (st : Int) (bk : Int) (i : Int) (k : Int)) (glob stB mtB (bs p) (bs s)) := by
  have hpl := bs_length p
  have hsl := bs_length s
  have eP : (bs p).drop (st + 1) = ((bs p).drop (st + 1)).take (i - (st + 1)) ++ (bs p).drop i := by
    conv => lhs; rw [← List.take_append_drop (i - (st + 1)) ((bs p).drop (st + 1))]
    rw [List.drop_drop, show st + 1 + (i - (st + 1)) = i from by omega]
  have eS : (bs s).drop bk = ((bs s).drop bk).take (k - bk) ++ (bs s).drop k := by
    conv => lhs; rw [← List.take_append_drop (k - bk) ((bs s).drop bk)]
    rw [List.drop_drop, show bk + (k - bk) = k from by omega]
  have hlen : (((bs p).drop (st + 1)).take (i - (st + 1))).length = k - bk := by rw [List.length_take, List.length_drop]; omega
  have far : ∀ t, bk ≤ t → t ≤ (bs s).length → glob stB mtB ((bs p).drop (st + 1)) ((bs s).drop t) = true → t + (k - bk) ≤ (bs s).length ∧ glob stB mtB ((bs p).drop i) ((bs s).drop (t + (k - bk))) = true := by
    intro t ht1 ht2 hgt
    rw [eP] at hgt
    obtain ⟨h6, h7⟩ := glob_lit_len stB mtB _ _ _ hl.2.1 hgt
    rw [hlen, List.length_drop] at h6
    rw [hlen, List.drop_drop] at h7
    exact ⟨by omega, h7⟩
  have here : glob stB mtB ((bs p).drop (st + 1)) ((bs s).drop bk) = true ↔ glob stB mtB ((bs p).drop i) ((bs s).drop k) = true := by
    rw [eP, eS]
    exact glob_lit stB mtB _ _ _ _ hl
  by_cases hk : k < (bs s).length
  · by_cases hi : i < (bs p).length
    · have eI : (bs p).drop i = (bs p)[i] :: (bs p).drop (i + 1) := List.drop_eq_getElem_cons hi
      cases hst : stB (bs p)[i] with
      | true =>
        have h42 : (bs p)[i] = 42 := by simpa [stB] using hst
        refine fits_star p s hp hs _ _ _ _ (h42 ▸ List.getElem?_eq_getElem hi) hk ?_
        refine star_loop i k (i + 1) k (by omega) (by omega) (Nat.le_refl _) (by omega) (by omega) ?_ ?_
        · rw [Nat.sub_self, Nat.sub_self, List.take_zero, List.take_zero]
          exact lit_nil _ _
        · refine ⟨?_⟩
          rw [hg.out]
          constructor
          · rintro ⟨t, ht1, ht2, ht3⟩
            obtain ⟨h6, h7⟩ := far t ht1 ht2 ht3
            rw [eI, glob_star _ _ hst] at h7
            obtain ⟨j, h8, h9⟩ := h7
            rw [List.length_drop] at h8
            rw [List.drop_drop] at h9
            exact ⟨_, by omega, by omega, h9⟩
          · rintro ⟨t, ht1, ht2, ht3⟩
            refine ⟨bk, Nat.le_refl _, by omega, here.2 ?_⟩
            rw [eI, glob_star _ _ hst]
            exact ⟨t - k, by rw [List.length_drop]; omega, by rw [List.drop_drop, show k + (t - k) = t from by omega]; exact ht3⟩
      | false =>
        cases hm : mtB (bs p)[i] (bs s)[k] with
        | true =>
          refine fits_pass p s hp hs _ _ _ _ (List.getElem?_eq_getElem hi) (List.getElem?_eq_getElem hk) hst hm ?_
          refine star_loop st bk (i + 1) (k + 1) (by omega) (by omega) (by omega) (by omega) (by omega) ?_ hg
          have e1 : ((bs p).drop (st + 1)).take (i + 1 - (st + 1)) = ((bs p).drop (st + 1)).take (i - (st + 1)) ++ [(bs p)[i]] := by
            rw [show i + 1 - (st + 1) = (i - (st + 1)) + 1 from by omega, List.take_succ_eq_append_getElem (by rw [List.length_drop]; omega)]
            congr 1
            rw [List.getElem_drop]
            congr 2
            omega
          have e2 : ((bs s).drop bk).take (k + 1 - bk) = ((bs s).drop bk).take (k - bk) ++ [(bs s)[k]] := by
            rw [show k + 1 - bk = (k - bk) + 1 from by omega, List.take_succ_eq_append_getElem (by rw [List.length_drop]; omega)]
            congr 1
            rw [List.getElem_drop]
            congr 2
            omega
          rw [e1, e2]
          exact lit_snoc _ _ hl hst hm
        | false =>
          refine fits_stop p s hp hs _ _ _ _ h2 (List.getElem?_eq_getElem hk) (fun c hc => by rw [List.getElem?_eq_getElem hi] at hc; obtain rfl := Option.some.inj hc; exact ⟨hst, hm⟩) (fits_back p s hp hs _ _ _ _ (by omega) (by omega) ?_)
          refine star_loop st (bk + 1) (st + 1) (bk + 1) (by omega) (by omega) (Nat.le_refl _) (by omega) (by omega) ?_ ?_
          · rw [Nat.sub_self, Nat.sub_self, List.take_zero, List.take_zero]
            exact lit_nil _ _
          · refine ⟨?_⟩
            rw [hg.out]
            constructor
            · rintro ⟨t, ht1, ht2, ht3⟩
              by_cases e : t = bk
              · subst e
                have h6 := here.1 ht3
                rw [eI, glob_one _ _ hst, List.drop_eq_getElem_cons hk] at h6
                obtain ⟨x, r, e, h7, _⟩ := h6
                obtain ⟨rfl, rfl⟩ := List.cons.inj e
                rw [hm] at h7
                cases h7
              · exact ⟨t, by omega, ht2, ht3⟩
            · rintro ⟨t, ht1, ht2, ht3⟩; exact ⟨t, by omega, ht2, ht3⟩
    · refine fits_stop p s hp hs _ _ _ _ h2 (List.getElem?_eq_getElem hk) (fun c hc => absurd (List.getElem?_eq_some_iff.1 hc).1 hi) (fits_back p s hp hs _ _ _ _ (by omega) (by omega) ?_)
      refine star_loop st (bk + 1) (st + 1) (bk + 1) (by omega) (by omega) (Nat.le_refl _) (by omega) (by omega) ?_ ?_
      · rw [Nat.sub_self, Nat.sub_self, List.take_zero, List.take_zero]
        exact lit_nil _ _
      · refine ⟨?_⟩
        rw [hg.out]
        constructor
        · rintro ⟨t, ht1, ht2, ht3⟩
          by_cases e : t = bk
          · subst e
            have h6 := here.1 ht3
            rw [List.drop_of_length_le (by omega : (bs p).length ≤ i), glob_nil, List.drop_eq_getElem_cons hk] at h6
            cases h6
          · exact ⟨t, by omega, ht2, ht3⟩
        · rintro ⟨t, ht1, ht2, ht3⟩; exact ⟨t, by omega, ht2, ht3⟩
  · obtain rfl : k = (bs s).length := by omega
    have := fits_end p s hp hs (st : Int) bk i h2
    have e : glob stB mtB ((bs p).drop i) ([] : B) = glob stB mtB (bs p) (bs s) := by
      rw [List.drop_length] at here
      rw [Bool.eq_iff_iff, hg.out, ← here]
      constructor
      · intro h; exact ⟨bk, Nat.le_refl _, by omega, h⟩
      · rintro ⟨t, ht1, ht2, ht3⟩
        obtain ⟨h6, h7⟩ := far t ht1 ht2 ht3
        obtain rfl : t = bk := by omega
        exact ht3
    rw [e] at this
    exact this
termination_by ((bs p).length - st, (bs s).length - bk, (bs p).length - i)
decreasing_by
  all_goals first
    | exact Prod.Lex.left _ _ (by omega)
    | exact Prod.Lex.right _ (Prod.Lex.left _ _ (by omega))
    | exact Prod.Lex.right _ (Prod.Lex.right _ (by omega))
theorem none_loop : ∀ (d i : Nat), i + d = (bs s).length → i ≤ (bs p).length → lit stB mtB ((bs p).take i) ((bs s).take i) → Ev (fun n => path_fits.l0 n p s (-1) 0 (i : Int) (i : Int)) (glob stB mtB (bs p) (bs s)) := by
  have hpl := bs_length p
  have hsl := bs_length s
  intro d
  induction d with
  | zero =>
    intro i hd hi hl
    have hg := glob_lit stB mtB _ ((bs p).drop i) _ ((bs s).drop i) hl
    rw [List.take_append_drop, List.take_append_drop, List.drop_of_length_le (by omega : (bs s).length ≤ i)] at hg
    have := fits_end p s hp hs (-1) 0 i hi
    rw [Bool.eq_iff_iff.2 hg.symm] at this
    obtain rfl : i = (bs s).length := by omega
    exact this
  | succ d ih =>
    intro i hd hi hl
    have hg := glob_lit stB mtB _ ((bs p).drop i) _ ((bs s).drop i) hl
    rw [List.take_append_drop, List.take_append_drop] at hg
    have hk : i < (bs s).length := by omega
    have eS : (bs s).drop i = (bs s)[i] :: (bs s).drop (i + 1) := List.drop_eq_getElem_cons hk
    have bad : Ev (fun n => path_fits.j2 n p s (-1) ((0 : Nat) : Int) (i : Int) (i : Int) false) false := Ev.next (fun k => by rw [path_fits.j2]) (Ev.neg (by simp) (Ev.neg (by omega) (Ev.done fun _ => rfl)))
    by_cases hi2 : i < (bs p).length
    · have eI : (bs p).drop i = (bs p)[i] :: (bs p).drop (i + 1) := List.drop_eq_getElem_cons hi2
      cases hst : stB (bs p)[i] with
      | true =>
        have h42 : (bs p)[i] = 42 := by simpa [stB] using hst
        refine fits_star p s hp hs (-1) 0 i i (h42 ▸ List.getElem?_eq_getElem hi2) hk ?_
        refine star_loop p s hp hs i i (i + 1) i (by omega) (by omega) (Nat.le_refl _) (by omega) (by omega) ?_ ?_
        · rw [Nat.sub_self, Nat.sub_self, List.take_zero, List.take_zero]
          exact lit_nil _ _
        · refine ⟨?_⟩
          rw [hg, eI, glob_star _ _ hst]
          constructor
          · rintro ⟨j, h8, h9⟩
            rw [List.length_drop] at h8
            rw [List.drop_drop] at h9
            exact ⟨_, by omega, by omega, h9⟩
          · rintro ⟨t, ht1, ht2, ht3⟩
            exact ⟨t - i, by rw [List.length_drop]; omega, by rw [List.drop_drop, show i + (t - i) = t from by omega]; exact ht3⟩
      | false =>
        cases hm : mtB (bs p)[i] (bs s)[i] with
        | true =>
          refine fits_pass p s hp hs (-1) 0 i i (List.getElem?_eq_getElem hi2) (List.getElem?_eq_getElem hk) hst hm ?_
          refine ih (i + 1) (by omega) (by omega) ?_
          rw [List.take_succ_eq_append_getElem hi2, List.take_succ_eq_append_getElem hk]
          exact lit_snoc _ _ hl hst hm
        | false =>
          have e : glob stB mtB (bs p) (bs s) = false := by
            rw [Bool.eq_false_iff]
            intro h
            have h6 := hg.1 h
            rw [eI, glob_one _ _ hst, eS] at h6
            obtain ⟨x, r, e, h7, _⟩ := h6
            obtain ⟨rfl, rfl⟩ := List.cons.inj e
            rw [hm] at h7
            cases h7
          rw [e]
          exact fits_stop p s hp hs (-1) 0 i i hi (List.getElem?_eq_getElem hk) (fun c hc => by rw [List.getElem?_eq_getElem hi2] at hc; obtain rfl := Option.some.inj hc; exact ⟨hst, hm⟩) bad
    · have e : glob stB mtB (bs p) (bs s) = false := by
        rw [Bool.eq_false_iff]
        intro h
        have h6 := hg.1 h
        rw [List.drop_of_length_le (by omega : (bs p).length ≤ i), glob_nil, eS] at h6
        cases h6
      rw [e]
      exact fits_stop p s hp hs (-1) 0 i i hi (List.getElem?_eq_getElem hk) (fun c hc => absurd (List.getElem?_eq_some_iff.1 hc).1 hi2) bad
theorem fits_ev : Ev (fun k => path_fits.f k p s) (rowS (bs p) (bs s)) := by
  unfold path_fits.f
  exact none_loop p s hp hs (bs s).length 0 (by omega) (by omega) (lit_nil _ _)
end
end Go.Proofs.YtlcgepmacgbciaaDoor.Pth
end
section
namespace Go.Proofs.YtlcgepmacgbciaaDoor.Pth
open Go.RowKit Go.Proofs.YtlcgepmacgbciaaDoor.Q Go.Proofs.YtlcgepmacgbciaaDoorW.PrintWords Go.Proofs.YtlcgepmacgbciaaDoorW.PrintMore Go.Proofs.YtlcgepmacgbciaaDoorW.EvMore
def part (R : List Bool) (k : Nat) : List Bool := R.take k ++ List.replicate (R.length - k) false
theorem part_zero (R : List Bool) : part R 0 = List.replicate R.length false := by simp [part]
theorem part_full (R : List Bool) : part R R.length = R := by simp [part]
theorem part_length (R : List Bool) (k : Nat) (h : k ≤ R.length) : (part R k).length = R.length := by simp [part]; omega
theorem part_get (R : List Bool) (k j : Nat) (h : k ≤ R.length) (hj : j < k) : (part R k).getD j false = R.getD j false := by
  unfold part
  rw [List.getD_eq_getElem?_getD, List.getElem?_append_left (by rw [List.length_take]; omega), List.getElem?_take_of_lt hj, List.getD_eq_getElem?_getD]
theorem part_set (R : List Bool) (k : Nat) (h : k < R.length) (b : Bool) (hb : b = R.getD k false) : (part R k).set k b = part R (k + 1) := by
  have hg : R.getD k false = R[k] := by rw [List.getD_eq_getElem?_getD, List.getElem?_eq_getElem h]; rfl
  rw [hg] at hb
  subst hb
  unfold part
  rw [List.set_append_right k _ (by rw [List.length_take]; omega), List.length_take, show k - min k R.length = 0 from by omega, show R.length - k = (R.length - (k + 1)) + 1 from by omega, List.replicate_succ, List.set_cons_zero, List.take_succ_eq_append_getElem h, List.append_assoc]
  rfl
theorem part_skip (R : List Bool) (k : Nat) (h : k < R.length) (hb : R.getD k false = false) : part R k = part R (k + 1) := by
  rw [← part_set R k h false hb.symm]
  apply List.ext_getElem?
  intro i
  rw [List.getElem?_set]
  split
  · rename_i e
    subst e
    rw [if_pos (by rw [part_length R k (by omega)]; exact h)]
    unfold part
    rw [List.getElem?_append_right (by rw [List.length_take]; omega), List.length_take, show k - min k R.length = 0 from by omega, List.getElem?_replicate, if_pos (by omega)]
  · rfl
theorem rdOf_nat {α : Type} (d : α) (xs : List α) (i : Nat) : rdOf d xs (i : Int) = xs.getD i d := by
  unfold rdOf
  rw [Int.toNat_natCast]
section
variable (p s : ByteArray) (hp : p.size ≤ 2000000000) (hs : s.size ≤ 2000000000)
include hp hs
end
def stN : B → Bool := fun n => n == [42, 42]
theorem matchL_eq (p l : List B) : matchL p l = glob stN rowS p l := rfl
theorem rdB (l : List ByteArray) (i : Nat) (x : ByteArray) (h : l[i]? = some x) : rdOf ByteArray.empty l (i : Int) = x := by
  rw [rdOf_nat, List.getD_eq_getElem?_getD, h]
  rfl
theorem getE {α : Type} {l : List α} {i : Nat} (h : i < l.length) : ∃ x, l[i]? = some x := ⟨_, List.getElem?_eq_getElem h⟩
def small (l : List ByteArray) : Prop := ∀ x ∈ l, x.size ≤ 2000000000
theorem small_get {l : List ByteArray} (h : small l) {i : Nat} {x : ByteArray} (e : l[i]? = some x) : x.size ≤ 2000000000 := h x (List.mem_of_getElem? e)
theorem small_map {l : List B} (h : ∀ x ∈ l, x.length ≤ 24) : small (l.map mk) := by
  intro x hx
  obtain ⟨y, hy, rfl⟩ := List.mem_map.1 hx
  rw [mk_size]
  have := h y hy
  omega
theorem map_bs_mk (l : List B) : (l.map mk).map bs = l := by
  rw [List.map_map]
  conv => rhs; rw [← List.map_id l]
  exact List.map_congr_left fun x _ => rfl
section
variable (P L : List ByteArray) (hP : small P) (hLs : small L) (hPl : P.length ≤ 1000000) (hLl : L.length ≤ 1000000)
include hP hLs hPl hLl
theorem match_inner (i : Nat) (c : ByteArray) (hc : P[i]? = some c) {r : Bool} (g : Ev (fun n => path_Match.l0 n L (rowOf stN rowS ((P.map bs).take (i + 1)) (L.map bs)) P (P.length : Int) ((i + 1 : Nat) : Int)) r) :
    ∀ (d k : Nat), k + d = L.length + 1 → Ev (fun n => path_Match.l1 n L (rowOf stN rowS ((P.map bs).take i) (L.map bs)) c (part (rowOf stN rowS ((P.map bs).take (i + 1)) (L.map bs)) k) P (P.length : Int) (i : Int) ((L.length + 1 : Nat) : Int) (k : Int)) r := by
  have hi := (List.getElem?_eq_some_iff.1 hc).1
  have hsl : (L.map bs).length = L.length := List.length_map _
  have hT : (P.map bs).take (i + 1) = (P.map bs).take i ++ [bs c] := by
    obtain ⟨h1, h2⟩ := List.getElem?_eq_some_iff.1 hc
    rw [List.take_succ_eq_append_getElem (by rw [List.length_map]; exact h1), List.getElem_map, h2]
  have hL := rowOf_length stN rowS ((P.map bs).take i) (L.map bs)
  have hL2 := rowOf_length stN rowS ((P.map bs).take (i + 1)) (L.map bs)
  have hget := rowOf_get stN rowS ((P.map bs).take i) (L.map bs)
  have hget2 := rowOf_get stN rowS ((P.map bs).take (i + 1)) (L.map bs)
  have hstar := fun h => row_star stN rowS (c := bs c) h ((P.map bs).take i) (L.map bs)
  have hone := fun h => row_one stN rowS (c := bs c) h ((P.map bs).take i) (L.map bs)
  have hone0 := fun h => row_one_zero stN rowS (c := bs c) h ((P.map bs).take i) (L.map bs)
  rw [← hT] at hstar hone hone0
  generalize hR : rowOf stN rowS ((P.map bs).take i) (L.map bs) = R at *
  generalize hR2 : rowOf stN rowS ((P.map bs).take (i + 1)) (L.map bs) = R2 at *
  intro d
  induction d with
  | zero =>
    intro k hd
    refine Ev.next (fun k => by rw [path_Match.l1]) (Ev.neg (by omega) ?_)
    rw [show k = R2.length from by omega, part_full]
    rw [wrap_in (by omega) (by omega)]
    exact g
  | succ d ih =>
    intro k hd
    have ih := ih (k + 1) (by omega)
    have hpl := part_length R2 k (by omega)
    have fin : ∀ b, b = R2.getD k false → Ev (fun n => path_Match.l1 n L R c ((part R2 k).set ((k : Nat) : Int).toNat b) P (P.length : Int) (i : Int) ((L.length + 1 : Nat) : Int) (wrap64 ((k : Int) + 1))) r := by
      intro b hb
      rw [Int.toNat_natCast, part_set R2 k (by omega) b hb, wrap_in (by omega) (by omega)]
      exact ih
    refine Ev.next (fun k => by rw [path_Match.l1]) (Ev.pos (by omega) ?_)
    rw [toList_bs, rdOf_nat]
    cases hst : stN (bs c) with
    | true =>
      have h42 : bs c = [42, 42] := by simpa [stN] using hst
      refine Ev.pos h42 (Ev.pos (by omega) (Ev.pos (by omega) ?_))
      have hk := hstar hst k (by omega)
      rw [← hget2 k (by omega), ← hget k (by omega)] at hk
      by_cases hb : R.getD k false = true
      · refine Ev.pos hb (Ev.pos (by omega) (fin _ ?_))
        rw [hk, hb, Bool.true_or]
      · refine Ev.neg hb ?_
        have hb' : R.getD k false = false := by simpa using hb
        by_cases h0 : 0 < k
        · refine Ev.pos (by omega) ?_
          rw [wrap_in (by omega) (by omega), show (k : Int) - 1 = ((k - 1 : Nat) : Int) from by omega]
          refine Ev.pos (by omega) (Ev.pos (by omega) (Ev.pos (by omega) (fin _ ?_)))
          rw [rdOf_nat, part_get R2 k (k - 1) (by omega) (by omega), hk, hb', decide_eq_true h0, ← hget2 (k - 1) (by omega)]
          simp
        · refine Ev.neg (by omega) (Ev.pos (by omega) (fin _ ?_))
          rw [hk, hb', decide_eq_false h0]
          simp
    | false =>
      have h42 : ¬ bs c = [42, 42] := by
        intro e
        simp [stN, e] at hst
      refine Ev.neg h42 ?_
      by_cases h0 : 0 < k
      · refine Ev.pos (by omega) ?_
        rw [wrap_in (by omega) (by omega), show (k : Int) - 1 = ((k - 1 : Nat) : Int) from by omega, rdOf_nat]
        refine Ev.pos (by omega) (Ev.pos (by omega) ?_)
        have hkl : k - 1 < (L.map bs).length := by omega
        have hk := hone hst (k - 1) hkl
        rw [show k - 1 + 1 = k from by omega, ← hget2 k (by omega), ← hget (k - 1) (by omega), List.getElem_map] at hk
        have hkl2 : k - 1 < L.length := by omega
        have hx : L[k - 1]? = some (L[k - 1]'hkl2) := List.getElem?_eq_getElem hkl2
        generalize L[k - 1]'hkl2 = x at hk hx
        by_cases hb : R.getD (k - 1) false = true
        · refine Ev.pos hb (Ev.pos (by omega) ?_)
          rw [hb, Bool.true_and] at hk
          rw [rdB L (k - 1) x hx]
          refine Ev.both (fits_ev c x (small_get hP hc) (small_get hLs hx)) (Ev.pos (by omega) (Ev.pos (by omega) (fin _ ?_)))
          exact hk.symm
        · refine Ev.neg hb (Ev.pos (by omega) (Ev.pos (by omega) (fin _ ?_)))
          have hb' : R.getD (k - 1) false = false := by simpa using hb
          rw [hk, hb', Bool.false_and]
      · refine Ev.neg (by omega) ?_
        rw [part_skip R2 k (by omega) (by rw [hget2 k (by omega), show k = 0 from by omega, hone0 hst]), wrap_in (by omega) (by omega)]
        exact ih
theorem match_outer : ∀ (d i : Nat), i + d = P.length → Ev (fun n => path_Match.l0 n L (rowOf stN rowS ((P.map bs).take i) (L.map bs)) P (P.length : Int) (i : Int)) (matchL (P.map bs) (L.map bs)) := by
  have hsl : (L.map bs).length = L.length := List.length_map _
  intro d
  induction d with
  | zero =>
    intro i hd
    have hL := rowOf_length stN rowS ((P.map bs).take i) (L.map bs)
    refine Ev.next (fun k => by rw [path_Match.l0]) (Ev.neg (by omega) (Ev.pos (by omega) (Ev.pos (by omega) (Ev.done fun _ => ?_))))
    rw [rdOf_nat, rowOf_get _ _ _ _ _ (by omega), List.take_of_length_le (by rw [List.length_map]; omega), List.take_of_length_le (by omega)]
    rfl
  | succ d ih =>
    intro i hd
    have hlt : i < P.length := by omega
    have hL0 := rowOf_length stN rowS ((P.map bs).take i) (L.map bs)
    have hL := rowOf_length stN rowS ((P.map bs).take (i + 1)) (L.map bs)
    obtain ⟨c, hc⟩ := getE hlt
    refine Ev.next (fun k => by rw [path_Match.l0]) (Ev.pos (by omega) (Ev.pos (by omega) (Ev.pos (by omega) ?_)))
    rw [wrap_in (by omega) (by omega), show (L.length : Int) + 1 = ((L.length + 1 : Nat) : Int) from rfl, Int.toNat_natCast]
    refine Ev.pos (by omega) (Ev.pos (by omega) ?_)
    have := match_inner P L hP hLs hPl hLl i c hc (ih (i + 1) (by omega)) (L.length + 1) 0 (by omega)
    rw [part_zero, hL, hsl] at this
    rw [rdB P i c hc, hL0, hsl]
    exact this
theorem match_table : Ev (fun k => path_Match.j0 k P L false) (matchL (P.map bs) (L.map bs)) := by
  refine Ev.next (fun k => by rw [path_Match.j0]) (Ev.neg (by simp) ?_)
  rw [wrap_in (by omega) (by omega), show (L.length : Int) + 1 = ((L.length + 1 : Nat) : Int) from rfl, Int.toNat_natCast]
  refine Ev.pos (by omega) (Ev.pos (by omega) (Ev.bindS rfl (Ev.pos (by rw [List.length_replicate]; omega) ?_)))
  have := match_outer P L hP hLs hPl hLl P.length 0 (by omega)
  rw [List.take_zero, rowOf_start, List.length_map] at this
  exact this
end
theorem Match_ev (a b : ByteArray) : Ev (fun k => path_Match.f k a b) (matchS (bs a) (bs b)) := by
  unfold path_Match.f matchS
  refine Ev.both (parse_ev a true) (Ev.both (Parse_ev b) ?_)
  unfold outS
  have bad : ∀ P L, Ev (fun k => path_Match.j0 k P L true) false := fun P L => Ev.next (fun k => by rw [path_Match.j0]) (Ev.pos rfl (Ev.done fun _ => rfl))
  by_cases h1 : (parseS true (bs a)).2 = 0
  · refine Ev.pos h1 ?_
    by_cases h2 : (parseS false (bs b)).2 = 0
    · obtain ⟨r, _, _, e3, _, e5, e6⟩ := parseS_ok h1
      obtain ⟨r', _, _, f3, _, f5, f6⟩ := parseS_ok h2
      simp only
      rw [h2, decide_eq_true h1, decide_eq_true rfl, Bool.true_and, Bool.true_and, e3, f3]
      have := match_table ((pieces r).map mk) ((pieces r').map mk) (small_map e5) (small_map f5) (by simp; omega) (by simp; omega)
      rw [map_bs_mk, map_bs_mk] at this
      exact this
    · have e : ((parseS false (bs b)).2 != 0) = true := by simpa using h2
      simp only
      rw [e, decide_eq_false h2, Bool.false_and, Bool.and_false]
      exact bad _ _
  · refine Ev.neg h1 ?_
    rw [decide_eq_false h1, Bool.false_and]
    exact bad _ _
end Go.Proofs.YtlcgepmacgbciaaDoor.Pth
end
section
namespace Go.Proofs.YtlcgepmacgbciaaDoor.Pth
open Go.RowKit Go.Proofs.YtlcgepmacgbciaaDoor.Q Go.Proofs.YtlcgepmacgbciaaDoorW.PrintWords Go.Proofs.YtlcgepmacgbciaaDoorW.PrintMore Go.Proofs.YtlcgepmacgbciaaDoorW.EvMore
theorem rValid_ev (s : ByteArray) : Ev (fun k => tapearchiveref19_Valid.f k s) (decide ((parseS false (bs s)).2 = 0)) := by
  unfold tapearchiveref19_Valid.f
  exact Ev.both (rParse_ev s) (Ev.done fun _ => rfl)
theorem Pattern_ev (s : ByteArray) : Ev (fun k => path_Pattern.f k s) (decide ((parseS true (bs s)).2 = 0)) := by
  unfold path_Pattern.f
  exact Ev.both (parse_ev s true) (Ev.done fun _ => rfl)
end Go.Proofs.YtlcgepmacgbciaaDoor.Pth
end
section
namespace Go.Proofs.YtlcgepmacgbciaaDoor.Pth
open Go.RowKit Go.Proofs.YtlcgepmacgbciaaDoor.Q Go.Proofs.YtlcgepmacgbciaaDoorW.PrintWords Go.Proofs.YtlcgepmacgbciaaDoorW.PrintMore Go.Proofs.YtlcgepmacgbciaaDoorW.EvMore
theorem awake_ev : Ev (fun k => tapearchivelaw19_awake.f k) true := by
  refine Ev.of (fun k => tapearchivelaw19_awake.mono k) (k := 60) ?_
  kernel_rfl
theorem few_f (s : ByteArray) : tapearchivelaw19_few.f s = some (decide (s.size ≤ 500)) := by
  unfold tapearchivelaw19_few.f
  congr 1
  rw [Bool.eq_iff_iff, decide_eq_true_eq, decide_eq_true_eq]
  omega
end Go.Proofs.YtlcgepmacgbciaaDoor.Pth
end
section
namespace Go.Proofs.YtlcgepmacgbciaaDoor.Pth
open Go.RowKit Go.Proofs.YtlcgepmacgbciaaDoorW.PrintWords Go.Proofs.YtlcgepmacgbciaaDoorW.EvMore
theorem glob_eq {α : Type} (st : α → Bool) (mt : α → α → Bool) : ∀ (p l : List α), (∀ c ∈ p, st c = false ∧ ∀ x, mt c x = true ↔ c = x) → (glob st mt p l = true ↔ p = l)
  | [], l, _ => by rw [glob_nil]; exact eq_comm
  | c :: p, l, h => by
    obtain ⟨h1, h2⟩ := h c (by simp)
    have ih := fun l => glob_eq st mt p l fun d hd => h d (by simp [hd])
    rw [glob_one st mt h1]
    constructor
    · rintro ⟨x, r, rfl, h3, h4⟩
      rw [(h2 x).1 h3, (ih r).1 h4]
    · rintro rfl
      exact ⟨c, p, rfl, (h2 c).2 rfl, (ih p).2 rfl⟩
theorem pmt_no {c : UInt8} (h : pmt false c = true) : c ≠ 42 ∧ c ≠ 63 := by
  constructor
  · rintro rfl; revert h; decide
  · rintro rfl; revert h; decide
theorem nm_pmt {pat : Bool} {l : B} (h : nm pat l = true) {c : UInt8} (hc : c ∈ l) : pmt pat c = true := by
  unfold nm at h
  rw [Bool.and_eq_true, List.all_eq_true] at h
  exact h.2 c hc
theorem row_eq {n x : B} (h : nm false n = true) : rowS n x = true ↔ n = x := by
  rw [rowS_eq]
  refine glob_eq _ _ n x fun c hc => ?_
  obtain ⟨h1, h2⟩ := pmt_no (nm_pmt h hc)
  refine ⟨by simp [stB, h1], fun y => ?_⟩
  unfold mtB
  rw [beq_false_of_ne h2, Bool.false_or, beq_iff_eq]
theorem nm_star {n : B} (h : nm false n = true) : stN n = false := by
  unfold stN
  rw [beq_eq_false_iff_ne]
  rintro rfl
  exact (pmt_no (nm_pmt h (c := 42) (by simp))).1 rfl
theorem match_eq {l m : List B} (h : l.all (nm false) = true) : matchL l m = true ↔ l = m := by
  rw [matchL_eq]
  rw [List.all_eq_true] at h
  exact glob_eq _ _ l m fun n hn => ⟨nm_star (h n hn), fun x => row_eq (h n hn)⟩
theorem match_self {a b : B} (ha : (parseS false a).2 = 0) (hb : (parseS false b).2 = 0) : matchS a b = (a == b) := by
  unfold matchS
  have hm := parseS_mono ha
  obtain ⟨r, e1, e2, e3, e4, e5, e6⟩ := parseS_ok ha
  rw [hm, decide_eq_true ha, decide_eq_true hb, Bool.true_and, Bool.true_and, Bool.eq_iff_iff, match_eq (by rw [e3]; exact e4), beq_iff_eq]
  exact ⟨fun e => parseS_inj ha hb e, fun e => by rw [e]⟩
theorem match_deepAll {b : B} (hb : (parseS false b).2 = 0) : matchS [47, 42, 42] b = true := by
  unfold matchS
  rw [show parseS true [47, 42, 42] = ([[42, 42]], 0) from by decide, decide_eq_true hb]
  simp only [decide_true, Bool.true_and]
  rw [matchL_eq]
  exact glob_single_star _ _ rfl _
end Go.Proofs.YtlcgepmacgbciaaDoor.Pth
end
