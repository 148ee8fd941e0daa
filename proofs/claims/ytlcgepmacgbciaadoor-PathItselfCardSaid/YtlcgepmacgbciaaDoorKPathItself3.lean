import Derived.Test.YtlcgepmacgbciaaDoorKPathItself2
set_option linter.unusedVariables false
set_option linter.unusedSimpArgs false
namespace Go.Proofs.YtlcgepmacgbciaaDoor.Q
open Go.RowKit Go.Proofs.YtlcgepmacgbciaaDoorW.PrintWords Go.Proofs.YtlcgepmacgbciaaDoorW.PrintLast Go.Proofs.YtlcgepmacgbciaaDoorW.PrintMore
attribute [local go_sem] max2_int min2_int max_two min_two max_three min_three max_four min_four
attribute [local go_sem ↓] isSome_setCell
attribute [local go_sem] string_gtr
set_option linter.unusedVariables false
set_option linter.unusedSimpArgs false
mutual
def path_Match.j0 : Nat → List ByteArray → List ByteArray → Bool → Option (Bool)
  | 0, _, _, _ => none
  | k + 1, x5, x7, x29 => if x29 = true then (some false) else (if 0 ≤ (wrap64 ((x7.length : Int) + 1)) then (if (wrap64 ((x7.length : Int) + 1) : Int).toNat ≤ 281474976710656 then ((some (List.replicate (wrap64 ((x7.length : Int) + 1) : Int).toNat false : List Bool)).bind fun y140 => (if 0 < (y140.length : Int) then (path_Match.l0 k x7 (y140.set (0 : Int).toNat true) x5 (x5.length : Int) 0) else (none))) else (none)) else (none))
def path_Match.l0 : Nat → List ByteArray → List Bool → List ByteArray → Int → Int → Option (Bool)
  | 0, _, _, _, _, _ => none
  | k + 1, x7, x9, x36, x37, x38 => if x38 < x37 then (if 0 ≤ x38 then (if x38 < (x36.length : Int) then (if 0 ≤ (wrap64 ((x7.length : Int) + 1)) then (if (wrap64 ((x7.length : Int) + 1) : Int).toNat ≤ 281474976710656 then (path_Match.l1 k x7 x9 (rdOf ByteArray.empty x36 x38) (List.replicate (wrap64 ((x7.length : Int) + 1) : Int).toNat false) x36 x37 x38 (x9.length : Int) 0) else (none)) else (none)) else (none)) else (none)) else (if 0 ≤ (x7.length : Int) then (if (x7.length : Int) < (x9.length : Int) then (some (rdOf false x9 (x7.length : Int))) else (none)) else (none))
def path_Match.l1 : Nat → List ByteArray → List Bool → ByteArray → List Bool → List ByteArray → Int → Int → Int → Int → Option (Bool)
  | 0, _, _, _, _, _, _, _, _, _ => none
  | k + 1, x7, x9, x11, x12, x36, x37, x38, x47, x48 => if x48 < x47 then (if x11.toList = ([42, 42] : List UInt8) then (if 0 ≤ x48 then (if x48 < (x9.length : Int) then (if rdOf false x9 x48 = true then (if x48 < (x12.length : Int) then (path_Match.l1 k x7 x9 x11 (x12.set (x48 : Int).toNat true) x36 x37 x38 x47 (wrap64 (x48 + 1))) else (none)) else (if x48 > 0 then (if 0 ≤ (wrap64 (x48 - 1)) then (if (wrap64 (x48 - 1)) < (x12.length : Int) then (if x48 < (x12.length : Int) then (path_Match.l1 k x7 x9 x11 (x12.set (x48 : Int).toNat (rdOf false x12 (wrap64 (x48 - 1)))) x36 x37 x38 x47 (wrap64 (x48 + 1))) else (none)) else (none)) else (none)) else (if x48 < (x12.length : Int) then (path_Match.l1 k x7 x9 x11 (x12.set (x48 : Int).toNat false) x36 x37 x38 x47 (wrap64 (x48 + 1))) else (none)))) else (none)) else (none)) else (if x48 > 0 then (if 0 ≤ (wrap64 (x48 - 1)) then (if (wrap64 (x48 - 1)) < (x9.length : Int) then (if rdOf false x9 (wrap64 (x48 - 1)) = true then (if (wrap64 (x48 - 1)) < (x7.length : Int) then ((path_fits.f k x11 (rdOf ByteArray.empty x7 (wrap64 (x48 - 1)))).bind fun t156 => (if 0 ≤ x48 then (if x48 < (x12.length : Int) then (path_Match.l1 k x7 x9 x11 (x12.set (x48 : Int).toNat t156) x36 x37 x38 x47 (wrap64 (x48 + 1))) else (none)) else (none))) else (none)) else (if 0 ≤ x48 then (if x48 < (x12.length : Int) then (path_Match.l1 k x7 x9 x11 (x12.set (x48 : Int).toNat false) x36 x37 x38 x47 (wrap64 (x48 + 1))) else (none)) else (none))) else (none)) else (none)) else (path_Match.l1 k x7 x9 x11 x12 x36 x37 x38 x47 (wrap64 (x48 + 1))))) else (path_Match.l0 k x7 x12 x36 x37 (wrap64 (x38 + 1)))
end
def path_Match.f (k : Nat) (a0 : ByteArray) (a1 : ByteArray) : Option (Bool) := (path_parse.f k a0 true).bind fun bt132 => ((path_Parse.f k a1).bind fun bt136 => (if bt132.2 = 0 then (path_Match.j0 k bt132.1 bt136.1 (bt136.2 != 0)) else (path_Match.j0 k bt132.1 bt136.1 true)))
theorem path_Match.mono_l : ∀ k, (∀ y0 y1 y2, LeO (path_Match.j0 k y0 y1 y2) (path_Match.j0 (k + 1) y0 y1 y2)) ∧ (∀ y0 y1 y2 y3 y4, LeO (path_Match.l0 k y0 y1 y2 y3 y4) (path_Match.l0 (k + 1) y0 y1 y2 y3 y4)) ∧ (∀ y0 y1 y2 y3 y4 y5 y6 y7 y8, LeO (path_Match.l1 k y0 y1 y2 y3 y4 y5 y6 y7 y8) (path_Match.l1 (k + 1) y0 y1 y2 y3 y4 y5 y6 y7 y8))
  | 0 => ⟨fun _ _ _ r h => by simp [path_Match.j0] at h, fun _ _ _ _ _ r h => by simp [path_Match.l0] at h, fun _ _ _ _ _ _ _ _ _ r h => by simp [path_Match.l1] at h⟩
  | k + 1 => by
    obtain ⟨ih0, ih1, ih2⟩ := path_Match.mono_l k
    refine ⟨?_, ?_, ?_⟩
    · intro y0 y1 y2
      unfold path_Match.j0
      repeat' first
      | (with_reducible exact ih0 _ _ _)
      | (with_reducible exact ih1 _ _ _ _ _)
      | (with_reducible exact ih2 _ _ _ _ _ _ _ _ _)
      | (with_reducible exact path_Parse.mono _ _)
      | (with_reducible exact path_fits.mono _ _ _)
      | (with_reducible exact path_parse.mono _ _ _)
      | (with_reducible exact LeO.refl _)
      | (with_reducible exact LeO.none _)
      | (with_reducible refine LeO.ite ?_ ?_)
      | (with_reducible refine LeO.bind ?_ (fun _ => ?_))
      | exact ih0 _ _ _
      | exact ih1 _ _ _ _ _
      | exact ih2 _ _ _ _ _ _ _ _ _
      | exact path_Parse.mono _ _
      | exact path_fits.mono _ _ _
      | exact path_parse.mono _ _ _
      | exact LeO.none _
      | refine LeO.ite ?_ ?_
      | refine LeO.bind ?_ (fun _ => ?_)
    · intro y0 y1 y2 y3 y4
      unfold path_Match.l0
      repeat' first
      | (with_reducible exact ih0 _ _ _)
      | (with_reducible exact ih1 _ _ _ _ _)
      | (with_reducible exact ih2 _ _ _ _ _ _ _ _ _)
      | (with_reducible exact path_Parse.mono _ _)
      | (with_reducible exact path_fits.mono _ _ _)
      | (with_reducible exact path_parse.mono _ _ _)
      | (with_reducible exact LeO.refl _)
      | (with_reducible exact LeO.none _)
      | (with_reducible refine LeO.ite ?_ ?_)
      | (with_reducible refine LeO.bind ?_ (fun _ => ?_))
      | exact ih0 _ _ _
      | exact ih1 _ _ _ _ _
      | exact ih2 _ _ _ _ _ _ _ _ _
      | exact path_Parse.mono _ _
      | exact path_fits.mono _ _ _
      | exact path_parse.mono _ _ _
      | exact LeO.none _
      | refine LeO.ite ?_ ?_
      | refine LeO.bind ?_ (fun _ => ?_)
    · intro y0 y1 y2 y3 y4 y5 y6 y7 y8
      unfold path_Match.l1
      repeat' first
      | (with_reducible exact ih0 _ _ _)
      | (with_reducible exact ih1 _ _ _ _ _)
      | (with_reducible exact ih2 _ _ _ _ _ _ _ _ _)
      | (with_reducible exact path_Parse.mono _ _)
      | (with_reducible exact path_fits.mono _ _ _)
      | (with_reducible exact path_parse.mono _ _ _)
      | (with_reducible exact LeO.refl _)
      | (with_reducible exact LeO.none _)
      | (with_reducible refine LeO.ite ?_ ?_)
      | (with_reducible refine LeO.bind ?_ (fun _ => ?_))
      | exact ih0 _ _ _
      | exact ih1 _ _ _ _ _
      | exact ih2 _ _ _ _ _ _ _ _ _
      | exact path_Parse.mono _ _
      | exact path_fits.mono _ _ _
      | exact path_parse.mono _ _ _
      | exact LeO.none _
      | refine LeO.ite ?_ ?_
      | refine LeO.bind ?_ (fun _ => ?_)
theorem path_Match.mono : ∀ a0 a1 k, LeO (path_Match.f k a0 a1) (path_Match.f (k + 1) a0 a1) := by
  intro a0 a1 k
  obtain ⟨ih0, ih1, ih2⟩ := path_Match.mono_l k
  unfold path_Match.f
  repeat' first
      | (with_reducible exact ih0 _ _ _)
      | (with_reducible exact ih1 _ _ _ _ _)
      | (with_reducible exact ih2 _ _ _ _ _ _ _ _ _)
      | (with_reducible exact path_Parse.mono _ _)
      | (with_reducible exact path_fits.mono _ _ _)
      | (with_reducible exact path_parse.mono _ _ _)
      | (with_reducible exact LeO.refl _)
      | (with_reducible exact LeO.none _)
      | (with_reducible refine LeO.ite ?_ ?_)
      | (with_reducible refine LeO.bind ?_ (fun _ => ?_))
      | exact ih0 _ _ _
      | exact ih1 _ _ _ _ _
      | exact ih2 _ _ _ _ _ _ _ _ _
      | exact path_Parse.mono _ _
      | exact path_fits.mono _ _ _
      | exact path_parse.mono _ _ _
      | exact LeO.none _
      | refine LeO.ite ?_ ?_
      | refine LeO.bind ?_ (fun _ => ?_)
set_option maxHeartbeats 8000000 in
set_option maxRecDepth 100000 in
theorem path_Match.calls (k : Nat) (a0 : ByteArray) (a1 : ByteArray) (r : Bool) (w : World) (hG : Go.Proofs.YtlcgepmacgbciaaDoorX.Glob w) (h : path_Match.f k a0 a1 = some r) :
    Calls Tryd.prog 24 #[.string a0, .string a1] w fun e w' => e = .returned (.bool r) ∧ Below w.heap.size w w' := by
  have HB := Aside0.mk (Below.refl w.heap.size w)
  have H : ((path_parse.f k a0 true).bind fun bt132 => ((path_Parse.f k a1).bind fun bt136 => (if bt132.2 = 0 then (path_Match.j0 k bt132.1 bt136.1 (bt136.2 != 0)) else (path_Match.j0 k bt132.1 bt136.1 true)))) = some r := h
  clear h
  replace H := Option.bind_eq_some_iff.mp H
  obtain ⟨⟨t132, t133⟩, A30, H⟩ := H
  replace H : ((path_Parse.f k a1).bind fun bt136 => (if t133 = 0 then (path_Match.j0 k t132 bt136.1 (bt136.2 != 0)) else (path_Match.j0 k t132 bt136.1 true))) = some r := H
  have A3 := Aside0.mk A30
  clear A30
  replace H := Option.bind_eq_some_iff.mp H
  obtain ⟨⟨t136, t137⟩, A40, H⟩ := H
  replace H : (if t133 = 0 then (path_Match.j0 k t132 t136 (t137 != 0)) else (path_Match.j0 k t132 t136 true)) = some r := H
  have A4 := Aside0.mk A40
  clear A40
  have HC5 := Aside0.mk H
  clear H
  go_enter Tryd.func24, Tryd.ntmps24
  go_upto_region 3 with (first | ((with_reducible refine gate_callee (f := 28) rfl ?_); refine goesL_ (some 16) rfl rfl Tryd.func28 (by kernel_rfl) rfl #[.string a0, .bool true] rfl (by (try simp only [List.map_toArray, List.map_cons, List.map_nil]); first | done | rfl | (simp only [List.length_drop, List.length_take]; rfl)) ?_; (with_reducible refine (path_parse.calls k a0 true t132 t133 _ ?side1 A3.out).mono ?_); (case side1 => exact Go.Proofs.YtlcgepmacgbciaaDoorX.Glob.below hG (by repeat (first | (with_reducible first | exact HB.out | apply below_alloc | apply pw_below_drewN | apply below_drew1) | exact HB.out))); rintro e w6 ⟨v134, rfl, ho0, hb⟩; refine ⟨_, rfl, ?_⟩; have n0_ := Aside0.mk (Kd.R_lower ho0 (below_size (by repeat (first | (with_reducible first | exact HB.out | apply below_alloc | apply pw_below_drewN | apply below_drew1) | exact HB.out)))); have n1_ := Aside0.mk (below_step (by repeat (first | (with_reducible first | exact HB.out | apply below_alloc | apply pw_below_drewN | apply below_drew1) | exact HB.out)) hb); clear HB; have HO135 := n0_; have HB := n1_; clear n0_ n1_; (try clear hb); (try clear hb2); (try clear hk); (try clear hi); (try clear ho0)) | ((with_reducible refine gate_callee (f := 13) rfl ?_); refine goesL_ (some 21) rfl rfl Tryd.func13 (by kernel_rfl) rfl #[.string a1] rfl (by (try simp only [List.map_toArray, List.map_cons, List.map_nil]); first | done | rfl | (simp only [List.length_drop, List.length_take]; rfl)) ?_; (with_reducible refine (path_Parse.calls k a1 t136 t137 _ ?side1 A4.out).mono ?_); (case side1 => exact Go.Proofs.YtlcgepmacgbciaaDoorX.Glob.below hG (by repeat (first | (with_reducible first | exact HB.out | apply below_alloc | apply pw_below_drewN | apply below_drew1) | exact HB.out))); rintro e w7 ⟨v138, rfl, ho0, hb⟩; refine ⟨_, rfl, ?_⟩; have n0_ := Aside0.mk (Kd.R_elder' (by (with_reducible repeat (first | apply Kd.R_alloc | apply Kd.R_drewN | apply Kd.R_drew)); exact HO135.out) (Kd.R_base ho0) hb); have n1_ := Aside0.mk (Kd.R_lower (Kd.R_new' ho0 (Kd.R_lt (by (with_reducible repeat (first | apply Kd.R_alloc | apply Kd.R_drewN | apply Kd.R_drew)); exact HO135.out))) (below_size (by repeat (first | (with_reducible first | exact HB.out | apply below_alloc | apply pw_below_drewN | apply below_drew1) | exact HB.out)))); have n2_ := Aside0.mk (below_step (by repeat (first | (with_reducible first | exact HB.out | apply below_alloc | apply pw_below_drewN | apply below_drew1) | exact HB.out)) hb); clear HO135; clear HB; have HO135 := n0_; have HO139 := n1_; have HB := n2_; clear n0_ n1_ n2_; (try clear hb); (try clear hb2); (try clear hk); (try clear hi); (try clear ho0)))
  (try simp only [Act.put, List.setIfInBounds_toArray, List.set_cons_zero, List.set_cons_succ])
  go_cut [29] (fun v29 wc => ∃ (kq : Nat) (x29_4 : Bool), v29 = .bool x29_4 ∧ Aside0 (path_Match.j0 kq t132 t136 x29_4 = some r) ∧ Aside0 (kq ≤ k) ∧ Aside0 (Kd.R Kd.string 9 wc w.heap.size (fun k_ => some k_ ≠ (v138 : Value).ownBlock) v134 t132) ∧ Aside0 (Kd.R Kd.string 9 wc w.heap.size (fun k_ => some k_ ≠ (v134 : Value).ownBlock) v138 t136) ∧ Aside0 (Below w.heap.size w wc))
  case first =>
    have H := HC5.out
    clear HC5
    by_cases c8 : t133 = 0
    · rw [if_pos c8] at H
      have c8b0 : (t133 == 0) = true := beq_iff_eq.mpr c8
      have c8b1 : (t133 != 0) = false := bne_eq_false_iff_eq.mpr c8
      clear c8
      (first | rw [c8b0] | (simp only [i64_w, i32_w]; rw [c8b0]) | rw [c8b2] | skip)
      have H' := Aside0.mk H
      clear H
      go_wp2
      go_meet
      case rel => exact ⟨_, ((t137 != 0)), (by first | rfl | (simp; done) | (simp [*]; done)), H', ⟨by first | omega | exact Nat.le_refl _⟩, ⟨by (with_reducible repeat (first | apply Kd.R_alloc | apply Kd.R_drewN | apply Kd.R_drew)); exact Kd.R_mono HO135.out (fun _ hk => hk.2)⟩, ⟨by (with_reducible repeat (first | apply Kd.R_alloc | apply Kd.R_drewN | apply Kd.R_drew)); exact Kd.R_mono HO139.out (fun _ hk => hk.2)⟩, ⟨by repeat (first | (with_reducible first | exact HB.out | apply below_alloc | apply pw_below_drewN | apply below_drew1) | exact HB.out)⟩⟩
    · rw [if_neg c8] at H
      have c8b0 : (t133 == 0) = false := beq_eq_false_iff_ne.mpr c8
      have c8b1 : (t133 != 0) = true := bne_iff_ne.mpr c8
      (first | rw [c8b0] | (simp only [i64_w, i32_w]; rw [c8b0]) | rw [c8b2] | skip)
      have H' := Aside0.mk H
      clear H
      go_wp2
      go_meet
      case rel => exact ⟨_, (true), (by first | rfl | (simp; done) | (simp [*]; done)), H', ⟨by first | omega | exact Nat.le_refl _⟩, ⟨by (with_reducible repeat (first | apply Kd.R_alloc | apply Kd.R_drewN | apply Kd.R_drew)); exact Kd.R_mono HO135.out (fun _ hk => hk.2)⟩, ⟨by (with_reducible repeat (first | apply Kd.R_alloc | apply Kd.R_drewN | apply Kd.R_drew)); exact Kd.R_mono HO139.out (fun _ hk => hk.2)⟩, ⟨by repeat (first | (with_reducible first | exact HB.out | apply below_alloc | apply pw_below_drewN | apply below_drew1) | exact HB.out)⟩⟩
  case rest =>
    clear HC5
    try clear c1
    try clear c2
    try clear p2
    try clear c8
    try clear c8b0
    try clear c8b1
    try clear c8b2
    obtain ⟨kq, x29_4, rfl, HA, HJ4, HO_5, HO_7, HB⟩ := hcut
    cases kq with
    | zero => exact absurd HA.out (by simp [path_Match.j0])
    | succ kj4 =>
      have H := HA.out
      clear HA
      simp only [path_Match.j0] at H
      by_cases c9 : x29_4 = true
      · subst c9
        have H1 : (some false) = some r := by rw [if_pos rfl] at H; exact H
        clear H
        have H := H1
        clear H1
        obtain rfl := Option.some.inj H
        go_wp2
        go_ret
        exact ⟨by first | rfl | (simp [errW_none, errW_some] <;> rfl) | (simp [*, errW_none, errW_some] <;> rfl), by repeat (first | (with_reducible first | exact HB.out | apply below_alloc | apply pw_below_drewN | apply below_drew1) | exact HB.out)⟩
      · replace c9 := Bool.eq_false_iff.mpr c9
        subst c9
        have H1 : (if 0 ≤ (wrap64 ((t136.length : Int) + 1)) then (if (wrap64 ((t136.length : Int) + 1) : Int).toNat ≤ 281474976710656 then ((some (List.replicate (wrap64 ((t136.length : Int) + 1) : Int).toNat false : List Bool)).bind fun y140 => (if 0 < (y140.length : Int) then (path_Match.l0 kj4 t136 (y140.set (0 : Int).toNat true) t132 (t132.length : Int) 0) else (none))) else (none)) else (none)) = some r := by rw [if_neg (show ¬ (false = true) by decide)] at H; exact H
        clear H
        have H := H1
        clear H1
        obtain ⟨ji10, hji10⟩ : ∃ j_ : Int, (wrap64 ((t136.length : Int) + 1)) = j_ := ⟨_, rfl⟩
        replace H : (if 0 ≤ (ji10) then (if (ji10 : Int).toNat ≤ 281474976710656 then ((some (List.replicate (ji10 : Int).toNat false : List Bool)).bind fun y140 => (if 0 < (y140.length : Int) then (path_Match.l0 kj4 t136 (y140.set (0 : Int).toNat true) t132 (t132.length : Int) 0) else (none))) else (none)) else (none)) = some r := by first | (rw [hji10] at H; exact H) | (simp only [hji10] at H ⊢; exact H)
        have hji10w : (IntKind.i64.wrap ((t136.length : Int) + 1)) = ji10 := (i64_w _).trans hji10
        by_cases c11 : 0 ≤ (ji10)
        · rw [if_pos c11] at H
          have c11b0 := eq_true c11
          have c11b1 : decide (0 ≤ (ji10)) = true := decide_eq_true c11
          clear c11
          by_cases c12 : (ji10 : Int).toNat ≤ 281474976710656
          · rw [if_pos c12] at H
            have c12b0 := eq_true c12
            have c12b1 : decide ((ji10 : Int).toNat ≤ 281474976710656) = true := decide_eq_true c12
            clear c12
            obtain ⟨y140, hy140⟩ : ∃ y_ : List Bool, y_ = (List.replicate (ji10 : Int).toNat false) := ⟨_, rfl⟩
            replace H : (if 0 < (y140.length : Int) then (path_Match.l0 kj4 t136 (y140.set (0 : Int).toNat true) t132 (t132.length : Int) 0) else (none)) = some r := by first | (rw [hy140]; with_reducible exact H) | (have H2_ := (Option.bind_some _ _).symm.trans H; rw [hy140]; with_reducible exact H2_) | (have H2_ := (Option.bind_some _ _).symm.trans H; with_reducible exact H2_) | with_reducible exact H | (rw [hy140]; exact H) | exact H
            have Ny140 := Aside0.mk hy140
            clear hy140
            by_cases c13 : 0 < (y140.length : Int)
            · rw [if_pos c13] at H
              have c13b0 : decide (0 < (y140.length : Int)) = true := decide_eq_true c13
              have c13b1 : decide (0 < y140.length) = true := decide_eq_true (by omega)
              clear c13
              obtain ⟨y143, hy143⟩ : ∃ y_ : List Bool, y_ = (y140.set (0 : Int).toNat true) := ⟨_, rfl⟩
              replace H : (path_Match.l0 kj4 t136 y143 t132 (t132.length : Int) 0) = some r := by first | (rw [hy143]; with_reducible exact H) | (have H2_ := (Option.bind_some _ _).symm.trans H; rw [hy143]; with_reducible exact H2_) | (have H2_ := (Option.bind_some _ _).symm.trans H; with_reducible exact H2_) | with_reducible exact H | (rw [hy143]; exact H) | exact H
              have Ny143 := Aside0.mk hy143
              clear hy143
              have H' := Aside0.mk H
              clear H
              obtain ⟨Ao15, co15, eo15⟩ := Kd.R_slice HO_7.out
              subst eo15
              go_wp2_with (first | ((with_reducible refine gate_dst (N := 33) rfl ?_); refine Kd.R_make Kd.bool _ 4 rfl (N := 33) rfl 43 _ _ rfl ji10 rfl rfl Tryd.underlying43 (.bool false) 1 info4 rfl (by decide) (by omega) false (ok := fun _ => True) (okp := fun _ => True) rfl (fun _ hk => hk) trivial (of_decide_eq_true (by first | (with_reducible assumption) | assumption)) (Nat.le_trans (Nat.mul_le_mul_right _ (of_decide_eq_true (by first | (with_reducible assumption) | assumption) : ji10.toNat ≤ 281474976710656)) (by omega)) (Below.refl _ _) (Nat.le_refl _) ?_; intro v141 w16 ho17 hb hg_ hnew_; clear hg_ hnew_; (first | rw [← Ny140.out] at ho17 | (simp only [Int.reduceToNat] at ho17; rw [← Ny140.out] at ho17)); have n0_ := Aside0.mk (Kd.R_below (by (with_reducible repeat (first | apply Kd.R_alloc | apply Kd.R_drewN | apply Kd.R_drew)); exact HO_5.out) hb); have n1_ := Aside0.mk (Kd.R_below (by (with_reducible repeat (first | apply Kd.R_alloc | apply Kd.R_drewN | apply Kd.R_drew)); exact HO_7.out) hb); have n2_ := Aside0.mk (Kd.R_lower ho17 (below_size (by repeat (first | (with_reducible first | exact HB.out | apply below_alloc | apply pw_below_drewN | apply below_drew1) | exact HB.out)))); have n3_ := Aside0.mk (below_step (by repeat (first | (with_reducible first | exact HB.out | apply below_alloc | apply pw_below_drewN | apply below_drew1) | exact HB.out)) hb); clear HO_5; clear HO_7; clear HB; have HO_5 := n0_; have HO_7 := n1_; have HO142 := n2_; have HB := n3_; clear n0_ n1_ n2_ n3_; clear hb ho17; have p14 : 0 ≤ (0 : Int) := (by omega); have q14 : (0 : Int) < ((y140.length : Int) : Int) := of_decide_eq_true (by first | (with_reducible assumption) | assumption); have qi14 : (0 < y140.length) = True := eq_true (by omega); obtain ⟨go14, co14, eo14, gb14, gl14, cl14, HG14⟩ := Kd.R_form HO142.out (by omega); (first | cases eo14 | (injection eo14 with ea_ en_ ec_; (first | subst ea_ | (injection ea_ with ea_; subst ea_)); subst ec_; clear en_)); have GB14 := Aside0.mk gb14; have GG14 := Aside0.mk HG14; clear gb14 gl14 HG14; obtain ⟨hx14_0, hf14_0⟩ := Kd.R_celln false HO142.out (0 : Int) p14 q14; (try rw [show ((0 : Int)).toNat = 0 from rfl] at hx14_0); (try simp only [Nat.reduceMul, Nat.zero_mul, Nat.zero_add, Nat.reduceAdd] at hx14_0); (try rw [show ((0 : Int)).toNat = 0 from rfl] at hf14_0); (try simp only [Nat.reduceMul, Nat.zero_mul, Nat.zero_add, Nat.reduceAdd] at hf14_0); replace p14 := eq_true p14; replace q14 := eq_true q14; obtain ⟨hy18_, hz18_⟩ := Kd.R_celln false HO142.out (0 : Int) (by omega) (of_decide_eq_true (by first | (with_reducible assumption) | assumption)); (try simp only [Int.reduceToNat, Int.toNat_zero, Int.toNat_ofNat, Nat.reduceMul, Nat.zero_mul, Nat.zero_add] at hy18_ hz18_); (try rw [show ((0 : Int)).toNat = 0 from rfl] at hy18_); (try rw [show ((0 : Int)).toNat = 0 from rfl] at hz18_); have HP18 := Kd.R_putg HO142.out (0 : Int) true) | ((with_reducible refine gate_store (t := 4) (p := 35) rfl ?_); refine store_event (t := 4) (p := 35) (v := ?vo_w19) (w1 := (w16.setCell ⟨go14, (0 : Int).toNat, none⟩ (.bool true))) ?hg ?ho ?hn ?hr ?_; (case ho => rfl); (case hg => rfl); (case hn => rfl); (case hr => first | (go_simp; done) | (go_simp; rfl)); intro w19 hw; have hg : w16.grownBy w19 (some go14) := (by rw [hw]; exact HP18.2); have hp_ : Kd.R Kd.bool 4 w19 w.heap.size (fun _ => True) (.slice (some ⟨go14, 0, none⟩) y140.length co14) y143 := (by rw [hw, Ny143.out]; exact HP18.1); clear HP18; have n0_ := Aside0.mk (Kd.R_over' (v := (.slice (some ⟨go14, 0, none⟩) y140.length co14)) (by (with_reducible repeat (first | apply Kd.R_alloc | apply Kd.R_drewN | apply Kd.R_drew)); exact HO_5.out) (Kd.R_typed HO142.out) (by decide) hg); have n1_ := Aside0.mk (Kd.R_over' (v := (.slice (some ⟨go14, 0, none⟩) y140.length co14)) (by (with_reducible repeat (first | apply Kd.R_alloc | apply Kd.R_drewN | apply Kd.R_drew)); exact HO_7.out) (Kd.R_typed HO142.out) (by decide) hg); have n2_ := Aside0.mk (hp_); have n3_ := Aside0.mk ((by rw [hw]; exact below_set (HB.out) GB14.out : Below w.heap.size w w19)); clear HO_5; clear HO_7; clear HO142; clear HB; have HO_5 := n0_; have HO_7 := n1_; have HO142 := n2_; have HB := n3_; clear n0_ n1_ n2_ n3_; clear hg hw hp_; obtain ⟨Ao20, co20, eo20⟩ := Kd.R_slice HO_5.out; subst eo20))
              go_loopg [9, 38] kj4 (fun kq v9 v38 w' => ∃ (x9_2 : List Bool) (x38_2 : Int), v38 = .int .i64 x38_2 ∧ Aside0 (path_Match.l0 kq t136 x9_2 t132 (t132.length : Int) x38_2 = some r) ∧ Aside0 (kq ≤ kj4) ∧ Aside0 (Kd.R Kd.string 9 w' w.heap.size (fun k_ => some k_ ≠ ((.slice Ao20 t132.length co20) : Value).ownBlock) (.slice Ao15 t136.length co15) t136) ∧ Aside0 (Kd.R Kd.bool 4 w' w.heap.size (fun _ => True) v9 x9_2) ∧ Aside0 (Kd.R Kd.string 9 w' w.heap.size (fun k_ => some k_ ≠ ((.slice Ao15 t136.length co15) : Value).ownBlock) (.slice Ao20 t132.length co20) t132) ∧ Aside0 (Below w.heap.size w w'))
              case atStart => exact ⟨(y143), (0), (by first | rfl | (simp; done) | (simp [*]; done)), H', ⟨Nat.le_refl _⟩, ⟨by (with_reducible repeat (first | apply Kd.R_alloc | apply Kd.R_drewN | apply Kd.R_drew)); exact HO_7.out⟩, ⟨by (with_reducible repeat (first | apply Kd.R_alloc | apply Kd.R_drewN | apply Kd.R_drew)); exact HO142.out⟩, ⟨by (with_reducible repeat (first | apply Kd.R_alloc | apply Kd.R_drewN | apply Kd.R_drew)); exact HO_5.out⟩, ⟨by repeat (first | (with_reducible first | exact HB.out | apply below_alloc | apply pw_below_drewN | apply below_drew1) | exact HB.out)⟩⟩
              case round =>
                clear H'
                try clear c1
                try clear p1
                try clear q1
                try clear hx1
                try clear qi1
                try clear c2
                try clear p2
                try clear p6
                try clear c8
                try clear c8b0
                try clear c8b1
                try clear c8b2
                try clear c9
                try clear c11
                try clear c11b0
                try clear c11b1
                try clear c12
                try clear c12b0
                try clear c12b1
                try clear c13
                try clear c13b0
                try clear c13b1
                try clear p14
                try clear q14
                try clear hx14
                try clear qi14
                try clear hf14
                try clear hx14_0
                try clear p14
                try clear p2
                try clear q14
                obtain ⟨x9_2, x38_2, rfl, HA, HK2, HO_7, HO_9, HO_36, HB⟩ := hrel
                cases gk with
                | zero => exact absurd HA.out (by simp [path_Match.l0])
                | succ k2 =>
                  have H := HA.out
                  clear HA
                  simp only [path_Match.l0] at H
                  by_cases c21 : x38_2 < (t132.length : Int)
                  · rw [if_pos c21] at H
                    have c21b0 : decide (x38_2 < (t132.length : Int)) = true := decide_eq_true c21
                    clear c21
                    by_cases c22 : 0 ≤ x38_2
                    · rw [if_pos c22] at H
                      have c22b0 : decide (0 ≤ x38_2) = true := decide_eq_true c22
                      clear c22
                      by_cases c23 : x38_2 < (t132.length : Int)
                      · rw [if_pos c23] at H
                        have c23b0 : decide (x38_2 < (t132.length : Int)) = true := decide_eq_true c23
                        clear c23
                        obtain ⟨ji24, hji24⟩ : ∃ j_ : Int, (wrap64 ((t136.length : Int) + 1)) = j_ := ⟨_, rfl⟩
                        replace H : (if 0 ≤ (ji24) then (if (ji24 : Int).toNat ≤ 281474976710656 then (path_Match.l1 k2 t136 x9_2 (rdOf ByteArray.empty t132 x38_2) (List.replicate (ji24 : Int).toNat false) t132 (t132.length : Int) x38_2 (x9_2.length : Int) 0) else (none)) else (none)) = some r := by first | (rw [hji24] at H; exact H) | (simp only [hji24] at H ⊢; exact H)
                        try clear hji10w
                        have hji24w : (IntKind.i64.wrap ((t136.length : Int) + 1)) = ji24 := (i64_w _).trans hji24
                        by_cases c25 : 0 ≤ (ji24)
                        · rw [if_pos c25] at H
                          have c25b0 := eq_true c25
                          have c25b1 : decide (0 ≤ (ji24)) = true := decide_eq_true c25
                          clear c25
                          by_cases c26 : (ji24 : Int).toNat ≤ 281474976710656
                          · rw [if_pos c26] at H
                            have c26b0 := eq_true c26
                            have c26b1 : decide ((ji24 : Int).toNat ≤ 281474976710656) = true := decide_eq_true c26
                            clear c26
                            obtain ⟨y146, hy146⟩ : ∃ y_ : List Bool, y_ = (List.replicate (ji24 : Int).toNat false) := ⟨_, rfl⟩
                            replace H : (path_Match.l1 k2 t136 x9_2 (rdOf ByteArray.empty t132 x38_2) y146 t132 (t132.length : Int) x38_2 (x9_2.length : Int) 0) = some r := by first | (rw [hy146]; with_reducible exact H) | (have H2_ := (Option.bind_some _ _).symm.trans H; rw [hy146]; with_reducible exact H2_) | (have H2_ := (Option.bind_some _ _).symm.trans H; with_reducible exact H2_) | with_reducible exact H | (rw [hy146]; exact H) | exact H
                            have Ny146 := Aside0.mk hy146
                            clear hy146
                            have H' := Aside0.mk H
                            clear H
                            have p145 : 0 ≤ (x38_2 : Int) := of_decide_eq_true (by first | (with_reducible assumption) | assumption)
                            have q145 : x38_2 < (t132.length : Int) := of_decide_eq_true (by first | (with_reducible assumption) | assumption)
                            obtain ⟨ad145, e145, hx145_0⟩ := Kd.at_string (Kd.R_reads' HO_36.out).2.2 x38_2 p145 q145
                            cases e145
                            replace p145 := eq_true p145
                            replace q145 := eq_true q145
                            go_wp2_with (first | ((with_reducible refine gate_dst (N := 45) rfl ?_); refine Kd.R_make Kd.bool _ 4 rfl (N := 45) rfl 43 _ _ rfl ji24 rfl rfl Tryd.underlying43 (.bool false) 1 info4 rfl (by decide) (by omega) false (ok := fun _ => True) (okp := fun _ => True) rfl (fun _ hk => hk) trivial (of_decide_eq_true (by first | (with_reducible assumption) | assumption)) (Nat.le_trans (Nat.mul_le_mul_right _ (of_decide_eq_true (by first | (with_reducible assumption) | assumption) : ji24.toNat ≤ 281474976710656)) (by omega)) (Below.refl _ _) (Nat.le_refl _) ?_; intro v147 w27 ho28 hb hg_ hnew_; clear hg_ hnew_; (first | rw [← Ny146.out] at ho28 | (simp only [Int.reduceToNat] at ho28; rw [← Ny146.out] at ho28)); have n0_ := Aside0.mk (Kd.R_below (by (with_reducible repeat (first | apply Kd.R_alloc | apply Kd.R_drewN | apply Kd.R_drew)); exact HO_7.out) hb); have n1_ := Aside0.mk (Kd.R_elder' (by (with_reducible repeat (first | apply Kd.R_alloc | apply Kd.R_drewN | apply Kd.R_drew)); exact HO_9.out) (Kd.R_base ho28) hb); have n2_ := Aside0.mk (Kd.R_below (by (with_reducible repeat (first | apply Kd.R_alloc | apply Kd.R_drewN | apply Kd.R_drew)); exact HO_36.out) hb); have n3_ := Aside0.mk (Kd.R_lower (Kd.R_new' ho28 (Kd.R_lt (by (with_reducible repeat (first | apply Kd.R_alloc | apply Kd.R_drewN | apply Kd.R_drew)); exact HO_9.out))) (below_size (by repeat (first | (with_reducible first | exact HB.out | apply below_alloc | apply pw_below_drewN | apply below_drew1) | exact HB.out)))); have n4_ := Aside0.mk (below_step (by repeat (first | (with_reducible first | exact HB.out | apply below_alloc | apply pw_below_drewN | apply below_drew1) | exact HB.out)) hb); clear HO_7; clear HO_9; clear HO_36; clear HB; have HO_7 := n0_; have HO_9 := n1_; have HO_36 := n2_; have HO148 := n3_; have HB := n4_; clear n0_ n1_ n2_ n3_ n4_; clear hb ho28; obtain ⟨Ao29, co29, eo29⟩ := Kd.R_slice HO_9.out; subst eo29))
                            go_loopg [48] k2 (fun kq v48 w' => ∃ (x12_3 : List Bool) (x48_3 : Int), v48 = .int .i64 x48_3 ∧ Aside0 (path_Match.l1 kq t136 x9_2 (rdOf ByteArray.empty t132 x38_2) x12_3 t132 (t132.length : Int) x38_2 (x9_2.length : Int) x48_3 = some r) ∧ Aside0 (kq ≤ k2) ∧ Aside0 (Kd.R Kd.string 9 w' w.heap.size (fun k_ => some k_ ≠ ((.slice (some ad145) t132.length co20) : Value).ownBlock) (.slice Ao15 t136.length co15) t136) ∧ Aside0 (Kd.R Kd.bool 4 w' w.heap.size (fun k_ => some k_ ≠ (v147 : Value).ownBlock) (.slice Ao29 x9_2.length co29) x9_2) ∧ Aside0 (Kd.R Kd.bool 4 w' w.heap.size (fun k_ => some k_ ≠ ((.slice Ao29 x9_2.length co29) : Value).ownBlock) v147 x12_3) ∧ Aside0 (Kd.R Kd.string 9 w' w.heap.size (fun k_ => some k_ ≠ ((.slice Ao15 t136.length co15) : Value).ownBlock) (.slice (some ad145) t132.length co20) t132) ∧ Aside0 (Below w.heap.size w w'))
                            case atStart => exact ⟨(y146), (0), (by first | rfl | (simp; done) | (simp [*]; done)), H', ⟨Nat.le_refl _⟩, ⟨by (with_reducible repeat (first | apply Kd.R_alloc | apply Kd.R_drewN | apply Kd.R_drew)); exact HO_7.out⟩, ⟨by (with_reducible repeat (first | apply Kd.R_alloc | apply Kd.R_drewN | apply Kd.R_drew)); exact Kd.R_mono HO_9.out (fun _ hk => hk.2)⟩, ⟨by (with_reducible repeat (first | apply Kd.R_alloc | apply Kd.R_drewN | apply Kd.R_drew)); exact Kd.R_mono HO148.out (fun _ hk => hk.2)⟩, ⟨by (with_reducible repeat (first | apply Kd.R_alloc | apply Kd.R_drewN | apply Kd.R_drew)); exact HO_36.out⟩, ⟨by repeat (first | (with_reducible first | exact HB.out | apply below_alloc | apply pw_below_drewN | apply below_drew1) | exact HB.out)⟩⟩
                            case round =>
                              clear H'
                              try clear c1
                              try clear p1
                              try clear q1
                              try clear hx1
                              try clear qi1
                              try clear c2
                              try clear p2
                              try clear p6
                              try clear c8
                              try clear c8b0
                              try clear c8b1
                              try clear c8b2
                              try clear c9
                              try clear c11
                              try clear c11b0
                              try clear c11b1
                              try clear c12
                              try clear c12b0
                              try clear c12b1
                              try clear c13
                              try clear c13b0
                              try clear c13b1
                              try clear p14
                              try clear q14
                              try clear hx14
                              try clear qi14
                              try clear hf14
                              try clear c21
                              try clear c21b0
                              try clear c22
                              try clear c22b0
                              try clear c23
                              try clear c23b0
                              try clear c24
                              try clear c25
                              try clear c25b0
                              try clear c25b1
                              try clear c26
                              try clear c26b0
                              try clear c26b1
                              try clear c28
                              try clear hx145_0
                              try clear hx14_0
                              try clear p1
                              try clear p14
                              try clear p145
                              try clear p2
                              try clear p6
                              try clear q1
                              try clear q14
                              try clear q145
                              obtain ⟨x12_3, x48_3, rfl, HA, HK3, HO_7, HO_9, HO_12, HO_36, HB⟩ := hrel
                              cases gk with
                              | zero => exact absurd HA.out (by simp [path_Match.l1])
                              | succ k3 =>
                                have H := HA.out
                                clear HA
                                simp only [path_Match.l1] at H
                                by_cases c30 : x48_3 < (x9_2.length : Int)
                                · rw [if_pos c30] at H
                                  have c30b0 : decide (x48_3 < (x9_2.length : Int)) = true := decide_eq_true c30
                                  clear c30
                                  by_cases c31 : (rdOf ByteArray.empty t132 x38_2).toList = ([42, 42] : List UInt8)
                                  · rw [if_pos c31] at H
                                    have c31b0 : ((rdOf ByteArray.empty t132 x38_2).toList == ([42, 42] : List UInt8)) = true := beq_iff_eq.mpr c31
                                    have c31b1 : ((rdOf ByteArray.empty t132 x38_2).toList != ([42, 42] : List UInt8)) = false := bne_eq_false_iff_eq.mpr c31
                                    clear c31
                                    by_cases c32 : 0 ≤ x48_3
                                    · rw [if_pos c32] at H
                                      have c32b0 : decide (0 ≤ x48_3) = true := decide_eq_true c32
                                      clear c32
                                      by_cases c33 : x48_3 < (x9_2.length : Int)
                                      · rw [if_pos c33] at H
                                        have c33b0 : decide (x48_3 < (x9_2.length : Int)) = true := decide_eq_true c33
                                        clear c33
                                        obtain ⟨bq34, hbq34⟩ : ∃ b_ : Bool, b_ = (rdOf false x9_2 x48_3) := ⟨_, rfl⟩
                                        replace H : (if bq34 = true then (if x48_3 < (x12_3.length : Int) then (path_Match.l1 k3 t136 x9_2 (rdOf ByteArray.empty t132 x38_2) (x12_3.set (x48_3 : Int).toNat true) t132 (t132.length : Int) x38_2 (x9_2.length : Int) (wrap64 (x48_3 + 1))) else (none)) else (if x48_3 > 0 then (if 0 ≤ (wrap64 (x48_3 - 1)) then (if (wrap64 (x48_3 - 1)) < (x12_3.length : Int) then (if x48_3 < (x12_3.length : Int) then (path_Match.l1 k3 t136 x9_2 (rdOf ByteArray.empty t132 x38_2) (x12_3.set (x48_3 : Int).toNat (rdOf false x12_3 (wrap64 (x48_3 - 1)))) t132 (t132.length : Int) x38_2 (x9_2.length : Int) (wrap64 (x48_3 + 1))) else (none)) else (none)) else (none)) else (if x48_3 < (x12_3.length : Int) then (path_Match.l1 k3 t136 x9_2 (rdOf ByteArray.empty t132 x38_2) (x12_3.set (x48_3 : Int).toNat false) t132 (t132.length : Int) x38_2 (x9_2.length : Int) (wrap64 (x48_3 + 1))) else (none)))) = some r := by rw [← hbq34] at H; exact H
                                        have Nbq34 := Aside0.mk hbq34
                                        clear hbq34
                                        by_cases c35 : bq34 = true
                                        · subst c35
                                          have H1 : (if x48_3 < (x12_3.length : Int) then (path_Match.l1 k3 t136 x9_2 (rdOf ByteArray.empty t132 x38_2) (x12_3.set (x48_3 : Int).toNat true) t132 (t132.length : Int) x38_2 (x9_2.length : Int) (wrap64 (x48_3 + 1))) else (none)) = some r := by rw [if_pos rfl] at H; exact H
                                          clear H
                                          have H := H1
                                          clear H1
                                          by_cases c36 : x48_3 < (x12_3.length : Int)
                                          · rw [if_pos c36] at H
                                            have c36b0 : decide (x48_3 < (x12_3.length : Int)) = true := decide_eq_true c36
                                            clear c36
                                            obtain ⟨y150, hy150⟩ : ∃ y_ : List Bool, y_ = (x12_3.set (x48_3 : Int).toNat true) := ⟨_, rfl⟩
                                            replace H : (path_Match.l1 k3 t136 x9_2 (rdOf ByteArray.empty t132 x38_2) y150 t132 (t132.length : Int) x38_2 (x9_2.length : Int) (wrap64 (x48_3 + 1))) = some r := by first | (rw [hy150]; with_reducible exact H) | (have H2_ := (Option.bind_some _ _).symm.trans H; rw [hy150]; with_reducible exact H2_) | (have H2_ := (Option.bind_some _ _).symm.trans H; with_reducible exact H2_) | with_reducible exact H | (rw [hy150]; exact H) | exact H
                                            have Ny150 := Aside0.mk hy150
                                            clear hy150
                                            have H' := Aside0.mk H
                                            clear H
                                            have p149 : 0 ≤ (x48_3 : Int) := of_decide_eq_true (by first | (with_reducible assumption) | assumption)
                                            have q149 : x48_3 < (x9_2.length : Int) := of_decide_eq_true (by first | (with_reducible assumption) | assumption)
                                            obtain ⟨ad149, e149, hx149_0⟩ := Kd.at_bool (Kd.R_reads' HO_9.out).2.2 x48_3 p149 q149
                                            (try rw [← Nbq34.out] at hx149_0)
                                            cases e149
                                            replace p149 := eq_true p149
                                            replace q149 := eq_true q149
                                            have p37 : 0 ≤ (x48_3 : Int) := of_decide_eq_true (by first | (with_reducible assumption) | assumption)
                                            have q37 : (x48_3 : Int) < ((x12_3.length : Int) : Int) := of_decide_eq_true (by first | (with_reducible assumption) | assumption)
                                            obtain ⟨go37, co37, eo37, gb37, gl37, cl37, HG37⟩ := Kd.R_form HO_12.out (by omega)
                                            (first | cases eo37 | (injection eo37 with ea_ en_ ec_; (first | subst ea_ | (injection ea_ with ea_; subst ea_)); subst ec_; clear en_))
                                            have GB37 := Aside0.mk gb37
                                            have GG37 := Aside0.mk HG37
                                            clear gb37 gl37 HG37
                                            obtain ⟨hx37_0, hf37_0⟩ := Kd.R_celln false HO_12.out (x48_3 : Int) p37 q37
                                            replace p37 := eq_true p37
                                            replace q37 := eq_true q37
                                            have HP38 := Kd.R_putg HO_12.out (x48_3 : Int) true
                                            go_wp2_with (first | ((with_reducible refine gate_store (t := 4) (p := 71) rfl ?_); refine store_event (t := 4) (p := 71) (v := ?vo_w39) (w1 := (wr.setCell ⟨go37, (x48_3 : Int).toNat, none⟩ (.bool true))) ?hg ?ho ?hn ?hr ?_; (case ho => rfl); (case hg => rfl); (case hn => rfl); (case hr => first | (go_simp; done) | (go_simp; rfl)); intro w39 hw; have hg : wr.grownBy w39 (some go37) := (by rw [hw]; exact HP38.2); have hp_ : Kd.R Kd.bool 4 w39 w.heap.size (fun k_ => some k_ ≠ (.slice (some ad149) x9_2.length co29 : Value).ownBlock) (.slice (some ⟨go37, 0, none⟩) x12_3.length co37) y150 := (by rw [hw, Ny150.out]; exact HP38.1); clear HP38; have n0_ := Aside0.mk (Kd.R_over' (v := (.slice (some ⟨go37, 0, none⟩) x12_3.length co37)) (by (with_reducible repeat (first | apply Kd.R_alloc | apply Kd.R_drewN | apply Kd.R_drew)); exact HO_7.out) (Kd.R_typed HO_12.out) (by decide) hg); have n1_ := Aside0.mk (Kd.R_after (v := (.slice (some ⟨go37, 0, none⟩) x12_3.length co37)) (v1 := (.slice (some ⟨go37, 0, none⟩) x12_3.length co37)) (ok := (fun _ => True)) (by (with_reducible repeat (first | apply Kd.R_alloc | apply Kd.R_drewN | apply Kd.R_drew)); exact Kd.R_mono HO_9.out (fun _ hk => ⟨trivial, hk⟩)) hg (.inl rfl)); have n2_ := Aside0.mk (hp_); have n3_ := Aside0.mk (Kd.R_over' (v := (.slice (some ⟨go37, 0, none⟩) x12_3.length co37)) (by (with_reducible repeat (first | apply Kd.R_alloc | apply Kd.R_drewN | apply Kd.R_drew)); exact HO_36.out) (Kd.R_typed HO_12.out) (by decide) hg); have n4_ := Aside0.mk ((by rw [hw]; exact below_set (HB.out) GB37.out : Below w.heap.size w w39)); clear HO_7; clear HO_9; clear HO_12; clear HO_36; clear HB; have HO_7 := n0_; have HO_9 := n1_; have HO_12 := n2_; have HO_36 := n3_; have HB := n4_; clear n0_ n1_ n2_ n3_ n4_; clear hg hw hp_))
                                            go_roundg k3
                                            case measure => have := HJ4.out; have := HK2.out; have := HK3.out; omega
                                            case rel => exact ⟨(y150), (wrap64 (x48_3 + 1)), (by first | rfl | (simp; done) | (simp [*]; done)), H', ⟨by have := HJ4.out; have := HK2.out; have := HK3.out; omega⟩, ⟨by (with_reducible repeat (first | apply Kd.R_alloc | apply Kd.R_drewN | apply Kd.R_drew)); exact HO_7.out⟩, ⟨by (with_reducible repeat (first | apply Kd.R_alloc | apply Kd.R_drewN | apply Kd.R_drew)); exact Kd.R_mono HO_9.out (fun _ hk => hk.2)⟩, ⟨by (with_reducible repeat (first | apply Kd.R_alloc | apply Kd.R_drewN | apply Kd.R_drew)); exact HO_12.out⟩, ⟨by (with_reducible repeat (first | apply Kd.R_alloc | apply Kd.R_drewN | apply Kd.R_drew)); exact HO_36.out⟩, ⟨by repeat (first | (with_reducible first | exact HB.out | apply below_alloc | apply pw_below_drewN | apply below_drew1) | exact HB.out)⟩⟩
                                          · rw [if_neg c36] at H
                                            exact absurd H (by simp)
                                        · replace c35 := Bool.eq_false_iff.mpr c35
                                          subst c35
                                          have H1 : (if x48_3 > 0 then (if 0 ≤ (wrap64 (x48_3 - 1)) then (if (wrap64 (x48_3 - 1)) < (x12_3.length : Int) then (if x48_3 < (x12_3.length : Int) then (path_Match.l1 k3 t136 x9_2 (rdOf ByteArray.empty t132 x38_2) (x12_3.set (x48_3 : Int).toNat (rdOf false x12_3 (wrap64 (x48_3 - 1)))) t132 (t132.length : Int) x38_2 (x9_2.length : Int) (wrap64 (x48_3 + 1))) else (none)) else (none)) else (none)) else (if x48_3 < (x12_3.length : Int) then (path_Match.l1 k3 t136 x9_2 (rdOf ByteArray.empty t132 x38_2) (x12_3.set (x48_3 : Int).toNat false) t132 (t132.length : Int) x38_2 (x9_2.length : Int) (wrap64 (x48_3 + 1))) else (none))) = some r := by rw [if_neg (show ¬ (false = true) by decide)] at H; exact H
                                          clear H
                                          have H := H1
                                          clear H1
                                          by_cases c40 : x48_3 > 0
                                          · rw [if_pos c40] at H
                                            have c40b0 : decide (0 < x48_3) = true := decide_eq_true c40
                                            clear c40
                                            obtain ⟨ji41, hji41⟩ : ∃ j_ : Int, (wrap64 (x48_3 - 1)) = j_ := ⟨_, rfl⟩
                                            replace H : (if 0 ≤ (ji41) then (if (ji41) < (x12_3.length : Int) then (if x48_3 < (x12_3.length : Int) then (path_Match.l1 k3 t136 x9_2 (rdOf ByteArray.empty t132 x38_2) (x12_3.set (x48_3 : Int).toNat (rdOf false x12_3 (ji41))) t132 (t132.length : Int) x38_2 (x9_2.length : Int) (wrap64 (x48_3 + 1))) else (none)) else (none)) else (none)) = some r := by first | (rw [hji41] at H; exact H) | (simp only [hji41] at H ⊢; exact H)
                                            have hji41w : (IntKind.i64.wrap (x48_3 - 1)) = ji41 := (i64_w _).trans hji41
                                            by_cases c42 : 0 ≤ (ji41)
                                            · rw [if_pos c42] at H
                                              have c42b0 : decide (0 ≤ (ji41)) = true := decide_eq_true c42
                                              clear c42
                                              by_cases c43 : (ji41) < (x12_3.length : Int)
                                              · rw [if_pos c43] at H
                                                have c43b0 : decide ((ji41) < (x12_3.length : Int)) = true := decide_eq_true c43
                                                clear c43
                                                by_cases c44 : x48_3 < (x12_3.length : Int)
                                                · rw [if_pos c44] at H
                                                  have c44b0 : decide (x48_3 < (x12_3.length : Int)) = true := decide_eq_true c44
                                                  clear c44
                                                  obtain ⟨y152, hy152⟩ : ∃ y_ : List Bool, y_ = (x12_3.set (x48_3 : Int).toNat (rdOf false x12_3 (ji41))) := ⟨_, rfl⟩
                                                  replace H : (path_Match.l1 k3 t136 x9_2 (rdOf ByteArray.empty t132 x38_2) y152 t132 (t132.length : Int) x38_2 (x9_2.length : Int) (wrap64 (x48_3 + 1))) = some r := by first | (rw [hy152]; with_reducible exact H) | (have H2_ := (Option.bind_some _ _).symm.trans H; rw [hy152]; with_reducible exact H2_) | (have H2_ := (Option.bind_some _ _).symm.trans H; with_reducible exact H2_) | with_reducible exact H | (rw [hy152]; exact H) | exact H
                                                  have Ny152 := Aside0.mk hy152
                                                  clear hy152
                                                  have H' := Aside0.mk H
                                                  clear H
                                                  have p149 : 0 ≤ (x48_3 : Int) := of_decide_eq_true (by first | (with_reducible assumption) | assumption)
                                                  have q149 : x48_3 < (x9_2.length : Int) := of_decide_eq_true (by first | (with_reducible assumption) | assumption)
                                                  obtain ⟨ad149, e149, hx149_0⟩ := Kd.at_bool (Kd.R_reads' HO_9.out).2.2 x48_3 p149 q149
                                                  (try rw [← Nbq34.out] at hx149_0)
                                                  cases e149
                                                  replace p149 := eq_true p149
                                                  replace q149 := eq_true q149
                                                  obtain ⟨Ao46, co46, eo46⟩ := Kd.R_slice HO_12.out
                                                  subst eo46
                                                  have p151 : 0 ≤ ((ji41) : Int) := of_decide_eq_true (by first | (with_reducible assumption) | assumption)
                                                  have q151 : (ji41) < (x12_3.length : Int) := of_decide_eq_true (by first | (with_reducible assumption) | assumption)
                                                  obtain ⟨ad151, e151, hx151_0⟩ := Kd.at_bool (Kd.R_reads' HO_12.out).2.2 (ji41) p151 q151
                                                  (try rw [← Nbq34.out] at hx151_0)
                                                  cases e151
                                                  replace p151 := eq_true p151
                                                  replace q151 := eq_true q151
                                                  have p45 : 0 ≤ (x48_3 : Int) := of_decide_eq_true (by first | (with_reducible assumption) | assumption)
                                                  have q45 : (x48_3 : Int) < ((x12_3.length : Int) : Int) := of_decide_eq_true (by first | (with_reducible assumption) | assumption)
                                                  obtain ⟨go45, co45, eo45, gb45, gl45, cl45, HG45⟩ := Kd.R_form HO_12.out (by omega)
                                                  (first | cases eo45 | (injection eo45 with ea_ en_ ec_; (first | subst ea_ | (injection ea_ with ea_; subst ea_)); subst ec_; clear en_))
                                                  have GB45 := Aside0.mk gb45
                                                  have GG45 := Aside0.mk HG45
                                                  clear gb45 gl45 HG45
                                                  (first | simp only [add_plain] at hx151_0 | skip)
                                                  obtain ⟨hx45_0, hf45_0⟩ := Kd.R_celln false HO_12.out (x48_3 : Int) p45 q45
                                                  replace p45 := eq_true p45
                                                  replace q45 := eq_true q45
                                                  have HP47 := Kd.R_putg HO_12.out (x48_3 : Int) (rdOf false x12_3 (ji41))
                                                  go_wp2_with (first | ((with_reducible refine gate_store (t := 4) (p := 71) rfl ?_); refine store_event (t := 4) (p := 71) (v := ?vo_w48) (w1 := (wr.setCell ⟨go45, (x48_3 : Int).toNat, none⟩ (.bool (rdOf false x12_3 (ji41))))) ?hg ?ho ?hn ?hr ?_; (case ho => rfl); (case hg => rfl); (case hn => rfl); (case hr => first | (go_simp; done) | (go_simp; rfl)); intro w48 hw; have hg : wr.grownBy w48 (some go45) := (by rw [hw]; exact HP47.2); have hp_ : Kd.R Kd.bool 4 w48 w.heap.size (fun k_ => some k_ ≠ (.slice (some ad149) x9_2.length co29 : Value).ownBlock) (.slice (some ⟨go45, 0, none⟩) x12_3.length co46) y152 := (by rw [hw, Ny152.out]; exact HP47.1); clear HP47; have n0_ := Aside0.mk (Kd.R_over' (v := (.slice (some ⟨go45, 0, none⟩) x12_3.length co46)) (by (with_reducible repeat (first | apply Kd.R_alloc | apply Kd.R_drewN | apply Kd.R_drew)); exact HO_7.out) (Kd.R_typed HO_12.out) (by decide) hg); have n1_ := Aside0.mk (Kd.R_after (v := (.slice (some ⟨go45, 0, none⟩) x12_3.length co46)) (v1 := (.slice (some ⟨go45, 0, none⟩) x12_3.length co46)) (ok := (fun _ => True)) (by (with_reducible repeat (first | apply Kd.R_alloc | apply Kd.R_drewN | apply Kd.R_drew)); exact Kd.R_mono HO_9.out (fun _ hk => ⟨trivial, hk⟩)) hg (.inl rfl)); have n2_ := Aside0.mk (hp_); have n3_ := Aside0.mk (Kd.R_over' (v := (.slice (some ⟨go45, 0, none⟩) x12_3.length co46)) (by (with_reducible repeat (first | apply Kd.R_alloc | apply Kd.R_drewN | apply Kd.R_drew)); exact HO_36.out) (Kd.R_typed HO_12.out) (by decide) hg); have n4_ := Aside0.mk ((by rw [hw]; exact below_set (HB.out) GB45.out : Below w.heap.size w w48)); clear HO_7; clear HO_9; clear HO_12; clear HO_36; clear HB; have HO_7 := n0_; have HO_9 := n1_; have HO_12 := n2_; have HO_36 := n3_; have HB := n4_; clear n0_ n1_ n2_ n3_ n4_; clear hg hw hp_))
                                                  go_roundg k3
                                                  case measure => have := HJ4.out; have := HK2.out; have := HK3.out; omega
                                                  case rel => exact ⟨(y152), (wrap64 (x48_3 + 1)), (by first | rfl | (simp; done) | (simp [*]; done)), H', ⟨by have := HJ4.out; have := HK2.out; have := HK3.out; omega⟩, ⟨by (with_reducible repeat (first | apply Kd.R_alloc | apply Kd.R_drewN | apply Kd.R_drew)); exact HO_7.out⟩, ⟨by (with_reducible repeat (first | apply Kd.R_alloc | apply Kd.R_drewN | apply Kd.R_drew)); exact Kd.R_mono HO_9.out (fun _ hk => hk.2)⟩, ⟨by (with_reducible repeat (first | apply Kd.R_alloc | apply Kd.R_drewN | apply Kd.R_drew)); exact HO_12.out⟩, ⟨by (with_reducible repeat (first | apply Kd.R_alloc | apply Kd.R_drewN | apply Kd.R_drew)); exact HO_36.out⟩, ⟨by repeat (first | (with_reducible first | exact HB.out | apply below_alloc | apply pw_below_drewN | apply below_drew1) | exact HB.out)⟩⟩
                                                · rw [if_neg c44] at H
                                                  exact absurd H (by simp)
                                              · rw [if_neg c43] at H
                                                exact absurd H (by simp)
                                            · rw [if_neg c42] at H
                                              exact absurd H (by simp)
                                          · rw [if_neg c40] at H
                                            have c40b0 : decide (0 < x48_3) = false := decide_eq_false c40
                                            clear c40
                                            by_cases c49 : x48_3 < (x12_3.length : Int)
                                            · rw [if_pos c49] at H
                                              have c49b0 : decide (x48_3 < (x12_3.length : Int)) = true := decide_eq_true c49
                                              clear c49
                                              obtain ⟨y153, hy153⟩ : ∃ y_ : List Bool, y_ = (x12_3.set (x48_3 : Int).toNat false) := ⟨_, rfl⟩
                                              replace H : (path_Match.l1 k3 t136 x9_2 (rdOf ByteArray.empty t132 x38_2) y153 t132 (t132.length : Int) x38_2 (x9_2.length : Int) (wrap64 (x48_3 + 1))) = some r := by first | (rw [hy153]; with_reducible exact H) | (have H2_ := (Option.bind_some _ _).symm.trans H; rw [hy153]; with_reducible exact H2_) | (have H2_ := (Option.bind_some _ _).symm.trans H; with_reducible exact H2_) | with_reducible exact H | (rw [hy153]; exact H) | exact H
                                              have Ny153 := Aside0.mk hy153
                                              clear hy153
                                              have H' := Aside0.mk H
                                              clear H
                                              have p149 : 0 ≤ (x48_3 : Int) := of_decide_eq_true (by first | (with_reducible assumption) | assumption)
                                              have q149 : x48_3 < (x9_2.length : Int) := of_decide_eq_true (by first | (with_reducible assumption) | assumption)
                                              obtain ⟨ad149, e149, hx149_0⟩ := Kd.at_bool (Kd.R_reads' HO_9.out).2.2 x48_3 p149 q149
                                              (try rw [← Nbq34.out] at hx149_0)
                                              cases e149
                                              replace p149 := eq_true p149
                                              replace q149 := eq_true q149
                                              have p50 : 0 ≤ (x48_3 : Int) := of_decide_eq_true (by first | (with_reducible assumption) | assumption)
                                              have q50 : (x48_3 : Int) < ((x12_3.length : Int) : Int) := of_decide_eq_true (by first | (with_reducible assumption) | assumption)
                                              obtain ⟨go50, co50, eo50, gb50, gl50, cl50, HG50⟩ := Kd.R_form HO_12.out (by omega)
                                              (first | cases eo50 | (injection eo50 with ea_ en_ ec_; (first | subst ea_ | (injection ea_ with ea_; subst ea_)); subst ec_; clear en_))
                                              have GB50 := Aside0.mk gb50
                                              have GG50 := Aside0.mk HG50
                                              clear gb50 gl50 HG50
                                              obtain ⟨hx50_0, hf50_0⟩ := Kd.R_celln false HO_12.out (x48_3 : Int) p50 q50
                                              replace p50 := eq_true p50
                                              replace q50 := eq_true q50
                                              have HP51 := Kd.R_putg HO_12.out (x48_3 : Int) false
                                              go_wp2_with (first | ((with_reducible refine gate_store (t := 4) (p := 71) rfl ?_); refine store_event (t := 4) (p := 71) (v := ?vo_w52) (w1 := (wr.setCell ⟨go50, (x48_3 : Int).toNat, none⟩ (.bool false))) ?hg ?ho ?hn ?hr ?_; (case ho => rfl); (case hg => rfl); (case hn => rfl); (case hr => first | (go_simp; done) | (go_simp; rfl)); intro w52 hw; have hg : wr.grownBy w52 (some go50) := (by rw [hw]; exact HP51.2); have hp_ : Kd.R Kd.bool 4 w52 w.heap.size (fun k_ => some k_ ≠ (.slice (some ad149) x9_2.length co29 : Value).ownBlock) (.slice (some ⟨go50, 0, none⟩) x12_3.length co50) y153 := (by rw [hw, Ny153.out]; exact HP51.1); clear HP51; have n0_ := Aside0.mk (Kd.R_over' (v := (.slice (some ⟨go50, 0, none⟩) x12_3.length co50)) (by (with_reducible repeat (first | apply Kd.R_alloc | apply Kd.R_drewN | apply Kd.R_drew)); exact HO_7.out) (Kd.R_typed HO_12.out) (by decide) hg); have n1_ := Aside0.mk (Kd.R_after (v := (.slice (some ⟨go50, 0, none⟩) x12_3.length co50)) (v1 := (.slice (some ⟨go50, 0, none⟩) x12_3.length co50)) (ok := (fun _ => True)) (by (with_reducible repeat (first | apply Kd.R_alloc | apply Kd.R_drewN | apply Kd.R_drew)); exact Kd.R_mono HO_9.out (fun _ hk => ⟨trivial, hk⟩)) hg (.inl rfl)); have n2_ := Aside0.mk (hp_); have n3_ := Aside0.mk (Kd.R_over' (v := (.slice (some ⟨go50, 0, none⟩) x12_3.length co50)) (by (with_reducible repeat (first | apply Kd.R_alloc | apply Kd.R_drewN | apply Kd.R_drew)); exact HO_36.out) (Kd.R_typed HO_12.out) (by decide) hg); have n4_ := Aside0.mk ((by rw [hw]; exact below_set (HB.out) GB50.out : Below w.heap.size w w52)); clear HO_7; clear HO_9; clear HO_12; clear HO_36; clear HB; have HO_7 := n0_; have HO_9 := n1_; have HO_12 := n2_; have HO_36 := n3_; have HB := n4_; clear n0_ n1_ n2_ n3_ n4_; clear hg hw hp_))
                                              go_roundg k3
                                              case measure => have := HJ4.out; have := HK2.out; have := HK3.out; omega
                                              case rel => exact ⟨(y153), (wrap64 (x48_3 + 1)), (by first | rfl | (simp; done) | (simp [*]; done)), H', ⟨by have := HJ4.out; have := HK2.out; have := HK3.out; omega⟩, ⟨by (with_reducible repeat (first | apply Kd.R_alloc | apply Kd.R_drewN | apply Kd.R_drew)); exact HO_7.out⟩, ⟨by (with_reducible repeat (first | apply Kd.R_alloc | apply Kd.R_drewN | apply Kd.R_drew)); exact Kd.R_mono HO_9.out (fun _ hk => hk.2)⟩, ⟨by (with_reducible repeat (first | apply Kd.R_alloc | apply Kd.R_drewN | apply Kd.R_drew)); exact HO_12.out⟩, ⟨by (with_reducible repeat (first | apply Kd.R_alloc | apply Kd.R_drewN | apply Kd.R_drew)); exact HO_36.out⟩, ⟨by repeat (first | (with_reducible first | exact HB.out | apply below_alloc | apply pw_below_drewN | apply below_drew1) | exact HB.out)⟩⟩
                                            · rw [if_neg c49] at H
                                              exact absurd H (by simp)
                                      · rw [if_neg c33] at H
                                        exact absurd H (by simp)
                                    · rw [if_neg c32] at H
                                      exact absurd H (by simp)
                                  · rw [if_neg c31] at H
                                    have c31b0 : ((rdOf ByteArray.empty t132 x38_2).toList == ([42, 42] : List UInt8)) = false := beq_eq_false_iff_ne.mpr c31
                                    have c31b1 : ((rdOf ByteArray.empty t132 x38_2).toList != ([42, 42] : List UInt8)) = true := bne_iff_ne.mpr c31
                                    by_cases c53 : x48_3 > 0
                                    · rw [if_pos c53] at H
                                      have c53b0 : decide (0 < x48_3) = true := decide_eq_true c53
                                      clear c53
                                      obtain ⟨ji54, hji54⟩ : ∃ j_ : Int, (wrap64 (x48_3 - 1)) = j_ := ⟨_, rfl⟩
                                      replace H : (if 0 ≤ (ji54) then (if (ji54) < (x9_2.length : Int) then (if rdOf false x9_2 (ji54) = true then (if (ji54) < (t136.length : Int) then ((path_fits.f k3 (rdOf ByteArray.empty t132 x38_2) (rdOf ByteArray.empty t136 (ji54))).bind fun t156 => (if 0 ≤ x48_3 then (if x48_3 < (x12_3.length : Int) then (path_Match.l1 k3 t136 x9_2 (rdOf ByteArray.empty t132 x38_2) (x12_3.set (x48_3 : Int).toNat t156) t132 (t132.length : Int) x38_2 (x9_2.length : Int) (wrap64 (x48_3 + 1))) else (none)) else (none))) else (none)) else (if 0 ≤ x48_3 then (if x48_3 < (x12_3.length : Int) then (path_Match.l1 k3 t136 x9_2 (rdOf ByteArray.empty t132 x38_2) (x12_3.set (x48_3 : Int).toNat false) t132 (t132.length : Int) x38_2 (x9_2.length : Int) (wrap64 (x48_3 + 1))) else (none)) else (none))) else (none)) else (none)) = some r := by first | (rw [hji54] at H; exact H) | (simp only [hji54] at H ⊢; exact H)
                                      have hji54w : (IntKind.i64.wrap (x48_3 - 1)) = ji54 := (i64_w _).trans hji54
                                      by_cases c55 : 0 ≤ (ji54)
                                      · rw [if_pos c55] at H
                                        have c55b0 : decide (0 ≤ (ji54)) = true := decide_eq_true c55
                                        clear c55
                                        by_cases c56 : (ji54) < (x9_2.length : Int)
                                        · rw [if_pos c56] at H
                                          have c56b0 : decide ((ji54) < (x9_2.length : Int)) = true := decide_eq_true c56
                                          clear c56
                                          obtain ⟨bq57, hbq57⟩ : ∃ b_ : Bool, b_ = (rdOf false x9_2 (ji54)) := ⟨_, rfl⟩
                                          replace H : (if bq57 = true then (if (ji54) < (t136.length : Int) then ((path_fits.f k3 (rdOf ByteArray.empty t132 x38_2) (rdOf ByteArray.empty t136 (ji54))).bind fun t156 => (if 0 ≤ x48_3 then (if x48_3 < (x12_3.length : Int) then (path_Match.l1 k3 t136 x9_2 (rdOf ByteArray.empty t132 x38_2) (x12_3.set (x48_3 : Int).toNat t156) t132 (t132.length : Int) x38_2 (x9_2.length : Int) (wrap64 (x48_3 + 1))) else (none)) else (none))) else (none)) else (if 0 ≤ x48_3 then (if x48_3 < (x12_3.length : Int) then (path_Match.l1 k3 t136 x9_2 (rdOf ByteArray.empty t132 x38_2) (x12_3.set (x48_3 : Int).toNat false) t132 (t132.length : Int) x38_2 (x9_2.length : Int) (wrap64 (x48_3 + 1))) else (none)) else (none))) = some r := by rw [← hbq57] at H; exact H
                                          have Nbq57 := Aside0.mk hbq57
                                          clear hbq57
                                          by_cases c58 : bq57 = true
                                          · subst c58
                                            have H1 : (if (ji54) < (t136.length : Int) then ((path_fits.f k3 (rdOf ByteArray.empty t132 x38_2) (rdOf ByteArray.empty t136 (ji54))).bind fun t156 => (if 0 ≤ x48_3 then (if x48_3 < (x12_3.length : Int) then (path_Match.l1 k3 t136 x9_2 (rdOf ByteArray.empty t132 x38_2) (x12_3.set (x48_3 : Int).toNat t156) t132 (t132.length : Int) x38_2 (x9_2.length : Int) (wrap64 (x48_3 + 1))) else (none)) else (none))) else (none)) = some r := by rw [if_pos rfl] at H; exact H
                                            clear H
                                            have H := H1
                                            clear H1
                                            by_cases c59 : (ji54) < (t136.length : Int)
                                            · rw [if_pos c59] at H
                                              have c59b0 : decide ((ji54) < (t136.length : Int)) = true := decide_eq_true c59
                                              clear c59
                                              replace H := Option.bind_eq_some_iff.mp H
                                              obtain ⟨t156, A600, H⟩ := H
                                              replace H : (if 0 ≤ x48_3 then (if x48_3 < (x12_3.length : Int) then (path_Match.l1 k3 t136 x9_2 (rdOf ByteArray.empty t132 x38_2) (x12_3.set (x48_3 : Int).toNat t156) t132 (t132.length : Int) x38_2 (x9_2.length : Int) (wrap64 (x48_3 + 1))) else (none)) else (none)) = some r := H
                                              have A60 := Aside0.mk A600
                                              clear A600
                                              by_cases c61 : 0 ≤ x48_3
                                              · rw [if_pos c61] at H
                                                have c61b0 : decide (0 ≤ x48_3) = true := decide_eq_true c61
                                                clear c61
                                                by_cases c62 : x48_3 < (x12_3.length : Int)
                                                · rw [if_pos c62] at H
                                                  have c62b0 : decide (x48_3 < (x12_3.length : Int)) = true := decide_eq_true c62
                                                  clear c62
                                                  obtain ⟨y157, hy157⟩ : ∃ y_ : List Bool, y_ = (x12_3.set (x48_3 : Int).toNat t156) := ⟨_, rfl⟩
                                                  replace H : (path_Match.l1 k3 t136 x9_2 (rdOf ByteArray.empty t132 x38_2) y157 t132 (t132.length : Int) x38_2 (x9_2.length : Int) (wrap64 (x48_3 + 1))) = some r := by first | (rw [hy157]; with_reducible exact H) | (have H2_ := (Option.bind_some _ _).symm.trans H; rw [hy157]; with_reducible exact H2_) | (have H2_ := (Option.bind_some _ _).symm.trans H; with_reducible exact H2_) | with_reducible exact H | (rw [hy157]; exact H) | exact H
                                                  have Ny157 := Aside0.mk hy157
                                                  clear hy157
                                                  have H' := Aside0.mk H
                                                  clear H
                                                  have p154 : 0 ≤ ((ji54) : Int) := of_decide_eq_true (by first | (with_reducible assumption) | assumption)
                                                  have q154 : (ji54) < (x9_2.length : Int) := of_decide_eq_true (by first | (with_reducible assumption) | assumption)
                                                  obtain ⟨ad154, e154, hx154_0⟩ := Kd.at_bool (Kd.R_reads' HO_9.out).2.2 (ji54) p154 q154
                                                  (try rw [← Nbq57.out] at hx154_0)
                                                  cases e154
                                                  replace p154 := eq_true p154
                                                  replace q154 := eq_true q154
                                                  have p155 : 0 ≤ ((ji54) : Int) := of_decide_eq_true (by first | (with_reducible assumption) | assumption)
                                                  have q155 : (ji54) < (t136.length : Int) := of_decide_eq_true (by first | (with_reducible assumption) | assumption)
                                                  obtain ⟨ad155, e155, hx155_0⟩ := Kd.at_string (Kd.R_reads' HO_7.out).2.2 (ji54) p155 q155
                                                  cases e155
                                                  replace p155 := eq_true p155
                                                  replace q155 := eq_true q155
                                                  go_wp2_with (first | (go_at_call 34; (with_reducible refine (path_fits.calls k3 (rdOf ByteArray.empty t132 x38_2) (rdOf ByteArray.empty t136 (ji54)) t156 _ A60.out).mono ?_); rintro e w' ⟨rfl, ⟨nd, rfl⟩⟩; (try (rw [drewN_self wr]; generalize hq_ : World.drewN wr _ = wr; have n0_ : Aside0 (Kd.R Kd.bool 4 wr w.heap.size (fun k_ => some k_ ≠ (.slice (some ad154) x9_2.length co29 : Value).ownBlock) v147 x12_3) := ⟨by rw [← hq_]; exact (by (with_reducible repeat (first | apply Kd.R_alloc | apply Kd.R_drewN | apply Kd.R_drew)); exact HO_12.out)⟩; have n1_ : Aside0 (Kd.R Kd.string 9 wr w.heap.size (fun k_ => some k_ ≠ (.slice (some ad155) t136.length co15 : Value).ownBlock) (.slice (some ad145) t132.length co20) t132) := ⟨by rw [← hq_]; exact (by (with_reducible repeat (first | apply Kd.R_alloc | apply Kd.R_drewN | apply Kd.R_drew)); exact HO_36.out)⟩; have n2_ : Aside0 (Kd.R Kd.string 9 wr w.heap.size (fun k_ => some k_ ≠ (.slice (some ad145) t132.length co20 : Value).ownBlock) (.slice (some ad155) t136.length co15) t136) := ⟨by rw [← hq_]; exact (by (with_reducible repeat (first | apply Kd.R_alloc | apply Kd.R_drewN | apply Kd.R_drew)); exact HO_7.out)⟩; have n3_ : Aside0 (Kd.R Kd.bool 4 wr w.heap.size (fun k_ => some k_ ≠ (v147 : Value).ownBlock) (.slice (some ad154) x9_2.length co29) x9_2) := ⟨by rw [← hq_]; exact (by (with_reducible repeat (first | apply Kd.R_alloc | apply Kd.R_drewN | apply Kd.R_drew)); exact HO_9.out)⟩; have n4_ : Aside0 (Below w.heap.size w wr) := ⟨by rw [← hq_]; exact (by repeat (first | (with_reducible first | exact HB.out | apply below_alloc | apply pw_below_drewN | apply below_drew1) | exact HB.out))⟩; clear HO_12 HO_36 HO_7 HO_9 HB hq_; have HO_12 := n0_; have HO_36 := n1_; have HO_7 := n2_; have HO_9 := n3_; have HB := n4_; clear n0_ n1_ n2_ n3_ n4_)); have p63 : 0 ≤ (x48_3 : Int) := of_decide_eq_true (by first | (with_reducible assumption) | assumption); have q63 : (x48_3 : Int) < ((x12_3.length : Int) : Int) := of_decide_eq_true (by first | (with_reducible assumption) | assumption); obtain ⟨go63, co63, eo63, gb63, gl63, cl63, HG63⟩ := Kd.R_form HO_12.out (by omega); (first | cases eo63 | (injection eo63 with ea_ en_ ec_; (first | subst ea_ | (injection ea_ with ea_; subst ea_)); subst ec_; clear en_)); have GB63 := Aside0.mk gb63; have GG63 := Aside0.mk HG63; clear gb63 gl63 HG63; obtain ⟨hx63_0, hf63_0⟩ := Kd.R_celln false HO_12.out (x48_3 : Int) p63 q63; replace p63 := eq_true p63; replace q63 := eq_true q63; obtain ⟨hy64_, hz64_⟩ := Kd.R_celln false HO_12.out (x48_3 : Int) (of_decide_eq_true (by first | (with_reducible assumption) | assumption)) (of_decide_eq_true (by first | (with_reducible assumption) | assumption)); have HP64 := Kd.R_putg HO_12.out (x48_3 : Int) t156) | ((with_reducible refine gate_store (t := 4) (p := 91) rfl ?_); refine store_event (t := 4) (p := 91) (v := ?vo_w65) (w1 := (wr.setCell ⟨go63, (x48_3 : Int).toNat, none⟩ (.bool t156))) ?hg ?ho ?hn ?hr ?_; (case ho => rfl); (case hg => rfl); (case hn => rfl); (case hr => first | (go_simp; done) | (go_simp; rfl)); intro w65 hw; have hg : wr.grownBy w65 (some go63) := (by rw [hw]; exact HP64.2); have hp_ : Kd.R Kd.bool 4 w65 w.heap.size (fun k_ => some k_ ≠ (.slice (some ad154) x9_2.length co29 : Value).ownBlock) (.slice (some ⟨go63, 0, none⟩) x12_3.length co63) y157 := (by rw [hw, Ny157.out]; exact HP64.1); clear HP64; have n0_ := Aside0.mk (Kd.R_over' (v := (.slice (some ⟨go63, 0, none⟩) x12_3.length co63)) (by (with_reducible repeat (first | apply Kd.R_alloc | apply Kd.R_drewN | apply Kd.R_drew)); exact HO_7.out) (Kd.R_typed HO_12.out) (by decide) hg); have n1_ := Aside0.mk (Kd.R_after (v := (.slice (some ⟨go63, 0, none⟩) x12_3.length co63)) (v1 := (.slice (some ⟨go63, 0, none⟩) x12_3.length co63)) (ok := (fun _ => True)) (by (with_reducible repeat (first | apply Kd.R_alloc | apply Kd.R_drewN | apply Kd.R_drew)); exact Kd.R_mono HO_9.out (fun _ hk => ⟨trivial, hk⟩)) hg (.inl rfl)); have n2_ := Aside0.mk (hp_); have n3_ := Aside0.mk (Kd.R_over' (v := (.slice (some ⟨go63, 0, none⟩) x12_3.length co63)) (by (with_reducible repeat (first | apply Kd.R_alloc | apply Kd.R_drewN | apply Kd.R_drew)); exact HO_36.out) (Kd.R_typed HO_12.out) (by decide) hg); have n4_ := Aside0.mk ((by rw [hw]; exact below_set (HB.out) GB63.out : Below w.heap.size w w65)); clear HO_7; clear HO_9; clear HO_12; clear HO_36; clear HB; have HO_7 := n0_; have HO_9 := n1_; have HO_12 := n2_; have HO_36 := n3_; have HB := n4_; clear n0_ n1_ n2_ n3_ n4_; clear hg hw hp_))
                                                  go_roundg k3
                                                  case measure => have := HJ4.out; have := HK2.out; have := HK3.out; omega
                                                  case rel => exact ⟨(y157), (wrap64 (x48_3 + 1)), (by first | rfl | (simp; done) | (simp [*]; done)), H', ⟨by have := HJ4.out; have := HK2.out; have := HK3.out; omega⟩, ⟨by (with_reducible repeat (first | apply Kd.R_alloc | apply Kd.R_drewN | apply Kd.R_drew)); exact HO_7.out⟩, ⟨by (with_reducible repeat (first | apply Kd.R_alloc | apply Kd.R_drewN | apply Kd.R_drew)); exact Kd.R_mono HO_9.out (fun _ hk => hk.2)⟩, ⟨by (with_reducible repeat (first | apply Kd.R_alloc | apply Kd.R_drewN | apply Kd.R_drew)); exact HO_12.out⟩, ⟨by (with_reducible repeat (first | apply Kd.R_alloc | apply Kd.R_drewN | apply Kd.R_drew)); exact HO_36.out⟩, ⟨by repeat (first | (with_reducible first | exact HB.out | apply below_alloc | apply pw_below_drewN | apply below_drew1) | exact HB.out)⟩⟩
                                                · rw [if_neg c62] at H
                                                  exact absurd H (by simp)
                                              · rw [if_neg c61] at H
                                                exact absurd H (by simp)
                                            · rw [if_neg c59] at H
                                              exact absurd H (by simp)
                                          · replace c58 := Bool.eq_false_iff.mpr c58
                                            subst c58
                                            have H1 : (if 0 ≤ x48_3 then (if x48_3 < (x12_3.length : Int) then (path_Match.l1 k3 t136 x9_2 (rdOf ByteArray.empty t132 x38_2) (x12_3.set (x48_3 : Int).toNat false) t132 (t132.length : Int) x38_2 (x9_2.length : Int) (wrap64 (x48_3 + 1))) else (none)) else (none)) = some r := by rw [if_neg (show ¬ (false = true) by decide)] at H; exact H
                                            clear H
                                            have H := H1
                                            clear H1
                                            by_cases c66 : 0 ≤ x48_3
                                            · rw [if_pos c66] at H
                                              have c66b0 : decide (0 ≤ x48_3) = true := decide_eq_true c66
                                              clear c66
                                              by_cases c67 : x48_3 < (x12_3.length : Int)
                                              · rw [if_pos c67] at H
                                                have c67b0 : decide (x48_3 < (x12_3.length : Int)) = true := decide_eq_true c67
                                                clear c67
                                                obtain ⟨y158, hy158⟩ : ∃ y_ : List Bool, y_ = (x12_3.set (x48_3 : Int).toNat false) := ⟨_, rfl⟩
                                                replace H : (path_Match.l1 k3 t136 x9_2 (rdOf ByteArray.empty t132 x38_2) y158 t132 (t132.length : Int) x38_2 (x9_2.length : Int) (wrap64 (x48_3 + 1))) = some r := by first | (rw [hy158]; with_reducible exact H) | (have H2_ := (Option.bind_some _ _).symm.trans H; rw [hy158]; with_reducible exact H2_) | (have H2_ := (Option.bind_some _ _).symm.trans H; with_reducible exact H2_) | with_reducible exact H | (rw [hy158]; exact H) | exact H
                                                have Ny158 := Aside0.mk hy158
                                                clear hy158
                                                have H' := Aside0.mk H
                                                clear H
                                                have p154 : 0 ≤ ((ji54) : Int) := of_decide_eq_true (by first | (with_reducible assumption) | assumption)
                                                have q154 : (ji54) < (x9_2.length : Int) := of_decide_eq_true (by first | (with_reducible assumption) | assumption)
                                                obtain ⟨ad154, e154, hx154_0⟩ := Kd.at_bool (Kd.R_reads' HO_9.out).2.2 (ji54) p154 q154
                                                (try rw [← Nbq57.out] at hx154_0)
                                                cases e154
                                                replace p154 := eq_true p154
                                                replace q154 := eq_true q154
                                                have p68 : 0 ≤ (x48_3 : Int) := of_decide_eq_true (by first | (with_reducible assumption) | assumption)
                                                have q68 : (x48_3 : Int) < ((x12_3.length : Int) : Int) := of_decide_eq_true (by first | (with_reducible assumption) | assumption)
                                                obtain ⟨go68, co68, eo68, gb68, gl68, cl68, HG68⟩ := Kd.R_form HO_12.out (by omega)
                                                (first | cases eo68 | (injection eo68 with ea_ en_ ec_; (first | subst ea_ | (injection ea_ with ea_; subst ea_)); subst ec_; clear en_))
                                                have GB68 := Aside0.mk gb68
                                                have GG68 := Aside0.mk HG68
                                                clear gb68 gl68 HG68
                                                obtain ⟨hx68_0, hf68_0⟩ := Kd.R_celln false HO_12.out (x48_3 : Int) p68 q68
                                                replace p68 := eq_true p68
                                                replace q68 := eq_true q68
                                                have HP69 := Kd.R_putg HO_12.out (x48_3 : Int) false
                                                go_wp2_with (first | ((with_reducible refine gate_store (t := 4) (p := 91) rfl ?_); refine store_event (t := 4) (p := 91) (v := ?vo_w70) (w1 := (wr.setCell ⟨go68, (x48_3 : Int).toNat, none⟩ (.bool false))) ?hg ?ho ?hn ?hr ?_; (case ho => rfl); (case hg => rfl); (case hn => rfl); (case hr => first | (go_simp; done) | (go_simp; rfl)); intro w70 hw; have hg : wr.grownBy w70 (some go68) := (by rw [hw]; exact HP69.2); have hp_ : Kd.R Kd.bool 4 w70 w.heap.size (fun k_ => some k_ ≠ (.slice (some ad154) x9_2.length co29 : Value).ownBlock) (.slice (some ⟨go68, 0, none⟩) x12_3.length co68) y158 := (by rw [hw, Ny158.out]; exact HP69.1); clear HP69; have n0_ := Aside0.mk (Kd.R_over' (v := (.slice (some ⟨go68, 0, none⟩) x12_3.length co68)) (by (with_reducible repeat (first | apply Kd.R_alloc | apply Kd.R_drewN | apply Kd.R_drew)); exact HO_7.out) (Kd.R_typed HO_12.out) (by decide) hg); have n1_ := Aside0.mk (Kd.R_after (v := (.slice (some ⟨go68, 0, none⟩) x12_3.length co68)) (v1 := (.slice (some ⟨go68, 0, none⟩) x12_3.length co68)) (ok := (fun _ => True)) (by (with_reducible repeat (first | apply Kd.R_alloc | apply Kd.R_drewN | apply Kd.R_drew)); exact Kd.R_mono HO_9.out (fun _ hk => ⟨trivial, hk⟩)) hg (.inl rfl)); have n2_ := Aside0.mk (hp_); have n3_ := Aside0.mk (Kd.R_over' (v := (.slice (some ⟨go68, 0, none⟩) x12_3.length co68)) (by (with_reducible repeat (first | apply Kd.R_alloc | apply Kd.R_drewN | apply Kd.R_drew)); exact HO_36.out) (Kd.R_typed HO_12.out) (by decide) hg); have n4_ := Aside0.mk ((by rw [hw]; exact below_set (HB.out) GB68.out : Below w.heap.size w w70)); clear HO_7; clear HO_9; clear HO_12; clear HO_36; clear HB; have HO_7 := n0_; have HO_9 := n1_; have HO_12 := n2_; have HO_36 := n3_; have HB := n4_; clear n0_ n1_ n2_ n3_ n4_; clear hg hw hp_))
                                                go_roundg k3
                                                case measure => have := HJ4.out; have := HK2.out; have := HK3.out; omega
                                                case rel => exact ⟨(y158), (wrap64 (x48_3 + 1)), (by first | rfl | (simp; done) | (simp [*]; done)), H', ⟨by have := HJ4.out; have := HK2.out; have := HK3.out; omega⟩, ⟨by (with_reducible repeat (first | apply Kd.R_alloc | apply Kd.R_drewN | apply Kd.R_drew)); exact HO_7.out⟩, ⟨by (with_reducible repeat (first | apply Kd.R_alloc | apply Kd.R_drewN | apply Kd.R_drew)); exact Kd.R_mono HO_9.out (fun _ hk => hk.2)⟩, ⟨by (with_reducible repeat (first | apply Kd.R_alloc | apply Kd.R_drewN | apply Kd.R_drew)); exact HO_12.out⟩, ⟨by (with_reducible repeat (first | apply Kd.R_alloc | apply Kd.R_drewN | apply Kd.R_drew)); exact HO_36.out⟩, ⟨by repeat (first | (with_reducible first | exact HB.out | apply below_alloc | apply pw_below_drewN | apply below_drew1) | exact HB.out)⟩⟩
                                              · rw [if_neg c67] at H
                                                exact absurd H (by simp)
                                            · rw [if_neg c66] at H
                                              exact absurd H (by simp)
                                        · rw [if_neg c56] at H
                                          exact absurd H (by simp)
                                      · rw [if_neg c55] at H
                                        exact absurd H (by simp)
                                    · rw [if_neg c53] at H
                                      have c53b0 : decide (0 < x48_3) = false := decide_eq_false c53
                                      clear c53
                                      have H' := Aside0.mk H
                                      clear H
                                      go_wp2
                                      go_roundg k3
                                      case measure => have := HJ4.out; have := HK2.out; have := HK3.out; omega
                                      case rel => exact ⟨(x12_3), (wrap64 (x48_3 + 1)), (by first | rfl | (simp; done) | (simp [*]; done)), H', ⟨by have := HJ4.out; have := HK2.out; have := HK3.out; omega⟩, ⟨by (with_reducible repeat (first | apply Kd.R_alloc | apply Kd.R_drewN | apply Kd.R_drew)); exact HO_7.out⟩, ⟨by (with_reducible repeat (first | apply Kd.R_alloc | apply Kd.R_drewN | apply Kd.R_drew)); exact HO_9.out⟩, ⟨by (with_reducible repeat (first | apply Kd.R_alloc | apply Kd.R_drewN | apply Kd.R_drew)); exact HO_12.out⟩, ⟨by (with_reducible repeat (first | apply Kd.R_alloc | apply Kd.R_drewN | apply Kd.R_drew)); exact HO_36.out⟩, ⟨by repeat (first | (with_reducible first | exact HB.out | apply below_alloc | apply pw_below_drewN | apply below_drew1) | exact HB.out)⟩⟩
                                · rw [if_neg c30] at H
                                  have c30b0 : decide (x48_3 < (x9_2.length : Int)) = false := decide_eq_false c30
                                  clear c30
                                  have H' := Aside0.mk H
                                  clear H
                                  go_wp2
                                  go_roundg k3
                                  case measure => have := HJ4.out; have := HK2.out; have := HK3.out; omega
                                  case rel => exact ⟨(x12_3), (wrap64 (x38_2 + 1)), (by first | rfl | (simp; done) | (simp [*]; done)), H', ⟨by have := HJ4.out; have := HK2.out; have := HK3.out; omega⟩, ⟨by (with_reducible repeat (first | apply Kd.R_alloc | apply Kd.R_drewN | apply Kd.R_drew)); exact HO_7.out⟩, ⟨by (with_reducible repeat (first | apply Kd.R_alloc | apply Kd.R_drewN | apply Kd.R_drew)); exact Kd.R_mono HO_12.out (fun _ hk => trivial)⟩, ⟨by (with_reducible repeat (first | apply Kd.R_alloc | apply Kd.R_drewN | apply Kd.R_drew)); exact HO_36.out⟩, ⟨by repeat (first | (with_reducible first | exact HB.out | apply below_alloc | apply pw_below_drewN | apply below_drew1) | exact HB.out)⟩⟩
                          · rw [if_neg c26] at H
                            exact absurd H (by simp)
                        · rw [if_neg c25] at H
                          exact absurd H (by simp)
                      · rw [if_neg c23] at H
                        exact absurd H (by simp)
                    · rw [if_neg c22] at H
                      exact absurd H (by simp)
                  · rw [if_neg c21] at H
                    have c21b0 : decide (x38_2 < (t132.length : Int)) = false := decide_eq_false c21
                    clear c21
                    by_cases c71 : 0 ≤ (t136.length : Int)
                    · rw [if_pos c71] at H
                      have c71b0 : decide (0 ≤ (t136.length : Int)) = true := decide_eq_true c71
                      have c71b1 : decide (0 ≤ t136.length) = true := decide_eq_true (by omega)
                      clear c71
                      by_cases c72 : (t136.length : Int) < (x9_2.length : Int)
                      · rw [if_pos c72] at H
                        have c72b0 : decide ((t136.length : Int) < (x9_2.length : Int)) = true := decide_eq_true c72
                        have c72b1 : decide (t136.length < x9_2.length) = true := decide_eq_true (Int.ofNat_lt.mp c72)
                        clear c72
                        obtain rfl := Option.some.inj H
                        obtain ⟨Ao73, co73, eo73⟩ := Kd.R_slice HO_9.out
                        subst eo73
                        have p144 : 0 ≤ ((t136.length : Int) : Int) := of_decide_eq_true (by first | (with_reducible assumption) | assumption)
                        have q144 : (t136.length : Int) < (x9_2.length : Int) := of_decide_eq_true (by first | (with_reducible assumption) | assumption)
                        obtain ⟨ad144, e144, hx144_0⟩ := Kd.at_bool (Kd.R_reads' HO_9.out).2.2 (t136.length : Int) p144 q144
                        try rw [Int.toNat_natCast] at hx144_0
                        cases e144
                        (try simp only [Go.IntWalk.toNatUp] at hx144_0)
                        replace p144 := eq_true p144
                        replace q144 := eq_true q144
                        go_wp2
                        go_ret
                        exact ⟨by first | rfl | (simp [errW_none, errW_some] <;> rfl) | (simp only [← hji10]; first | rfl | (simp [errW_none, errW_some] <;> rfl)) | (simp [*, errW_none, errW_some] <;> rfl), by repeat (first | (with_reducible first | exact HB.out | apply below_alloc | apply pw_below_drewN | apply below_drew1) | exact HB.out)⟩
                      · rw [if_neg c72] at H
                        exact absurd H (by simp)
                    · rw [if_neg c71] at H
                      exact absurd H (by simp)
            · rw [if_neg c13] at H
              exact absurd H (by simp)
          · rw [if_neg c12] at H
            exact absurd H (by simp)
        · rw [if_neg c11] at H
          exact absurd H (by simp)
def cmp_isNaN_string.f (a0 : ByteArray) : Option (Bool) := some (a0.toList != a0.toList)
set_option maxHeartbeats 8000000 in
set_option maxRecDepth 100000 in
theorem cmp_isNaN_string.calls (a0 : ByteArray) (r : Bool) (w : World) (h : cmp_isNaN_string.f a0 = some r) :
    Calls Tryd.prog 46 #[.string a0] w fun e w' => e = .returned (.bool r) ∧ Drawn0 w w' := by
  have H : (some (a0.toList != a0.toList)) = some r := h
  clear h
  obtain rfl := Option.some.inj H
  go_enter Tryd.func46, Tryd.ntmps46
  go_wp2
  go_ret
  exact ⟨by first | rfl | (simp; done) | (simp [*]; done), by repeat (first | exact Drawn0.refl _ | apply Drawn0.step)⟩
def cmp_Compare_string.f (a0 : ByteArray) (a1 : ByteArray) : Option (Int) := (cmp_isNaN_string.f a0).bind fun t159 => ((cmp_isNaN_string.f a1).bind fun t160 => (if t159 = true then (if t160 = true then (some 0) else (some (-1))) else (if t160 = true then (some 1) else (if (Op.bytesLess a0.toList a1.toList) = true then (some (-1)) else (if (Op.bytesLess a1.toList a0.toList) = true then (some 1) else (some 0))))))
set_option maxHeartbeats 8000000 in
set_option maxRecDepth 100000 in
theorem cmp_Compare_string.calls (a0 : ByteArray) (a1 : ByteArray) (r : Int) (w : World) (h : cmp_Compare_string.f a0 a1 = some r) :
    Calls Tryd.prog 37 #[.string a0, .string a1] w fun e w' => e = .returned (.int .i64 r) ∧ Drawn0 w w' := by
  have H : ((cmp_isNaN_string.f a0).bind fun t159 => ((cmp_isNaN_string.f a1).bind fun t160 => (if t159 = true then (if t160 = true then (some 0) else (some (-1))) else (if t160 = true then (some 1) else (if (Op.bytesLess a0.toList a1.toList) = true then (some (-1)) else (if (Op.bytesLess a1.toList a0.toList) = true then (some 1) else (some 0))))))) = some r := h
  clear h
  replace H := Option.bind_eq_some_iff.mp H
  obtain ⟨t159, A30, H⟩ := H
  replace H : ((cmp_isNaN_string.f a1).bind fun t160 => (if t159 = true then (if t160 = true then (some 0) else (some (-1))) else (if t160 = true then (some 1) else (if (Op.bytesLess a0.toList a1.toList) = true then (some (-1)) else (if (Op.bytesLess a1.toList a0.toList) = true then (some 1) else (some 0)))))) = some r := H
  have A3 := Aside0.mk A30
  clear A30
  replace H := Option.bind_eq_some_iff.mp H
  obtain ⟨t160, A40, H⟩ := H
  replace H : (if t159 = true then (if t160 = true then (some 0) else (some (-1))) else (if t160 = true then (some 1) else (if (Op.bytesLess a0.toList a1.toList) = true then (some (-1)) else (if (Op.bytesLess a1.toList a0.toList) = true then (some 1) else (some 0))))) = some r := H
  have A4 := Aside0.mk A40
  clear A40
  by_cases c5 : t159 = true
  · subst c5
    have H1 : (if t160 = true then (some 0) else (some (-1))) = some r := by rw [if_pos rfl] at H; exact H
    clear H
    have H := H1
    clear H1
    by_cases c6 : t160 = true
    · subst c6
      have H1 : (some 0) = some r := by rw [if_pos rfl] at H; exact H
      clear H
      have H := H1
      clear H1
      obtain rfl := Option.some.inj H
      go_enter Tryd.func37, Tryd.ntmps37
      go_wp2_with (first | ((with_reducible refine gate_callee (f := 46) rfl ?_); refine goesL_ (some 8) rfl rfl Tryd.func46 (by kernel_rfl) rfl #[.string a0] rfl (by (try simp only [List.map_toArray, List.map_cons, List.map_nil]); first | done | rfl | (simp only [List.length_drop, List.length_take]; rfl)) ?_; (with_reducible refine (cmp_isNaN_string.calls a0 true _ A3.out).mono ?_); rintro e w' ⟨rfl, ⟨nd, rfl⟩⟩; refine ⟨_, rfl, ?_⟩) | ((with_reducible refine gate_callee (f := 46) rfl ?_); refine goesL_ (some 10) rfl rfl Tryd.func46 (by kernel_rfl) rfl #[.string a1] rfl (by (try simp only [List.map_toArray, List.map_cons, List.map_nil]); first | done | rfl | (simp only [List.length_drop, List.length_take]; rfl)) ?_; (with_reducible refine (cmp_isNaN_string.calls a1 true _ A4.out).mono ?_); rintro e w' ⟨rfl, ⟨nd, rfl⟩⟩; refine ⟨_, rfl, ?_⟩))
      go_ret
      exact ⟨by first | rfl | (simp; done) | (simp [*]; done), by repeat (first | exact Drawn0.refl _ | apply Drawn0.step)⟩
    · replace c6 := Bool.eq_false_iff.mpr c6
      subst c6
      have H1 : (some (-1)) = some r := by rw [if_neg (show ¬ (false = true) by decide)] at H; exact H
      clear H
      have H := H1
      clear H1
      obtain rfl := Option.some.inj H
      go_enter Tryd.func37, Tryd.ntmps37
      go_wp2_with (first | ((with_reducible refine gate_callee (f := 46) rfl ?_); refine goesL_ (some 8) rfl rfl Tryd.func46 (by kernel_rfl) rfl #[.string a0] rfl (by (try simp only [List.map_toArray, List.map_cons, List.map_nil]); first | done | rfl | (simp only [List.length_drop, List.length_take]; rfl)) ?_; (with_reducible refine (cmp_isNaN_string.calls a0 true _ A3.out).mono ?_); rintro e w' ⟨rfl, ⟨nd, rfl⟩⟩; refine ⟨_, rfl, ?_⟩) | ((with_reducible refine gate_callee (f := 46) rfl ?_); refine goesL_ (some 10) rfl rfl Tryd.func46 (by kernel_rfl) rfl #[.string a1] rfl (by (try simp only [List.map_toArray, List.map_cons, List.map_nil]); first | done | rfl | (simp only [List.length_drop, List.length_take]; rfl)) ?_; (with_reducible refine (cmp_isNaN_string.calls a1 false _ A4.out).mono ?_); rintro e w' ⟨rfl, ⟨nd, rfl⟩⟩; refine ⟨_, rfl, ?_⟩))
      go_ret
      exact ⟨by first | rfl | (simp; done) | (simp [*]; done), by repeat (first | exact Drawn0.refl _ | apply Drawn0.step)⟩
  · replace c5 := Bool.eq_false_iff.mpr c5
    subst c5
    have H1 : (if t160 = true then (some 1) else (if (Op.bytesLess a0.toList a1.toList) = true then (some (-1)) else (if (Op.bytesLess a1.toList a0.toList) = true then (some 1) else (some 0)))) = some r := by rw [if_neg (show ¬ (false = true) by decide)] at H; exact H
    clear H
    have H := H1
    clear H1
    by_cases c7 : t160 = true
    · subst c7
      have H1 : (some 1) = some r := by rw [if_pos rfl] at H; exact H
      clear H
      have H := H1
      clear H1
      obtain rfl := Option.some.inj H
      go_enter Tryd.func37, Tryd.ntmps37
      go_wp2_with (first | ((with_reducible refine gate_callee (f := 46) rfl ?_); refine goesL_ (some 8) rfl rfl Tryd.func46 (by kernel_rfl) rfl #[.string a0] rfl (by (try simp only [List.map_toArray, List.map_cons, List.map_nil]); first | done | rfl | (simp only [List.length_drop, List.length_take]; rfl)) ?_; (with_reducible refine (cmp_isNaN_string.calls a0 false _ A3.out).mono ?_); rintro e w' ⟨rfl, ⟨nd, rfl⟩⟩; refine ⟨_, rfl, ?_⟩) | ((with_reducible refine gate_callee (f := 46) rfl ?_); refine goesL_ (some 10) rfl rfl Tryd.func46 (by kernel_rfl) rfl #[.string a1] rfl (by (try simp only [List.map_toArray, List.map_cons, List.map_nil]); first | done | rfl | (simp only [List.length_drop, List.length_take]; rfl)) ?_; (with_reducible refine (cmp_isNaN_string.calls a1 true _ A4.out).mono ?_); rintro e w' ⟨rfl, ⟨nd, rfl⟩⟩; refine ⟨_, rfl, ?_⟩))
      go_ret
      exact ⟨by first | rfl | (simp; done) | (simp [*]; done), by repeat (first | exact Drawn0.refl _ | apply Drawn0.step)⟩
    · replace c7 := Bool.eq_false_iff.mpr c7
      subst c7
      have H1 : (if (Op.bytesLess a0.toList a1.toList) = true then (some (-1)) else (if (Op.bytesLess a1.toList a0.toList) = true then (some 1) else (some 0))) = some r := by rw [if_neg (show ¬ (false = true) by decide)] at H; exact H
      clear H
      have H := H1
      clear H1
      by_cases c8 : (Op.bytesLess a0.toList a1.toList) = true
      · rw [if_pos c8] at H
        have c8b0 : (Op.bytesLess a0.toList a1.toList) = true := c8
        clear c8
        obtain rfl := Option.some.inj H
        go_enter Tryd.func37, Tryd.ntmps37
        go_wp2_with (first | ((with_reducible refine gate_callee (f := 46) rfl ?_); refine goesL_ (some 8) rfl rfl Tryd.func46 (by kernel_rfl) rfl #[.string a0] rfl (by (try simp only [List.map_toArray, List.map_cons, List.map_nil]); first | done | rfl | (simp only [List.length_drop, List.length_take]; rfl)) ?_; (with_reducible refine (cmp_isNaN_string.calls a0 false _ A3.out).mono ?_); rintro e w' ⟨rfl, ⟨nd, rfl⟩⟩; refine ⟨_, rfl, ?_⟩) | ((with_reducible refine gate_callee (f := 46) rfl ?_); refine goesL_ (some 10) rfl rfl Tryd.func46 (by kernel_rfl) rfl #[.string a1] rfl (by (try simp only [List.map_toArray, List.map_cons, List.map_nil]); first | done | rfl | (simp only [List.length_drop, List.length_take]; rfl)) ?_; (with_reducible refine (cmp_isNaN_string.calls a1 false _ A4.out).mono ?_); rintro e w' ⟨rfl, ⟨nd, rfl⟩⟩; refine ⟨_, rfl, ?_⟩))
        go_ret
        exact ⟨by first | rfl | (simp; done) | (simp [*]; done), by repeat (first | exact Drawn0.refl _ | apply Drawn0.step)⟩
      · rw [if_neg c8] at H
        have c8b0 : (Op.bytesLess a0.toList a1.toList) = false := by simpa using c8
        clear c8
        by_cases c9 : (Op.bytesLess a1.toList a0.toList) = true
        · rw [if_pos c9] at H
          have c9b0 : (Op.bytesLess a1.toList a0.toList) = true := c9
          clear c9
          obtain rfl := Option.some.inj H
          go_enter Tryd.func37, Tryd.ntmps37
          go_wp2_with (first | ((with_reducible refine gate_callee (f := 46) rfl ?_); refine goesL_ (some 8) rfl rfl Tryd.func46 (by kernel_rfl) rfl #[.string a0] rfl (by (try simp only [List.map_toArray, List.map_cons, List.map_nil]); first | done | rfl | (simp only [List.length_drop, List.length_take]; rfl)) ?_; (with_reducible refine (cmp_isNaN_string.calls a0 false _ A3.out).mono ?_); rintro e w' ⟨rfl, ⟨nd, rfl⟩⟩; refine ⟨_, rfl, ?_⟩) | ((with_reducible refine gate_callee (f := 46) rfl ?_); refine goesL_ (some 10) rfl rfl Tryd.func46 (by kernel_rfl) rfl #[.string a1] rfl (by (try simp only [List.map_toArray, List.map_cons, List.map_nil]); first | done | rfl | (simp only [List.length_drop, List.length_take]; rfl)) ?_; (with_reducible refine (cmp_isNaN_string.calls a1 false _ A4.out).mono ?_); rintro e w' ⟨rfl, ⟨nd, rfl⟩⟩; refine ⟨_, rfl, ?_⟩))
          go_ret
          exact ⟨by first | rfl | (simp; done) | (simp [*]; done), by repeat (first | exact Drawn0.refl _ | apply Drawn0.step)⟩
        · rw [if_neg c9] at H
          have c9b0 : (Op.bytesLess a1.toList a0.toList) = false := by simpa using c9
          clear c9
          obtain rfl := Option.some.inj H
          go_enter Tryd.func37, Tryd.ntmps37
          go_wp2_with (first | ((with_reducible refine gate_callee (f := 46) rfl ?_); refine goesL_ (some 8) rfl rfl Tryd.func46 (by kernel_rfl) rfl #[.string a0] rfl (by (try simp only [List.map_toArray, List.map_cons, List.map_nil]); first | done | rfl | (simp only [List.length_drop, List.length_take]; rfl)) ?_; (with_reducible refine (cmp_isNaN_string.calls a0 false _ A3.out).mono ?_); rintro e w' ⟨rfl, ⟨nd, rfl⟩⟩; refine ⟨_, rfl, ?_⟩) | ((with_reducible refine gate_callee (f := 46) rfl ?_); refine goesL_ (some 10) rfl rfl Tryd.func46 (by kernel_rfl) rfl #[.string a1] rfl (by (try simp only [List.map_toArray, List.map_cons, List.map_nil]); first | done | rfl | (simp only [List.length_drop, List.length_take]; rfl)) ?_; (with_reducible refine (cmp_isNaN_string.calls a1 false _ A4.out).mono ?_); rintro e w' ⟨rfl, ⟨nd, rfl⟩⟩; refine ⟨_, rfl, ?_⟩))
          go_ret
          exact ⟨by first | rfl | (simp; done) | (simp [*]; done), by repeat (first | exact Drawn0.refl _ | apply Drawn0.step)⟩
end Go.Proofs.YtlcgepmacgbciaaDoor.Q
