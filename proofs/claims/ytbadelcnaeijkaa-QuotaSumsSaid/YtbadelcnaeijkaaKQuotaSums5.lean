import Derived.Test.YtbadelcnaeijkaaKQuotaSums4
set_option linter.unusedVariables false
set_option linter.unusedSimpArgs false
section
namespace Go.Proofs.Ytbadelcnaeijkaa.Q
open Go.RowKit Go.Proofs.YtbadelcnaeijkaaW.PrintWords Go.Proofs.YtbadelcnaeijkaaW.PrintLast Go.Proofs.YtbadelcnaeijkaaW.PrintMore
attribute [local go_sem] max2_int min2_int max_two min_two max_three min_three max_four min_four
attribute [local go_sem ↓] isSome_setCell
attribute [local go_sem] string_gtr
set_option linter.unusedVariables false
set_option linter.unusedSimpArgs false
mutual
def tapearchivelaw32_QuotaSums.j0 : Nat → Int → List Int → Option (Bool)
 | 0, _, _ => none
 | k + 1, x0, x1 => tapearchivelaw32_QuotaSums.l0 k x0 x1 0 0
def tapearchivelaw32_QuotaSums.l0 : Nat → Int → List Int → Int → Int → Option (Bool)
 | 0, _, _, _, _ => none
 | k + 1, x0, x1, x5, x6 => if x6 < (x1.length : Int) then (if 0 ≤ x6 then (if (rd x1 x6) < 0 then ((tapearchivelaw32_awake.f k).bind fun t266 => (some t266)) else (if (rd x1 x6) > 1000000 then ((tapearchivelaw32_awake.f k).bind fun t268 => (some t268)) else (tapearchivelaw32_QuotaSums.l0 k x0 x1 (wrap64 (x5 + (rd x1 x6))) (wrap64 (x6 + 1))))) else (none)) else ((quota_Share.f x0 x1).bind fun bt270 => (if x0 < 0 then (tapearchivelaw32_QuotaSums.j2 k x0 x1 x5 bt270.1 bt270.2 true) else (if x0 > 1000000 then (tapearchivelaw32_QuotaSums.j2 k x0 x1 x5 bt270.1 bt270.2 true) else (tapearchivelaw32_QuotaSums.j2 k x0 x1 x5 bt270.1 bt270.2 (x5 == 0)))))
def tapearchivelaw32_QuotaSums.j2 : Nat → Int → List Int → Int → List Int → Int → Bool → Option (Bool)
 | 0, _, _, _, _, _, _ => none
 | k + 1, x0, x1, x5, x7, x8, x59 => if x59 = true then (if x8 = 0 then (if x0 = 0 then ((tapearchivelaw32_awake.f k).bind fun t274 => (some t274)) else (if x5 > 0 then ((tapearchivelaw32_awake.f k).bind fun t275 => (some t275)) else (some false))) else ((tapearchivelaw32_awake.f k).bind fun t276 => (some t276))) else (if x8 = 0 then (tapearchivelaw32_QuotaSums.j3 k x0 x1 x5 x7 ((x7.length : Int) != (x1.length : Int))) else (tapearchivelaw32_QuotaSums.j3 k x0 x1 x5 x7 true))
def tapearchivelaw32_QuotaSums.j3 : Nat → Int → List Int → Int → List Int → Bool → Option (Bool)
 | 0, _, _, _, _, _ => none
 | k + 1, x0, x1, x5, x7, x81 => if x81 = true then (some false) else (tapearchivelaw32_QuotaSums.l1 k x0 x1 x5 x7 0)
def tapearchivelaw32_QuotaSums.l1 : Nat → Int → List Int → Int → List Int → Int → Option (Bool)
 | 0, _, _, _, _, _ => none
 | k + 1, x0, x1, x5, x7, x9 => if x9 < (x7.length : Int) then (if 0 ≤ x9 then (if x9 < (x1.length : Int) then (if x5 = 0 then (none) else (if (rd x7 x9) < (wrap64 (Int.tdiv (wrap64 (x0 * (rd x1 x9))) x5)) then (tapearchivelaw32_QuotaSums.j5 k x0 x1 x5 x7 x9 true) else (if (rd x7 x9) > (wrap64 ((wrap64 (Int.tdiv (wrap64 (x0 * (rd x1 x9))) x5)) + 1)) then (tapearchivelaw32_QuotaSums.j5 k x0 x1 x5 x7 x9 true) else (tapearchivelaw32_QuotaSums.j5 k x0 x1 x5 x7 x9 (decide ((wrap64 ((rd x7 x9) * x5)) ≥ (wrap64 ((wrap64 (x0 * (rd x1 x9))) + x5)))))))) else (none)) else (none)) else (tapearchivelaw32_QuotaSums.l3 k x0 x7 0 0)
def tapearchivelaw32_QuotaSums.j5 : Nat → Int → List Int → Int → List Int → Int → Bool → Option (Bool)
 | 0, _, _, _, _, _, _ => none
 | k + 1, x0, x1, x5, x7, x9, x127 => if x127 = true then (some false) else (tapearchivelaw32_QuotaSums.l2 k x0 x1 x5 x7 x9 0)
def tapearchivelaw32_QuotaSums.l2 : Nat → Int → List Int → Int → List Int → Int → Int → Option (Bool)
 | 0, _, _, _, _, _, _ => none
 | k + 1, x0, x1, x5, x7, x9, x11 => if x11 < (x7.length : Int) then (if 0 ≤ x9 then (if x9 < (x1.length : Int) then (if 0 ≤ x11 then (if x11 < (x1.length : Int) then (if (rd x1 x9) > (rd x1 x11) then (if x9 < (x7.length : Int) then (if (rd x7 x9) < (rd x7 x11) then (some false) else (tapearchivelaw32_QuotaSums.l2 k x0 x1 x5 x7 x9 (wrap64 (x11 + 1)))) else (none)) else (tapearchivelaw32_QuotaSums.l2 k x0 x1 x5 x7 x9 (wrap64 (x11 + 1)))) else (none)) else (none)) else (none)) else (none)) else (tapearchivelaw32_QuotaSums.l1 k x0 x1 x5 x7 (wrap64 (x9 + 1)))
def tapearchivelaw32_QuotaSums.l3 : Nat → Int → List Int → Int → Int → Option (Bool)
 | 0, _, _, _, _ => none
 | k + 1, x0, x7, x12, x13 => if x13 < (x7.length : Int) then (if 0 ≤ x13 then (tapearchivelaw32_QuotaSums.l3 k x0 x7 (wrap64 (x12 + (rd x7 x13))) (wrap64 (x13 + 1))) else (none)) else (if x12 = x0 then ((tapearchivelaw32_awake.f k).bind fun t287 => (some t287)) else (some false))
end
def tapearchivelaw32_QuotaSums.f (k : Nat) (a0 : Int) (l1 : List Int) : Option (Bool) := if (l1.length : Int) > 40 then (if 40 ≤ (l1.length : Int) then (tapearchivelaw32_QuotaSums.j0 k a0 (l1.take 40)) else (none)) else (tapearchivelaw32_QuotaSums.j0 k a0 l1)
set_option maxHeartbeats 8000000 in
set_option maxRecDepth 100000 in
theorem tapearchivelaw32_QuotaSums.calls (k : Nat) (a0 : Int) (P1_ : Nat → Prop) (A1 : Option Addr) (c1 : Nat) (l1 : List Int) (r : Bool) (w : World) (HRT : Aside0 (r = true)) (hs1 : Kd.V (Kd.int .i64) 3 w w.heap.size (fun k_ => P1_ k_) (.slice A1 l1.length c1) l1) (h : tapearchivelaw32_QuotaSums.f k a0 l1 = some r) :
  Calls Try.prog 5 #[.int .i64 a0, .slice A1 l1.length c1] w fun e w' => e = .returned (.bool r) ∧ Below w.heap.size w w' := by
 have HO1 := am_ (show Kd.V (Kd.int .i64) 3 w w.heap.size (fun k_ => (P1_ k_ ∨ w.heap.size ≤ k_)) (.slice A1 l1.length c1) l1 from vm_ hs1 (fun k_ hk => .inl hk)); have HB := am_ (Below.refl w.heap.size w); have H : (if (l1.length : Int) > 40 then (if 40 ≤ (l1.length : Int) then (tapearchivelaw32_QuotaSums.j0 k a0 (l1.take 40)) else (none)) else (tapearchivelaw32_QuotaSums.j0 k a0 l1)) = some r := h; clear h; have HC3 := am_ H; clear H; go_enter Try.func5, Try.ntmps5
 go_upto_if 16 with (fail)
 repeat (go_quiet (fail); go_upto_if 16 with (fail))
 go_cut [1] (fun v1 wc => ∃ (kq : Nat) (x1_2 : List Int), Aside0 (tapearchivelaw32_QuotaSums.j0 kq a0 x1_2 = some r) ∧ Aside0 (kq ≤ k) ∧ Aside0 (Kd.V (Kd.int .i64) 3 wc w.heap.size (fun k_ => (P1_ k_ ∨ w.heap.size ≤ k_)) v1 x1_2) ∧ Aside0 (Below w.heap.size w wc))
 case first =>
  have H := HC3.out; clear HC3
  by_cases c4 : (l1.length : Int) > 40
  ·
   rw [if_pos c4] at H; have c4b0 : decide (40 < (l1.length : Int)) = true := de_ c4; have c4b1 : decide (40 < l1.length) = true := de_ (by omega); clear c4
   (first | rw [c4b0] | (simp only [i64_w, i32_w]; rw [c4b0]) | rw [c4b2] | rw [c4b1] | skip)
   by_cases c5 : 40 ≤ (l1.length : Int)
   ·
    rw [if_pos c5] at H; have c5b0 := eq_true c5; have c5b1 : decide (40 ≤ (l1.length : Int)) = true := de_ c5; clear c5; obtain ⟨y260, hy260⟩ : ∃ y_ : List Int, y_ = (l1.take 40) := ⟨_, rfl⟩; replace H : (tapearchivelaw32_QuotaSums.j0 k a0 y260) = some r := by first | (rw [hy260]; with_reducible exact H) | (have H2_ := (Option.bind_some _ _).symm.trans H; rw [hy260]; with_reducible exact H2_) | (have H2_ := (Option.bind_some _ _).symm.trans H; with_reducible exact H2_) | with_reducible exact H | (rw [hy260]; exact H) | exact H
    have Ny260 := am_ hy260; clear hy260; have H' := am_ H; clear H; have q6 : (40 : Int) ≤ ((l1.length : Int) : Int) := ot_ (by first | (with_reducible assumption) | assumption); obtain ⟨i06, hi06, _, hsz6, _⟩ := info_parts info3; have hroom6 : l1.length ≤ c1 := (Kd.V_reads' HO1.out).2.1; have hC6 : Kd.F (Kd.int .i64) _ _ A1 l1.length l1 := (Kd.V_at (base := w.heap.size) HO1.out).2.2; have hcut6 := cut_to (P := Try.prog) 33 3 .i64 Try.underlying33 hi06 A1 l1.length c1 40 (by omega) q6 hroom6; have hr6 := Kd.F_take (m := 40) hC6 (by omega); have hy6 : y260.length = (40 : Int).toNat := (by rw [Ny260.out, List.length_take]; omega); rw [← Ny260.out] at hr6; rw [← hy6] at hcut6; have HO264 := am_ (show Kd.V (Kd.int .i64) 3 _ w.heap.size _ (.slice A1 y260.length c1) y260 from Kd.V_mk (by omega) hr6); have HC264 := am_ (show y260.length ≤ c1 from by omega); clear hr6 hC6 hroom6 hi06 hsz6; have KY6 := am_ hy6; clear hy6; replace q6 := eq_true q6; go_wp2
    repeat (go_quiet (fail); try go_wp2)
    go_meet
    case rel => exact ⟨_, (y260), H', ⟨by first | omega | exact Nat.le_refl _⟩, ⟨by (with_reducible repeat (first | apply va_ | apply vn_ | apply vd_)); exact HO264.out⟩, ⟨pb0_ HB.out⟩⟩
   ·
    rw [if_neg c5] at H; exact absurd H (by simp)
  ·
   rw [if_neg c4] at H; have c4b0 : decide (40 < (l1.length : Int)) = false := df_ c4; have c4b1 : decide (40 < l1.length) = false := df_ (by omega); clear c4
   (first | rw [c4b0] | (simp only [i64_w, i32_w]; rw [c4b0]) | rw [c4b2] | rw [c4b1] | skip)
   have H' := am_ H; clear H; go_wp2
   repeat (go_quiet (fail); try go_wp2)
   go_meet
   case rel => exact ⟨_, (l1), H', ⟨by first | omega | exact Nat.le_refl _⟩, ⟨by (with_reducible repeat (first | apply va_ | apply vn_ | apply vd_)); exact HO1.out⟩, ⟨pb0_ HB.out⟩⟩
 case rest =>
  clear HC3
  try clear c1
  try clear p2
  try clear c4
  try clear c4b0
  try clear c4b1
  try clear c4b2
  try clear c5
  try clear c5b0
  try clear c5b1
  try clear q6
  try clear q6
  obtain ⟨kq, x1_2, HA, HJ2, HO_1, HB⟩ := hcut; cases kq with
  | zero => exact absurd HA.out (by simp [tapearchivelaw32_QuotaSums.j0])
  | succ kj2 =>
   have H := HA.out; clear HA; simp only [tapearchivelaw32_QuotaSums.j0] at H; have H' := am_ H; clear H; go_wp2
   repeat (go_quiet (fail); try go_wp2)
   go_loopg [5, 6] kj2 (fun kq v5 v6 w' => ∃ (x5_2 : Int) (x6_2 : Int), v5 = .int .i64 x5_2 ∧ v6 = .int .i64 x6_2 ∧ Aside0 (tapearchivelaw32_QuotaSums.l0 kq a0 x1_2 x5_2 x6_2 = some r) ∧ Aside0 (kq ≤ kj2) ∧ Aside0 (Kd.V (Kd.int .i64) 3 w' w.heap.size (fun k_ => (P1_ k_ ∨ w.heap.size ≤ k_)) u1 x1_2) ∧ Aside0 (Below w.heap.size w w'))
   case atStart => exact ⟨(0), (0), (by first | rfl | (simp; done) | (simp [*]; done)), (by first | rfl | (simp; done) | (simp [*]; done)), H', ⟨Nat.le_refl _⟩, ⟨by (with_reducible repeat (first | apply va_ | apply vn_ | apply vd_)); exact HO_1.out⟩, ⟨pb0_ HB.out⟩⟩
   case round =>
    clear H'
    try clear c1
    try clear p2
    try clear c4
    try clear c4b0
    try clear c4b1
    try clear c4b2
    try clear c5
    try clear c5b0
    try clear c5b1
    try clear q6
    try clear p2
    try clear q6
    obtain ⟨x5_2, x6_2, rfl, rfl, HA, HK2, HO_1, HB⟩ := hrel; cases gk with
    | zero => exact absurd HA.out (by simp [tapearchivelaw32_QuotaSums.l0])
    | succ k2 =>
     have H := HA.out; clear HA; simp only [tapearchivelaw32_QuotaSums.l0] at H
     by_cases c7 : x6_2 < (x1_2.length : Int)
     ·
      rw [if_pos c7] at H; have c7b0 : decide (x6_2 < (x1_2.length : Int)) = true := de_ c7; clear c7
      by_cases c8 : 0 ≤ x6_2
      ·
       rw [if_pos c8] at H; have c8b0 : decide (0 ≤ x6_2) = true := de_ c8; clear c8
       by_cases c9 : (rd x1_2 x6_2) < 0
       ·
        rw [if_pos c9] at H; have c9b0 : decide ((rd x1_2 x6_2) < 0) = true := de_ c9; clear c9; replace H := Option.bind_eq_some_iff.mp H; obtain ⟨t266, A100, H⟩ := H; replace H : (some t266) = some r := H; have A10 := am_ A100; clear A100; obtain rfl := si_ H; obtain ⟨Ao11, co11, eo11⟩ := Kd.V_slice HO_1.out; subst eo11; have p265 : 0 ≤ (x6_2 : Int) := ot_ (by first | (with_reducible assumption) | assumption); have q265 : x6_2 < (x1_2.length : Int) := ot_ (by first | (with_reducible assumption) | assumption); obtain ⟨ad265, e265, hx265_0⟩ := Kd.at_int (Kd.V_reads' HO_1.out).2.2 x6_2 p265 q265; cases e265; replace p265 := eq_true p265; replace q265 := eq_true q265
        go_wp2_with (first | (go_at_call 13; (with_reducible refine (tapearchivelaw32_awake.calls k2  t266 _ ?side1 A10.out).mono ?_); (case side1 => exact HRT); rintro e w12 ⟨rfl, hb⟩; have n0_ := am_ (vb_ (pV_ HO_1.out) hb); have n1_ := am_ (sp_ (pb0_ HB.out) hb); clear HO_1; clear HB; have HO_1 := n0_; have HB := n1_; clear n0_ n1_; (try clear hb); (try clear hb2); (try clear hk); (try clear hi)))
        repeat (go_quiet (first | (go_at_call 13; (with_reducible refine (tapearchivelaw32_awake.calls k2  t266 _ ?side1 A10.out).mono ?_); (case side1 => exact HRT); rintro e w12 ⟨rfl, hb⟩; have n0_ := am_ (vb_ (pV_ HO_1.out) hb); have n1_ := am_ (sp_ (pb0_ HB.out) hb); clear HO_1; clear HB; have HO_1 := n0_; have HB := n1_; clear n0_ n1_; (try clear hb); (try clear hb2); (try clear hk); (try clear hi))); try go_wp2_with (first | (go_at_call 13; (with_reducible refine (tapearchivelaw32_awake.calls k2  t266 _ ?side1 A10.out).mono ?_); (case side1 => exact HRT); rintro e w12 ⟨rfl, hb⟩; have n0_ := am_ (vb_ (pV_ HO_1.out) hb); have n1_ := am_ (sp_ (pb0_ HB.out) hb); clear HO_1; clear HB; have HO_1 := n0_; have HB := n1_; clear n0_ n1_; (try clear hb); (try clear hb2); (try clear hk); (try clear hi))))
        go_ret; exact ⟨by first | rfl | (simp [errW_none, errW_some] <;> rfl) | (simp [*, errW_none, errW_some] <;> rfl), pb0_ HB.out⟩
       ·
        rw [if_neg c9] at H; have c9b0 : decide ((rd x1_2 x6_2) < 0) = false := df_ c9; clear c9
        by_cases c13 : (rd x1_2 x6_2) > 1000000
        ·
         rw [if_pos c13] at H; have c13b0 : decide (1000000 < (rd x1_2 x6_2)) = true := de_ c13; clear c13; replace H := Option.bind_eq_some_iff.mp H; obtain ⟨t268, A140, H⟩ := H; replace H : (some t268) = some r := H; have A14 := am_ A140; clear A140; obtain rfl := si_ H; obtain ⟨Ao15, co15, eo15⟩ := Kd.V_slice HO_1.out; subst eo15; have p265 : 0 ≤ (x6_2 : Int) := ot_ (by first | (with_reducible assumption) | assumption); have q265 : x6_2 < (x1_2.length : Int) := ot_ (by first | (with_reducible assumption) | assumption); obtain ⟨ad265, e265, hx265_0⟩ := Kd.at_int (Kd.V_reads' HO_1.out).2.2 x6_2 p265 q265; cases e265; replace p265 := eq_true p265; replace q265 := eq_true q265; have p267 : 0 ≤ (x6_2 : Int) := ot_ (by first | (with_reducible assumption) | assumption); have q267 : x6_2 < (x1_2.length : Int) := ot_ (by first | (with_reducible assumption) | assumption); obtain ⟨ad267, e267, hx267_0⟩ := Kd.at_int (Kd.V_reads' HO_1.out).2.2 x6_2 p267 q267; obtain rfl : ad265 = ad267 := (by injection e267); replace p267 := eq_true p267; replace q267 := eq_true q267
         go_wp2_with (first | (go_at_call 13; (with_reducible refine (tapearchivelaw32_awake.calls k2  t268 _ ?side1 A14.out).mono ?_); (case side1 => exact HRT); rintro e w16 ⟨rfl, hb⟩; have n0_ := am_ (vb_ (pV_ HO_1.out) hb); have n1_ := am_ (sp_ (pb0_ HB.out) hb); clear HO_1; clear HB; have HO_1 := n0_; have HB := n1_; clear n0_ n1_; (try clear hb); (try clear hb2); (try clear hk); (try clear hi)))
         repeat (go_quiet (first | (go_at_call 13; (with_reducible refine (tapearchivelaw32_awake.calls k2  t268 _ ?side1 A14.out).mono ?_); (case side1 => exact HRT); rintro e w16 ⟨rfl, hb⟩; have n0_ := am_ (vb_ (pV_ HO_1.out) hb); have n1_ := am_ (sp_ (pb0_ HB.out) hb); clear HO_1; clear HB; have HO_1 := n0_; have HB := n1_; clear n0_ n1_; (try clear hb); (try clear hb2); (try clear hk); (try clear hi))); try go_wp2_with (first | (go_at_call 13; (with_reducible refine (tapearchivelaw32_awake.calls k2  t268 _ ?side1 A14.out).mono ?_); (case side1 => exact HRT); rintro e w16 ⟨rfl, hb⟩; have n0_ := am_ (vb_ (pV_ HO_1.out) hb); have n1_ := am_ (sp_ (pb0_ HB.out) hb); clear HO_1; clear HB; have HO_1 := n0_; have HB := n1_; clear n0_ n1_; (try clear hb); (try clear hb2); (try clear hk); (try clear hi))))
         go_ret; exact ⟨by first | rfl | (simp [errW_none, errW_some] <;> rfl) | (simp [*, errW_none, errW_some] <;> rfl), pb0_ HB.out⟩
        ·
         rw [if_neg c13] at H; have c13b0 : decide (1000000 < (rd x1_2 x6_2)) = false := df_ c13; clear c13; have H' := am_ H; clear H; obtain ⟨Ao17, co17, eo17⟩ := Kd.V_slice HO_1.out; subst eo17; have p265 : 0 ≤ (x6_2 : Int) := ot_ (by first | (with_reducible assumption) | assumption); have q265 : x6_2 < (x1_2.length : Int) := ot_ (by first | (with_reducible assumption) | assumption); obtain ⟨ad265, e265, hx265_0⟩ := Kd.at_int (Kd.V_reads' HO_1.out).2.2 x6_2 p265 q265; cases e265; replace p265 := eq_true p265; replace q265 := eq_true q265; have p267 : 0 ≤ (x6_2 : Int) := ot_ (by first | (with_reducible assumption) | assumption); have q267 : x6_2 < (x1_2.length : Int) := ot_ (by first | (with_reducible assumption) | assumption); obtain ⟨ad267, e267, hx267_0⟩ := Kd.at_int (Kd.V_reads' HO_1.out).2.2 x6_2 p267 q267; obtain rfl : ad265 = ad267 := (by injection e267); replace p267 := eq_true p267; replace q267 := eq_true q267; have p269 : 0 ≤ (x6_2 : Int) := ot_ (by first | (with_reducible assumption) | assumption); have q269 : x6_2 < (x1_2.length : Int) := ot_ (by first | (with_reducible assumption) | assumption); obtain ⟨ad269, e269, hx269_0⟩ := Kd.at_int (Kd.V_reads' HO_1.out).2.2 x6_2 p269 q269; obtain rfl : ad265 = ad269 := (by injection e269); replace p269 := eq_true p269; replace q269 := eq_true q269; go_wp2
         repeat (go_quiet (fail); try go_wp2)
         go_roundg k2
         case measure => have := HJ2.out; have := HK2.out; omega
         case rel => exact ⟨(wrap64 (x5_2 + (rd x1_2 x6_2))), (wrap64 (x6_2 + 1)), (by first | rfl | (simp; done) | (simp [*]; done)), (by first | rfl | (simp; done) | (simp [*]; done)), H', ⟨by have := HJ2.out; have := HK2.out; omega⟩, ⟨by (with_reducible repeat (first | apply va_ | apply vn_ | apply vd_)); exact HO_1.out⟩, ⟨pb0_ HB.out⟩⟩
      ·
       rw [if_neg c8] at H; exact absurd H (by simp)
     ·
      rw [if_neg c7] at H; have c7b0 : decide (x6_2 < (x1_2.length : Int)) = false := df_ c7; clear c7; replace H := Option.bind_eq_some_iff.mp H; obtain ⟨⟨t270, t271⟩, A180, H⟩ := H; replace H : (if a0 < 0 then (tapearchivelaw32_QuotaSums.j2 k2 a0 x1_2 x5_2 t270 t271 true) else (if a0 > 1000000 then (tapearchivelaw32_QuotaSums.j2 k2 a0 x1_2 x5_2 t270 t271 true) else (tapearchivelaw32_QuotaSums.j2 k2 a0 x1_2 x5_2 t270 t271 (x5_2 == 0)))) = some r := H; have A18 := am_ A180; clear A180; have HC19 := am_ H; clear H; obtain ⟨Ao20, co20, eo20⟩ := Kd.V_slice HO_1.out; subst eo20
      go_upto_region 11 with (first | (go_at_call 14; (with_reducible refine (quota_Share.calls a0 _ _ x1_2 t270 t271 _ ?side1 ?side2 A18.out).mono ?_); (case side1 => repeat (first | exact (Kd.V_reads' HO_1.out).2.2 | (with_reducible refine Kd.C_alloc ?_ _) | (with_reducible refine Kd.C_drewN ?_ _) | (with_reducible refine Kd.C_drew ?_))); (case side2 => exact (Kd.V_reads' HO_1.out).2.1); rintro e w21 ⟨v272, rfl, ho0, hb⟩; have n0_ := am_ (Kd.V_elder' (pV_ HO_1.out) (Kd.R_base ho0) hb); have n1_ := am_ (Kd.R_lower (Kd.R_newM (M := fun k_ => (w.heap.size ≤ k_)) ho0 (bz_ (pb0_ HB.out)) (fun k_ h_ => h_)) (bz_ (pb0_ HB.out))); have n2_ := am_ (sp_ (pb0_ HB.out) hb); clear HO_1; clear HB; have HO_1 := n0_; have HO273 := n1_; have HB := n2_; clear n0_ n1_ n2_; (try clear hb); (try clear hb2); (try clear hk); (try clear hi); (try clear ho0)))
      repeat (go_quiet (first | (go_at_call 14; (with_reducible refine (quota_Share.calls a0 _ _ x1_2 t270 t271 _ ?side1 ?side2 A18.out).mono ?_); (case side1 => repeat (first | exact (Kd.V_reads' HO_1.out).2.2 | (with_reducible refine Kd.C_alloc ?_ _) | (with_reducible refine Kd.C_drewN ?_ _) | (with_reducible refine Kd.C_drew ?_))); (case side2 => exact (Kd.V_reads' HO_1.out).2.1); rintro e w21 ⟨v272, rfl, ho0, hb⟩; have n0_ := am_ (Kd.V_elder' (pV_ HO_1.out) (Kd.R_base ho0) hb); have n1_ := am_ (Kd.R_lower (Kd.R_newM (M := fun k_ => (w.heap.size ≤ k_)) ho0 (bz_ (pb0_ HB.out)) (fun k_ h_ => h_)) (bz_ (pb0_ HB.out))); have n2_ := am_ (sp_ (pb0_ HB.out) hb); clear HO_1; clear HB; have HO_1 := n0_; have HO273 := n1_; have HB := n2_; clear n0_ n1_ n2_; (try clear hb); (try clear hb2); (try clear hk); (try clear hi); (try clear ho0))); go_upto_region 11 with (first | (go_at_call 14; (with_reducible refine (quota_Share.calls a0 _ _ x1_2 t270 t271 _ ?side1 ?side2 A18.out).mono ?_); (case side1 => repeat (first | exact (Kd.V_reads' HO_1.out).2.2 | (with_reducible refine Kd.C_alloc ?_ _) | (with_reducible refine Kd.C_drewN ?_ _) | (with_reducible refine Kd.C_drew ?_))); (case side2 => exact (Kd.V_reads' HO_1.out).2.1); rintro e w21 ⟨v272, rfl, ho0, hb⟩; have n0_ := am_ (Kd.V_elder' (pV_ HO_1.out) (Kd.R_base ho0) hb); have n1_ := am_ (Kd.R_lower (Kd.R_newM (M := fun k_ => (w.heap.size ≤ k_)) ho0 (bz_ (pb0_ HB.out)) (fun k_ h_ => h_)) (bz_ (pb0_ HB.out))); have n2_ := am_ (sp_ (pb0_ HB.out) hb); clear HO_1; clear HB; have HO_1 := n0_; have HO273 := n1_; have HB := n2_; clear n0_ n1_ n2_; (try clear hb); (try clear hb2); (try clear hk); (try clear hi); (try clear ho0))))
      (try simp only [Act.put, lt1_, lt2_, lt3_])
      go_cut [59] (fun v59 wc => ∃ (kq : Nat) (x59_18 : Bool), v59 = .bool x59_18 ∧ Aside0 (tapearchivelaw32_QuotaSums.j2 kq a0 x1_2 x5_2 t270 t271 x59_18 = some r) ∧ Aside0 (kq ≤ k2) ∧ Aside0 (Kd.V (Kd.int .i64) 3 wc w.heap.size (fun k_ => (P1_ k_ ∨ w.heap.size ≤ k_) ∧ some k_ ≠ (v272 : Value).ownBlock) (.slice Ao20 x1_2.length co20) x1_2) ∧ Aside0 (Kd.R (Kd.int .i64) 3 wc w.heap.size (fun k_ => (w.heap.size ≤ k_)) v272 t270) ∧ Aside0 (Below w.heap.size w wc))
      case first =>
       have H := HC19.out; clear HC19
       by_cases c22 : a0 < 0
       ·
        rw [if_pos c22] at H; have c22b0 : decide (a0 < 0) = true := de_ c22; clear c22
        (first | rw [c22b0] | (simp only [i64_w, i32_w]; rw [c22b0]) | rw [c22b2] | rw [c22b1] | skip)
        have H' := am_ H; clear H; go_wp2
        repeat (go_quiet (fail); try go_wp2)
        go_meet
        case rel => exact ⟨_, (true), (by first | rfl | (simp; done) | (simp [*]; done)), H', ⟨by have := HJ2.out; have := HK2.out; first | omega | exact Nat.le_refl _⟩, ⟨by (with_reducible repeat (first | apply va_ | apply vn_ | apply vd_)); exact HO_1.out⟩, ⟨by (with_reducible repeat (first | apply Kd.R_alloc | apply Kd.R_drewN | apply Kd.R_drew)); exact Kd.R_mono HO273.out (fun _ hk => hk.1)⟩, ⟨pb0_ HB.out⟩⟩
       ·
        rw [if_neg c22] at H; have c22b0 : decide (a0 < 0) = false := df_ c22; clear c22
        (first | rw [c22b0] | (simp only [i64_w, i32_w]; rw [c22b0]) | rw [c22b2] | rw [c22b1] | skip)
        by_cases c23 : a0 > 1000000
        ·
         rw [if_pos c23] at H; have c23b0 : decide (1000000 < a0) = true := de_ c23; clear c23; have H' := am_ H; clear H; go_wp2
         repeat (go_quiet (fail); try go_wp2)
         go_meet
         case rel => exact ⟨_, (true), (by first | rfl | (simp; done) | (simp [*]; done)), H', ⟨by have := HJ2.out; have := HK2.out; first | omega | exact Nat.le_refl _⟩, ⟨by (with_reducible repeat (first | apply va_ | apply vn_ | apply vd_)); exact HO_1.out⟩, ⟨by (with_reducible repeat (first | apply Kd.R_alloc | apply Kd.R_drewN | apply Kd.R_drew)); exact Kd.R_mono HO273.out (fun _ hk => hk.1)⟩, ⟨pb0_ HB.out⟩⟩
        ·
         rw [if_neg c23] at H; have c23b0 : decide (1000000 < a0) = false := df_ c23; clear c23; have H' := am_ H; clear H; go_wp2
         repeat (go_quiet (fail); try go_wp2)
         go_meet
         case rel => exact ⟨_, ((x5_2 == 0)), (by first | rfl | (simp; done) | (simp [*]; done)), H', ⟨by have := HJ2.out; have := HK2.out; first | omega | exact Nat.le_refl _⟩, ⟨by (with_reducible repeat (first | apply va_ | apply vn_ | apply vd_)); exact HO_1.out⟩, ⟨by (with_reducible repeat (first | apply Kd.R_alloc | apply Kd.R_drewN | apply Kd.R_drew)); exact Kd.R_mono HO273.out (fun _ hk => hk.1)⟩, ⟨pb0_ HB.out⟩⟩
      case rest =>
       clear HC19
       try clear c1
       try clear c2
       try clear p2
       try clear q2
       try clear hx2
       try clear c4
       try clear c4b0
       try clear c4b1
       try clear c4b2
       try clear c5
       try clear c5b0
       try clear c5b1
       try clear p6
       try clear q6
       try clear c7
       try clear c7b0
       try clear c8
       try clear c8b0
       try clear c9
       try clear c9b0
       try clear c13
       try clear c13b0
       try clear c22
       try clear c22b0
       try clear c22b1
       try clear c22b2
       try clear c23
       try clear c23b0
       try clear hx265_0
       try clear hx267_0
       try clear hx269_0
       try clear p2
       try clear p265
       try clear p267
       try clear p269
       try clear q265
       try clear q267
       try clear q269
       try clear q6
       obtain ⟨kq, x59_18, rfl, HA, HJ18, HO_1, HO_7, HB⟩ := hcut; cases kq with
       | zero => exact absurd HA.out (by simp [tapearchivelaw32_QuotaSums.j2])
       | succ kj18 =>
        have H := HA.out; clear HA; simp only [tapearchivelaw32_QuotaSums.j2] at H
        by_cases c24 : x59_18 = true
        ·
         subst c24; have H1 : (if t271 = 0 then (if a0 = 0 then ((tapearchivelaw32_awake.f kj18).bind fun t274 => (some t274)) else (if x5_2 > 0 then ((tapearchivelaw32_awake.f kj18).bind fun t275 => (some t275)) else (some false))) else ((tapearchivelaw32_awake.f kj18).bind fun t276 => (some t276))) = some r := by rw [if_pos rfl] at H; exact H
         clear H; have H := H1; clear H1
         by_cases c25 : t271 = 0
         ·
          rw [if_pos c25] at H; have c25b0 : (t271 == 0) = true := beq_iff_eq.mpr c25; have c25b1 : (t271 != 0) = false := bne_eq_false_iff_eq.mpr c25; clear c25
          by_cases c26 : a0 = 0
          ·
           rw [if_pos c26] at H; have c26b0 : (a0 == 0) = true := beq_iff_eq.mpr c26; have c26b1 : (a0 != 0) = false := bne_eq_false_iff_eq.mpr c26; clear c26; replace H := Option.bind_eq_some_iff.mp H; obtain ⟨t274, A270, H⟩ := H; replace H : (some t274) = some r := H; have A27 := am_ A270; clear A270; obtain rfl := si_ H
           go_wp2_with (first | (go_at_call 13; (with_reducible refine (tapearchivelaw32_awake.calls kj18  t274 _ ?side1 A27.out).mono ?_); (case side1 => exact HRT); rintro e w28 ⟨rfl, hb⟩; have n0_ := am_ (vb_ (pV_ HO_1.out) hb); have n1_ := am_ (Kd.R_below (pR_ HO_7.out) hb); have n2_ := am_ (sp_ (pb0_ HB.out) hb); clear HO_1; clear HO_7; clear HB; have HO_1 := n0_; have HO_7 := n1_; have HB := n2_; clear n0_ n1_ n2_; (try clear hb); (try clear hb2); (try clear hk); (try clear hi)))
           repeat (go_quiet (first | (go_at_call 13; (with_reducible refine (tapearchivelaw32_awake.calls kj18  t274 _ ?side1 A27.out).mono ?_); (case side1 => exact HRT); rintro e w28 ⟨rfl, hb⟩; have n0_ := am_ (vb_ (pV_ HO_1.out) hb); have n1_ := am_ (Kd.R_below (pR_ HO_7.out) hb); have n2_ := am_ (sp_ (pb0_ HB.out) hb); clear HO_1; clear HO_7; clear HB; have HO_1 := n0_; have HO_7 := n1_; have HB := n2_; clear n0_ n1_ n2_; (try clear hb); (try clear hb2); (try clear hk); (try clear hi))); try go_wp2_with (first | (go_at_call 13; (with_reducible refine (tapearchivelaw32_awake.calls kj18  t274 _ ?side1 A27.out).mono ?_); (case side1 => exact HRT); rintro e w28 ⟨rfl, hb⟩; have n0_ := am_ (vb_ (pV_ HO_1.out) hb); have n1_ := am_ (Kd.R_below (pR_ HO_7.out) hb); have n2_ := am_ (sp_ (pb0_ HB.out) hb); clear HO_1; clear HO_7; clear HB; have HO_1 := n0_; have HO_7 := n1_; have HB := n2_; clear n0_ n1_ n2_; (try clear hb); (try clear hb2); (try clear hk); (try clear hi))))
           go_ret; exact ⟨by first | rfl | (simp [errW_none, errW_some] <;> rfl) | (simp [*, errW_none, errW_some] <;> rfl), pb0_ HB.out⟩
          ·
           rw [if_neg c26] at H; have c26b0 : (a0 == 0) = false := beq_eq_false_iff_ne.mpr c26; have c26b1 : (a0 != 0) = true := bne_iff_ne.mpr c26
           by_cases c29 : x5_2 > 0
           ·
            rw [if_pos c29] at H; have c29b0 : decide (0 < x5_2) = true := de_ c29; clear c29; replace H := Option.bind_eq_some_iff.mp H; obtain ⟨t275, A300, H⟩ := H; replace H : (some t275) = some r := H; have A30 := am_ A300; clear A300; obtain rfl := si_ H
            go_wp2_with (first | (go_at_call 13; (with_reducible refine (tapearchivelaw32_awake.calls kj18  t275 _ ?side1 A30.out).mono ?_); (case side1 => exact HRT); rintro e w31 ⟨rfl, hb⟩; have n0_ := am_ (vb_ (pV_ HO_1.out) hb); have n1_ := am_ (Kd.R_below (pR_ HO_7.out) hb); have n2_ := am_ (sp_ (pb0_ HB.out) hb); clear HO_1; clear HO_7; clear HB; have HO_1 := n0_; have HO_7 := n1_; have HB := n2_; clear n0_ n1_ n2_; (try clear hb); (try clear hb2); (try clear hk); (try clear hi)))
            repeat (go_quiet (first | (go_at_call 13; (with_reducible refine (tapearchivelaw32_awake.calls kj18  t275 _ ?side1 A30.out).mono ?_); (case side1 => exact HRT); rintro e w31 ⟨rfl, hb⟩; have n0_ := am_ (vb_ (pV_ HO_1.out) hb); have n1_ := am_ (Kd.R_below (pR_ HO_7.out) hb); have n2_ := am_ (sp_ (pb0_ HB.out) hb); clear HO_1; clear HO_7; clear HB; have HO_1 := n0_; have HO_7 := n1_; have HB := n2_; clear n0_ n1_ n2_; (try clear hb); (try clear hb2); (try clear hk); (try clear hi))); try go_wp2_with (first | (go_at_call 13; (with_reducible refine (tapearchivelaw32_awake.calls kj18  t275 _ ?side1 A30.out).mono ?_); (case side1 => exact HRT); rintro e w31 ⟨rfl, hb⟩; have n0_ := am_ (vb_ (pV_ HO_1.out) hb); have n1_ := am_ (Kd.R_below (pR_ HO_7.out) hb); have n2_ := am_ (sp_ (pb0_ HB.out) hb); clear HO_1; clear HO_7; clear HB; have HO_1 := n0_; have HO_7 := n1_; have HB := n2_; clear n0_ n1_ n2_; (try clear hb); (try clear hb2); (try clear hk); (try clear hi))))
            go_ret; exact ⟨by first | rfl | (simp [errW_none, errW_some] <;> rfl) | (simp [*, errW_none, errW_some] <;> rfl), pb0_ HB.out⟩
           ·
            rw [if_neg c29] at H; have c29b0 : decide (0 < x5_2) = false := df_ c29; clear c29; exact absurd ((si_ H).trans HRT.out) Bool.false_ne_true
         ·
          rw [if_neg c25] at H; have c25b0 : (t271 == 0) = false := beq_eq_false_iff_ne.mpr c25; have c25b1 : (t271 != 0) = true := bne_iff_ne.mpr c25; replace H := Option.bind_eq_some_iff.mp H; obtain ⟨t276, A320, H⟩ := H; replace H : (some t276) = some r := H; have A32 := am_ A320; clear A320; obtain rfl := si_ H
          go_wp2_with (first | (go_at_call 13; (with_reducible refine (tapearchivelaw32_awake.calls kj18  t276 _ ?side1 A32.out).mono ?_); (case side1 => exact HRT); rintro e w33 ⟨rfl, hb⟩; have n0_ := am_ (vb_ (pV_ HO_1.out) hb); have n1_ := am_ (Kd.R_below (pR_ HO_7.out) hb); have n2_ := am_ (sp_ (pb0_ HB.out) hb); clear HO_1; clear HO_7; clear HB; have HO_1 := n0_; have HO_7 := n1_; have HB := n2_; clear n0_ n1_ n2_; (try clear hb); (try clear hb2); (try clear hk); (try clear hi)))
          repeat (go_quiet (first | (go_at_call 13; (with_reducible refine (tapearchivelaw32_awake.calls kj18  t276 _ ?side1 A32.out).mono ?_); (case side1 => exact HRT); rintro e w33 ⟨rfl, hb⟩; have n0_ := am_ (vb_ (pV_ HO_1.out) hb); have n1_ := am_ (Kd.R_below (pR_ HO_7.out) hb); have n2_ := am_ (sp_ (pb0_ HB.out) hb); clear HO_1; clear HO_7; clear HB; have HO_1 := n0_; have HO_7 := n1_; have HB := n2_; clear n0_ n1_ n2_; (try clear hb); (try clear hb2); (try clear hk); (try clear hi))); try go_wp2_with (first | (go_at_call 13; (with_reducible refine (tapearchivelaw32_awake.calls kj18  t276 _ ?side1 A32.out).mono ?_); (case side1 => exact HRT); rintro e w33 ⟨rfl, hb⟩; have n0_ := am_ (vb_ (pV_ HO_1.out) hb); have n1_ := am_ (Kd.R_below (pR_ HO_7.out) hb); have n2_ := am_ (sp_ (pb0_ HB.out) hb); clear HO_1; clear HO_7; clear HB; have HO_1 := n0_; have HO_7 := n1_; have HB := n2_; clear n0_ n1_ n2_; (try clear hb); (try clear hb2); (try clear hk); (try clear hi))))
          go_ret; exact ⟨by first | rfl | (simp [errW_none, errW_some] <;> rfl) | (simp [*, errW_none, errW_some] <;> rfl), pb0_ HB.out⟩
        ·
         replace c24 := Bool.eq_false_iff.mpr c24; subst c24; have H1 : (if t271 = 0 then (tapearchivelaw32_QuotaSums.j3 kj18 a0 x1_2 x5_2 t270 ((t270.length : Int) != (x1_2.length : Int))) else (tapearchivelaw32_QuotaSums.j3 kj18 a0 x1_2 x5_2 t270 true)) = some r := by rw [if_neg (show ¬ (false = true) by decide)] at H; exact H
         clear H; have H := H1; clear H1; have HC34 := am_ H; clear H
         go_upto_region 13 with (fail)
         repeat (go_quiet (fail); go_upto_region 13 with (fail))
         go_cut [81] (fun v81 wc => ∃ (kq : Nat) (x81_33 : Bool), v81 = .bool x81_33 ∧ Aside0 (tapearchivelaw32_QuotaSums.j3 kq a0 x1_2 x5_2 t270 x81_33 = some r) ∧ Aside0 (kq ≤ kj18) ∧ Aside0 (Kd.V (Kd.int .i64) 3 wc w.heap.size (fun k_ => (P1_ k_ ∨ w.heap.size ≤ k_) ∧ some k_ ≠ (v272 : Value).ownBlock) (.slice Ao20 x1_2.length co20) x1_2) ∧ Aside0 (Kd.R (Kd.int .i64) 3 wc w.heap.size (fun k_ => (w.heap.size ≤ k_)) v272 t270) ∧ Aside0 (Below w.heap.size w wc))
         case first =>
          have H := HC34.out; clear HC34
          by_cases c35 : t271 = 0
          ·
           rw [if_pos c35] at H; have c35b0 : (t271 == 0) = true := beq_iff_eq.mpr c35; have c35b1 : (t271 != 0) = false := bne_eq_false_iff_eq.mpr c35; clear c35
           (first | rw [c35b0] | (simp only [i64_w, i32_w]; rw [c35b0]) | rw [c35b2] | rw [c35b1] | skip)
           have H' := am_ H; clear H; obtain ⟨Ao36, co36, eo36⟩ := Kd.R_slice HO_7.out; subst eo36; go_wp2
           repeat (go_quiet (fail); try go_wp2)
           go_meet
           case rel => exact ⟨_, (((t270.length : Int) != (x1_2.length : Int))), (by first | rfl | (simp; done) | (simp [*]; done)), H', ⟨by have := HJ2.out; have := HK2.out; have := HJ18.out; first | omega | exact Nat.le_refl _⟩, ⟨by (with_reducible repeat (first | apply va_ | apply vn_ | apply vd_)); exact HO_1.out⟩, ⟨by (with_reducible repeat (first | apply Kd.R_alloc | apply Kd.R_drewN | apply Kd.R_drew)); exact HO_7.out⟩, ⟨pb0_ HB.out⟩⟩
          ·
           rw [if_neg c35] at H; have c35b0 : (t271 == 0) = false := beq_eq_false_iff_ne.mpr c35; have c35b1 : (t271 != 0) = true := bne_iff_ne.mpr c35
           (first | rw [c35b0] | (simp only [i64_w, i32_w]; rw [c35b0]) | rw [c35b2] | rw [c35b1] | skip)
           have H' := am_ H; clear H; go_wp2
           repeat (go_quiet (fail); try go_wp2)
           go_meet
           case rel => exact ⟨_, (true), (by first | rfl | (simp; done) | (simp [*]; done)), H', ⟨by have := HJ2.out; have := HK2.out; have := HJ18.out; first | omega | exact Nat.le_refl _⟩, ⟨by (with_reducible repeat (first | apply va_ | apply vn_ | apply vd_)); exact HO_1.out⟩, ⟨by (with_reducible repeat (first | apply Kd.R_alloc | apply Kd.R_drewN | apply Kd.R_drew)); exact HO_7.out⟩, ⟨pb0_ HB.out⟩⟩
         case rest =>
          clear HC34
          try clear c1
          try clear c2
          try clear p2
          try clear q2
          try clear hx2
          try clear c3
          try clear c4
          try clear c4b0
          try clear c4b1
          try clear c4b2
          try clear c5
          try clear c5b0
          try clear c5b1
          try clear p6
          try clear q6
          try clear c7
          try clear c7b0
          try clear c8
          try clear c8b0
          try clear c9
          try clear c9b0
          try clear c13
          try clear c13b0
          try clear c22
          try clear c22b0
          try clear c22b1
          try clear c22b2
          try clear c23
          try clear c23b0
          try clear c24
          try clear c25
          try clear c25b0
          try clear c25b1
          try clear c26
          try clear c26b0
          try clear c26b1
          try clear p26
          try clear q26
          try clear hx26
          try clear c29
          try clear c29b0
          try clear c35
          try clear c35b0
          try clear c35b1
          try clear c35b2
          try clear hx265_0
          try clear hx267_0
          try clear hx269_0
          try clear p2
          try clear p265
          try clear p267
          try clear p269
          try clear p6
          try clear q2
          try clear q265
          try clear q267
          try clear q269
          try clear q6
          obtain ⟨kq, x81_33, rfl, HA, HJ33, HO_1, HO_7, HB⟩ := hcut; cases kq with
          | zero => exact absurd HA.out (by simp [tapearchivelaw32_QuotaSums.j3])
          | succ kj33 =>
           have H := HA.out; clear HA; simp only [tapearchivelaw32_QuotaSums.j3] at H
           by_cases c37 : x81_33 = true
           ·
            subst c37; have H1 : (some false) = some r := by rw [if_pos rfl] at H; exact H
            clear H; have H := H1; clear H1; exact absurd ((si_ H).trans HRT.out) Bool.false_ne_true
           ·
            replace c37 := Bool.eq_false_iff.mpr c37; subst c37; have H1 : (tapearchivelaw32_QuotaSums.l1 kj33 a0 x1_2 x5_2 t270 0) = some r := by rw [if_neg (show ¬ (false = true) by decide)] at H; exact H
            clear H; have H := H1; clear H1; have H' := am_ H; clear H; go_wp2
            repeat (go_quiet (fail); try go_wp2)
            go_loopg [9] kj33 (fun kq v9 w' => ∃ (x9_5 : Int), v9 = .int .i64 x9_5 ∧ Aside0 (tapearchivelaw32_QuotaSums.l1 kq a0 x1_2 x5_2 t270 x9_5 = some r) ∧ Aside0 (kq ≤ kj33) ∧ Aside0 (Kd.V (Kd.int .i64) 3 w' w.heap.size (fun k_ => (P1_ k_ ∨ w.heap.size ≤ k_) ∧ some k_ ≠ (v272 : Value).ownBlock) (.slice Ao20 x1_2.length co20) x1_2) ∧ Aside0 (Kd.R (Kd.int .i64) 3 w' w.heap.size (fun k_ => (w.heap.size ≤ k_)) v272 t270) ∧ Aside0 (Below w.heap.size w w'))
            case atStart => exact ⟨(0), (by first | rfl | (simp; done) | (simp [*]; done)), H', ⟨Nat.le_refl _⟩, ⟨by (with_reducible repeat (first | apply va_ | apply vn_ | apply vd_)); exact HO_1.out⟩, ⟨by (with_reducible repeat (first | apply Kd.R_alloc | apply Kd.R_drewN | apply Kd.R_drew)); exact HO_7.out⟩, ⟨pb0_ HB.out⟩⟩
            case round =>
             clear H'
             try clear c1
             try clear c2
             try clear p2
             try clear q2
             try clear hx2
             try clear c3
             try clear c4
             try clear c4b0
             try clear c4b1
             try clear c4b2
             try clear c5
             try clear c5b0
             try clear c5b1
             try clear p6
             try clear q6
             try clear c7
             try clear c7b0
             try clear c8
             try clear c8b0
             try clear c9
             try clear c9b0
             try clear c13
             try clear c13b0
             try clear c22
             try clear c22b0
             try clear c22b1
             try clear c22b2
             try clear c23
             try clear c23b0
             try clear c24
             try clear c25
             try clear c25b0
             try clear c25b1
             try clear c26
             try clear c26b0
             try clear c26b1
             try clear p26
             try clear q26
             try clear hx26
             try clear c29
             try clear c29b0
             try clear c35
             try clear c35b0
             try clear c35b1
             try clear c35b2
             try clear c37
             try clear hx265_0
             try clear hx267_0
             try clear hx269_0
             try clear p2
             try clear p26
             try clear p265
             try clear p267
             try clear p269
             try clear p6
             try clear q2
             try clear q26
             try clear q265
             try clear q267
             try clear q269
             try clear q6
             obtain ⟨x9_5, rfl, HA, HK5, HO_1, HO_7, HB⟩ := hrel; cases gk with
             | zero => exact absurd HA.out (by simp [tapearchivelaw32_QuotaSums.l1])
             | succ k5 =>
              have H := HA.out; clear HA; simp only [tapearchivelaw32_QuotaSums.l1] at H
              by_cases c38 : x9_5 < (t270.length : Int)
              ·
               rw [if_pos c38] at H; have c38b0 : decide (x9_5 < (t270.length : Int)) = true := de_ c38; clear c38
               by_cases c39 : 0 ≤ x9_5
               ·
                rw [if_pos c39] at H; have c39b0 : decide (0 ≤ x9_5) = true := de_ c39; clear c39
                by_cases c40 : x9_5 < (x1_2.length : Int)
                ·
                 rw [if_pos c40] at H; have c40b0 : decide (x9_5 < (x1_2.length : Int)) = true := de_ c40; clear c40
                 by_cases c41 : x5_2 = 0
                 ·
                  rw [if_pos c41] at H; exact absurd H (by simp)
                 ·
                  rw [if_neg c41] at H; have c41b0 : (x5_2 == 0) = false := beq_eq_false_iff_ne.mpr c41; have c41b1 : (x5_2 != 0) = true := bne_iff_ne.mpr c41; have HC42 := am_ H; clear H; obtain ⟨Ao43, co43, eo43⟩ := Kd.R_slice HO_7.out; subst eo43; have p277 : 0 ≤ (x9_5 : Int) := ot_ (by first | (with_reducible assumption) | assumption); have q277 : x9_5 < (x1_2.length : Int) := ot_ (by first | (with_reducible assumption) | assumption); obtain ⟨ad277, e277, hx277_0⟩ := Kd.at_int (Kd.V_reads' HO_1.out).2.2 x9_5 p277 q277; cases e277; replace p277 := eq_true p277; replace q277 := eq_true q277
                  go_upto_region 19 with (fail)
                  repeat (go_quiet (fail); go_upto_region 19 with (fail))
                  go_cut [127] (fun v127 wc => ∃ (kq : Nat) (x127_41 : Bool), v127 = .bool x127_41 ∧ Aside0 (tapearchivelaw32_QuotaSums.j5 kq a0 x1_2 x5_2 t270 x9_5 x127_41 = some r) ∧ Aside0 (kq ≤ k5) ∧ Aside0 (Kd.V (Kd.int .i64) 3 wc w.heap.size (fun k_ => (P1_ k_ ∨ w.heap.size ≤ k_) ∧ some k_ ≠ ((.slice Ao43 t270.length co43) : Value).ownBlock) (.slice (some ad277) x1_2.length co20) x1_2) ∧ Aside0 (Kd.R (Kd.int .i64) 3 wc w.heap.size (fun k_ => (w.heap.size ≤ k_)) (.slice Ao43 t270.length co43) t270) ∧ Aside0 (Below w.heap.size w wc))
                  case first =>
                   have H := HC42.out; clear HC42
                   by_cases c44 : (rd t270 x9_5) < (wrap64 (Int.tdiv (wrap64 (a0 * (rd x1_2 x9_5))) x5_2))
                   ·
                    rw [if_pos c44] at H; have c44b0 : decide ((rd t270 x9_5) < (wrap64 (Int.tdiv (wrap64 (a0 * (rd x1_2 x9_5))) x5_2))) = true := de_ c44; clear c44
                    (first | rw [c44b0] | (simp only [i64_w, i32_w]; rw [c44b0]) | rw [c44b2] | rw [c44b1] | skip)
                    have H' := am_ H; clear H; have p278 : 0 ≤ (x9_5 : Int) := ot_ (by first | (with_reducible assumption) | assumption); have q278 : x9_5 < (t270.length : Int) := ot_ (by first | (with_reducible assumption) | assumption); obtain ⟨ad278, e278, hx278_0⟩ := Kd.at_int (Kd.R_reads' HO_7.out).2.2 x9_5 p278 q278; cases e278; replace p278 := eq_true p278; replace q278 := eq_true q278; go_wp2
                    repeat (go_quiet (fail); try go_wp2)
                    go_meet
                    case rel => exact ⟨_, (true), (by first | rfl | (simp; done) | (simp [*]; done)), H', ⟨by have := HJ2.out; have := HK2.out; have := HJ18.out; have := HJ33.out; have := HK5.out; first | omega | exact Nat.le_refl _⟩, ⟨by (with_reducible repeat (first | apply va_ | apply vn_ | apply vd_)); exact HO_1.out⟩, ⟨by (with_reducible repeat (first | apply Kd.R_alloc | apply Kd.R_drewN | apply Kd.R_drew)); exact HO_7.out⟩, ⟨pb0_ HB.out⟩⟩
                   ·
                    rw [if_neg c44] at H; have c44b0 : decide ((rd t270 x9_5) < (wrap64 (Int.tdiv (wrap64 (a0 * (rd x1_2 x9_5))) x5_2))) = false := df_ c44; clear c44
                    (first | rw [c44b0] | (simp only [i64_w, i32_w]; rw [c44b0]) | rw [c44b2] | rw [c44b1] | skip)
                    by_cases c45 : (rd t270 x9_5) > (wrap64 ((wrap64 (Int.tdiv (wrap64 (a0 * (rd x1_2 x9_5))) x5_2)) + 1))
                    ·
                     rw [if_pos c45] at H; have c45b0 : decide ((wrap64 ((wrap64 (Int.tdiv (wrap64 (a0 * (rd x1_2 x9_5))) x5_2)) + 1)) < (rd t270 x9_5)) = true := de_ c45; clear c45; have H' := am_ H; clear H; have p278 : 0 ≤ (x9_5 : Int) := ot_ (by first | (with_reducible assumption) | assumption); have q278 : x9_5 < (t270.length : Int) := ot_ (by first | (with_reducible assumption) | assumption); obtain ⟨ad278, e278, hx278_0⟩ := Kd.at_int (Kd.R_reads' HO_7.out).2.2 x9_5 p278 q278; cases e278; replace p278 := eq_true p278; replace q278 := eq_true q278; have p279 : 0 ≤ (x9_5 : Int) := ot_ (by first | (with_reducible assumption) | assumption); have q279 : x9_5 < (t270.length : Int) := ot_ (by first | (with_reducible assumption) | assumption); obtain ⟨ad279, e279, hx279_0⟩ := Kd.at_int (Kd.R_reads' HO_7.out).2.2 x9_5 p279 q279; obtain rfl : ad278 = ad279 := (by injection e279); replace p279 := eq_true p279; replace q279 := eq_true q279; go_wp2
                     repeat (go_quiet (fail); try go_wp2)
                     go_meet
                     case rel => exact ⟨_, (true), (by first | rfl | (simp; done) | (simp [*]; done)), H', ⟨by have := HJ2.out; have := HK2.out; have := HJ18.out; have := HJ33.out; have := HK5.out; first | omega | exact Nat.le_refl _⟩, ⟨by (with_reducible repeat (first | apply va_ | apply vn_ | apply vd_)); exact HO_1.out⟩, ⟨by (with_reducible repeat (first | apply Kd.R_alloc | apply Kd.R_drewN | apply Kd.R_drew)); exact HO_7.out⟩, ⟨pb0_ HB.out⟩⟩
                    ·
                     rw [if_neg c45] at H; have c45b0 : decide ((wrap64 ((wrap64 (Int.tdiv (wrap64 (a0 * (rd x1_2 x9_5))) x5_2)) + 1)) < (rd t270 x9_5)) = false := df_ c45; clear c45; have H' := am_ H; clear H; have p278 : 0 ≤ (x9_5 : Int) := ot_ (by first | (with_reducible assumption) | assumption); have q278 : x9_5 < (t270.length : Int) := ot_ (by first | (with_reducible assumption) | assumption); obtain ⟨ad278, e278, hx278_0⟩ := Kd.at_int (Kd.R_reads' HO_7.out).2.2 x9_5 p278 q278; cases e278; replace p278 := eq_true p278; replace q278 := eq_true q278; have p279 : 0 ≤ (x9_5 : Int) := ot_ (by first | (with_reducible assumption) | assumption); have q279 : x9_5 < (t270.length : Int) := ot_ (by first | (with_reducible assumption) | assumption); obtain ⟨ad279, e279, hx279_0⟩ := Kd.at_int (Kd.R_reads' HO_7.out).2.2 x9_5 p279 q279; obtain rfl : ad278 = ad279 := (by injection e279); replace p279 := eq_true p279; replace q279 := eq_true q279; have p280 : 0 ≤ (x9_5 : Int) := ot_ (by first | (with_reducible assumption) | assumption); have q280 : x9_5 < (t270.length : Int) := ot_ (by first | (with_reducible assumption) | assumption); obtain ⟨ad280, e280, hx280_0⟩ := Kd.at_int (Kd.R_reads' HO_7.out).2.2 x9_5 p280 q280; obtain rfl : ad278 = ad280 := (by injection e280); replace p280 := eq_true p280; replace q280 := eq_true q280; have p281 : 0 ≤ (x9_5 : Int) := ot_ (by first | (with_reducible assumption) | assumption); have q281 : x9_5 < (x1_2.length : Int) := ot_ (by first | (with_reducible assumption) | assumption); obtain ⟨ad281, e281, hx281_0⟩ := Kd.at_int (Kd.V_reads' HO_1.out).2.2 x9_5 p281 q281; obtain rfl : ad277 = ad281 := (by injection e281); replace p281 := eq_true p281; replace q281 := eq_true q281; go_wp2
                     repeat (go_quiet (fail); try go_wp2)
                     go_meet
                     case rel => exact ⟨_, (decide ((wrap64 ((rd t270 x9_5) * x5_2)) ≥ (wrap64 ((wrap64 (a0 * (rd x1_2 x9_5))) + x5_2)))), (by first | rfl | (simp; done) | (simp [*]; done)), H', ⟨by have := HJ2.out; have := HK2.out; have := HJ18.out; have := HJ33.out; have := HK5.out; first | omega | exact Nat.le_refl _⟩, ⟨by (with_reducible repeat (first | apply va_ | apply vn_ | apply vd_)); exact HO_1.out⟩, ⟨by (with_reducible repeat (first | apply Kd.R_alloc | apply Kd.R_drewN | apply Kd.R_drew)); exact HO_7.out⟩, ⟨pb0_ HB.out⟩⟩
                  case rest =>
                   clear HC42
                   try clear c1
                   try clear c2
                   try clear p2
                   try clear q2
                   try clear hx2
                   try clear c3
                   try clear c4
                   try clear c4b0
                   try clear c4b1
                   try clear c4b2
                   try clear c5
                   try clear c5b0
                   try clear c5b1
                   try clear p6
                   try clear q6
                   try clear c7
                   try clear c7b0
                   try clear c8
                   try clear c8b0
                   try clear c9
                   try clear c9b0
                   try clear c13
                   try clear c13b0
                   try clear c22
                   try clear c22b0
                   try clear c22b1
                   try clear c22b2
                   try clear c23
                   try clear c23b0
                   try clear c24
                   try clear c25
                   try clear c25b0
                   try clear c25b1
                   try clear c26
                   try clear c26b0
                   try clear c26b1
                   try clear p26
                   try clear q26
                   try clear hx26
                   try clear p27
                   try clear q27
                   try clear hx27
                   try clear p28
                   try clear q28
                   try clear hx28
                   try clear c29
                   try clear c29b0
                   try clear c35
                   try clear c35b0
                   try clear c35b1
                   try clear c35b2
                   try clear c37
                   try clear c38
                   try clear c38b0
                   try clear c39
                   try clear c39b0
                   try clear c40
                   try clear c40b0
                   try clear c41
                   try clear c41b0
                   try clear c41b1
                   try clear c44
                   try clear c44b0
                   try clear c44b1
                   try clear c44b2
                   try clear c45
                   try clear c45b0
                   try clear hx265_0
                   try clear hx267_0
                   try clear hx269_0
                   try clear hx277_0
                   try clear hx278_0
                   try clear hx279_0
                   try clear hx280_0
                   try clear hx281_0
                   try clear p2
                   try clear p26
                   try clear p265
                   try clear p267
                   try clear p269
                   try clear p277
                   try clear p278
                   try clear p279
                   try clear p280
                   try clear p281
                   try clear p6
                   try clear q2
                   try clear q26
                   try clear q265
                   try clear q267
                   try clear q269
                   try clear q277
                   try clear q278
                   try clear q279
                   try clear q280
                   try clear q281
                   try clear q6
                   obtain ⟨kq, x127_41, rfl, HA, HJ41, HO_1, HO_7, HB⟩ := hcut; cases kq with
                   | zero => exact absurd HA.out (by simp [tapearchivelaw32_QuotaSums.j5])
                   | succ kj41 =>
                    have H := HA.out; clear HA; simp only [tapearchivelaw32_QuotaSums.j5] at H
                    by_cases c46 : x127_41 = true
                    ·
                     subst c46; have H1 : (some false) = some r := by rw [if_pos rfl] at H; exact H
                     clear H; have H := H1; clear H1; exact absurd ((si_ H).trans HRT.out) Bool.false_ne_true
                    ·
                     replace c46 := Bool.eq_false_iff.mpr c46; subst c46; have H1 : (tapearchivelaw32_QuotaSums.l2 kj41 a0 x1_2 x5_2 t270 x9_5 0) = some r := by rw [if_neg (show ¬ (false = true) by decide)] at H; exact H
                     clear H; have H := H1; clear H1; have H' := am_ H; clear H; go_wp2
                     repeat (go_quiet (fail); try go_wp2)
                     go_loopg [11] kj41 (fun kq v11 w' => ∃ (x11_7 : Int), v11 = .int .i64 x11_7 ∧ Aside0 (tapearchivelaw32_QuotaSums.l2 kq a0 x1_2 x5_2 t270 x9_5 x11_7 = some r) ∧ Aside0 (kq ≤ kj41) ∧ Aside0 (Kd.V (Kd.int .i64) 3 w' w.heap.size (fun k_ => (P1_ k_ ∨ w.heap.size ≤ k_) ∧ some k_ ≠ ((.slice Ao43 t270.length co43) : Value).ownBlock) (.slice (some ad277) x1_2.length co20) x1_2) ∧ Aside0 (Kd.R (Kd.int .i64) 3 w' w.heap.size (fun k_ => (w.heap.size ≤ k_)) (.slice Ao43 t270.length co43) t270) ∧ Aside0 (Below w.heap.size w w'))
                     case atStart => exact ⟨(0), (by first | rfl | (simp; done) | (simp [*]; done)), H', ⟨Nat.le_refl _⟩, ⟨by (with_reducible repeat (first | apply va_ | apply vn_ | apply vd_)); exact HO_1.out⟩, ⟨by (with_reducible repeat (first | apply Kd.R_alloc | apply Kd.R_drewN | apply Kd.R_drew)); exact HO_7.out⟩, ⟨pb0_ HB.out⟩⟩
                     case round =>
                      clear H'
                      try clear c1
                      try clear c2
                      try clear p2
                      try clear q2
                      try clear hx2
                      try clear c3
                      try clear c4
                      try clear c4b0
                      try clear c4b1
                      try clear c4b2
                      try clear c5
                      try clear c5b0
                      try clear c5b1
                      try clear p6
                      try clear q6
                      try clear c7
                      try clear c7b0
                      try clear c8
                      try clear c8b0
                      try clear c9
                      try clear c9b0
                      try clear c13
                      try clear c13b0
                      try clear c22
                      try clear c22b0
                      try clear c22b1
                      try clear c22b2
                      try clear c23
                      try clear c23b0
                      try clear c24
                      try clear c25
                      try clear c25b0
                      try clear c25b1
                      try clear c26
                      try clear c26b0
                      try clear c26b1
                      try clear p26
                      try clear q26
                      try clear hx26
                      try clear p27
                      try clear q27
                      try clear hx27
                      try clear p28
                      try clear q28
                      try clear hx28
                      try clear c29
                      try clear c29b0
                      try clear c35
                      try clear c35b0
                      try clear c35b1
                      try clear c35b2
                      try clear c37
                      try clear c38
                      try clear c38b0
                      try clear c39
                      try clear c39b0
                      try clear c40
                      try clear c40b0
                      try clear c41
                      try clear c41b0
                      try clear c41b1
                      try clear c44
                      try clear c44b0
                      try clear c44b1
                      try clear c44b2
                      try clear c45
                      try clear c45b0
                      try clear c46
                      try clear hx265_0
                      try clear hx267_0
                      try clear hx269_0
                      try clear hx277_0
                      try clear hx278_0
                      try clear hx279_0
                      try clear hx280_0
                      try clear hx281_0
                      try clear p2
                      try clear p26
                      try clear p265
                      try clear p267
                      try clear p269
                      try clear p27
                      try clear p277
                      try clear p278
                      try clear p279
                      try clear p28
                      try clear p280
                      try clear p281
                      try clear p6
                      try clear q2
                      try clear q26
                      try clear q265
                      try clear q267
                      try clear q269
                      try clear q27
                      try clear q277
                      try clear q278
                      try clear q279
                      try clear q28
                      try clear q280
                      try clear q281
                      try clear q6
                      obtain ⟨x11_7, rfl, HA, HK7, HO_1, HO_7, HB⟩ := hrel; cases gk with
                      | zero => exact absurd HA.out (by simp [tapearchivelaw32_QuotaSums.l2])
                      | succ k7 =>
                       have H := HA.out; clear HA; simp only [tapearchivelaw32_QuotaSums.l2] at H
                       by_cases c47 : x11_7 < (t270.length : Int)
                       ·
                        rw [if_pos c47] at H; have c47b0 : decide (x11_7 < (t270.length : Int)) = true := de_ c47; clear c47
                        by_cases c48 : 0 ≤ x9_5
                        ·
                         rw [if_pos c48] at H; have c48b0 : decide (0 ≤ x9_5) = true := de_ c48; clear c48
                         by_cases c49 : x9_5 < (x1_2.length : Int)
                         ·
                          rw [if_pos c49] at H; have c49b0 : decide (x9_5 < (x1_2.length : Int)) = true := de_ c49; clear c49
                          by_cases c50 : 0 ≤ x11_7
                          ·
                           rw [if_pos c50] at H; have c50b0 : decide (0 ≤ x11_7) = true := de_ c50; clear c50
                           by_cases c51 : x11_7 < (x1_2.length : Int)
                           ·
                            rw [if_pos c51] at H; have c51b0 : decide (x11_7 < (x1_2.length : Int)) = true := de_ c51; clear c51
                            by_cases c52 : (rd x1_2 x9_5) > (rd x1_2 x11_7)
                            ·
                             rw [if_pos c52] at H; have c52b0 : decide ((rd x1_2 x11_7) < (rd x1_2 x9_5)) = true := de_ c52; clear c52
                             by_cases c53 : x9_5 < (t270.length : Int)
                             ·
                              rw [if_pos c53] at H; have c53b0 : decide (x9_5 < (t270.length : Int)) = true := de_ c53; clear c53
                              by_cases c54 : (rd t270 x9_5) < (rd t270 x11_7)
                              ·
                               rw [if_pos c54] at H; have c54b0 : decide ((rd t270 x9_5) < (rd t270 x11_7)) = true := de_ c54; clear c54; exact absurd ((si_ H).trans HRT.out) Bool.false_ne_true
                              ·
                               rw [if_neg c54] at H; have c54b0 : decide ((rd t270 x9_5) < (rd t270 x11_7)) = false := df_ c54; clear c54; have H' := am_ H; clear H; have p282 : 0 ≤ (x9_5 : Int) := ot_ (by first | (with_reducible assumption) | assumption); have q282 : x9_5 < (x1_2.length : Int) := ot_ (by first | (with_reducible assumption) | assumption); obtain ⟨ad282, e282, hx282_0⟩ := Kd.at_int (Kd.V_reads' HO_1.out).2.2 x9_5 p282 q282; obtain rfl : ad277 = ad282 := (by injection e282); replace p282 := eq_true p282; replace q282 := eq_true q282; have p283 : 0 ≤ (x11_7 : Int) := ot_ (by first | (with_reducible assumption) | assumption); have q283 : x11_7 < (x1_2.length : Int) := ot_ (by first | (with_reducible assumption) | assumption); obtain ⟨ad283, e283, hx283_0⟩ := Kd.at_int (Kd.V_reads' HO_1.out).2.2 x11_7 p283 q283; obtain rfl : ad277 = ad283 := (by injection e283); replace p283 := eq_true p283; replace q283 := eq_true q283; have p284 : 0 ≤ (x9_5 : Int) := ot_ (by first | (with_reducible assumption) | assumption); have q284 : x9_5 < (t270.length : Int) := ot_ (by first | (with_reducible assumption) | assumption); obtain ⟨ad284, e284, hx284_0⟩ := Kd.at_int (Kd.R_reads' HO_7.out).2.2 x9_5 p284 q284; cases e284; replace p284 := eq_true p284; replace q284 := eq_true q284; have p285 : 0 ≤ (x11_7 : Int) := ot_ (by first | (with_reducible assumption) | assumption); have q285 : x11_7 < (t270.length : Int) := ot_ (by first | (with_reducible assumption) | assumption); obtain ⟨ad285, e285, hx285_0⟩ := Kd.at_int (Kd.R_reads' HO_7.out).2.2 x11_7 p285 q285; obtain rfl : ad284 = ad285 := (by injection e285); replace p285 := eq_true p285; replace q285 := eq_true q285; go_wp2
                               repeat (go_quiet (fail); try go_wp2)
                               go_roundg k7
                               case measure => have := HJ2.out; have := HK2.out; have := HJ18.out; have := HJ33.out; have := HK5.out; have := HJ41.out; have := HK7.out; omega
                               case rel => exact ⟨(wrap64 (x11_7 + 1)), (by first | rfl | (simp; done) | (simp [*]; done)), H', ⟨by have := HJ2.out; have := HK2.out; have := HJ18.out; have := HJ33.out; have := HK5.out; have := HJ41.out; have := HK7.out; omega⟩, ⟨by (with_reducible repeat (first | apply va_ | apply vn_ | apply vd_)); exact HO_1.out⟩, ⟨by (with_reducible repeat (first | apply Kd.R_alloc | apply Kd.R_drewN | apply Kd.R_drew)); exact HO_7.out⟩, ⟨pb0_ HB.out⟩⟩
                             ·
                              rw [if_neg c53] at H; exact absurd H (by simp)
                            ·
                             rw [if_neg c52] at H; have c52b0 : decide ((rd x1_2 x11_7) < (rd x1_2 x9_5)) = false := df_ c52; clear c52; have H' := am_ H; clear H; have p282 : 0 ≤ (x9_5 : Int) := ot_ (by first | (with_reducible assumption) | assumption); have q282 : x9_5 < (x1_2.length : Int) := ot_ (by first | (with_reducible assumption) | assumption); obtain ⟨ad282, e282, hx282_0⟩ := Kd.at_int (Kd.V_reads' HO_1.out).2.2 x9_5 p282 q282; obtain rfl : ad277 = ad282 := (by injection e282); replace p282 := eq_true p282; replace q282 := eq_true q282; have p283 : 0 ≤ (x11_7 : Int) := ot_ (by first | (with_reducible assumption) | assumption); have q283 : x11_7 < (x1_2.length : Int) := ot_ (by first | (with_reducible assumption) | assumption); obtain ⟨ad283, e283, hx283_0⟩ := Kd.at_int (Kd.V_reads' HO_1.out).2.2 x11_7 p283 q283; obtain rfl : ad277 = ad283 := (by injection e283); replace p283 := eq_true p283; replace q283 := eq_true q283; go_wp2
                             repeat (go_quiet (fail); try go_wp2)
                             go_roundg k7
                             case measure => have := HJ2.out; have := HK2.out; have := HJ18.out; have := HJ33.out; have := HK5.out; have := HJ41.out; have := HK7.out; omega
                             case rel => exact ⟨(wrap64 (x11_7 + 1)), (by first | rfl | (simp; done) | (simp [*]; done)), H', ⟨by have := HJ2.out; have := HK2.out; have := HJ18.out; have := HJ33.out; have := HK5.out; have := HJ41.out; have := HK7.out; omega⟩, ⟨by (with_reducible repeat (first | apply va_ | apply vn_ | apply vd_)); exact HO_1.out⟩, ⟨by (with_reducible repeat (first | apply Kd.R_alloc | apply Kd.R_drewN | apply Kd.R_drew)); exact HO_7.out⟩, ⟨pb0_ HB.out⟩⟩
                           ·
                            rw [if_neg c51] at H; exact absurd H (by simp)
                          ·
                           rw [if_neg c50] at H; exact absurd H (by simp)
                         ·
                          rw [if_neg c49] at H; exact absurd H (by simp)
                        ·
                         rw [if_neg c48] at H; exact absurd H (by simp)
                       ·
                        rw [if_neg c47] at H; have c47b0 : decide (x11_7 < (t270.length : Int)) = false := df_ c47; clear c47; have H' := am_ H; clear H; go_wp2
                        repeat (go_quiet (fail); try go_wp2)
                        go_roundg k7
                        case measure => have := HJ2.out; have := HK2.out; have := HJ18.out; have := HJ33.out; have := HK5.out; have := HJ41.out; have := HK7.out; omega
                        case rel => exact ⟨(wrap64 (x9_5 + 1)), (by first | rfl | (simp; done) | (simp [*]; done)), H', ⟨by have := HJ2.out; have := HK2.out; have := HJ18.out; have := HJ33.out; have := HK5.out; have := HJ41.out; have := HK7.out; omega⟩, ⟨by (with_reducible repeat (first | apply va_ | apply vn_ | apply vd_)); exact HO_1.out⟩, ⟨by (with_reducible repeat (first | apply Kd.R_alloc | apply Kd.R_drewN | apply Kd.R_drew)); exact HO_7.out⟩, ⟨pb0_ HB.out⟩⟩
                ·
                 rw [if_neg c40] at H; exact absurd H (by simp)
               ·
                rw [if_neg c39] at H; exact absurd H (by simp)
              ·
               rw [if_neg c38] at H; have c38b0 : decide (x9_5 < (t270.length : Int)) = false := df_ c38; clear c38; have H' := am_ H; clear H; obtain ⟨Ao55, co55, eo55⟩ := Kd.R_slice HO_7.out; subst eo55; go_wp2
               repeat (go_quiet (fail); try go_wp2)
               go_loopg [12, 13] k5 (fun kq v12 v13 w' => ∃ (x12_6 : Int) (x13_6 : Int), v12 = .int .i64 x12_6 ∧ v13 = .int .i64 x13_6 ∧ Aside0 (tapearchivelaw32_QuotaSums.l3 kq a0 t270 x12_6 x13_6 = some r) ∧ Aside0 (kq ≤ k5) ∧ Aside0 (Kd.R (Kd.int .i64) 3 w' w.heap.size (fun k_ => (w.heap.size ≤ k_)) (.slice Ao55 t270.length co55) t270) ∧ Aside0 (Below w.heap.size w w'))
               case atStart => exact ⟨(0), (0), (by first | rfl | (simp; done) | (simp [*]; done)), (by first | rfl | (simp; done) | (simp [*]; done)), H', ⟨Nat.le_refl _⟩, ⟨by (with_reducible repeat (first | apply Kd.R_alloc | apply Kd.R_drewN | apply Kd.R_drew)); exact HO_7.out⟩, ⟨pb0_ HB.out⟩⟩
               case round =>
                clear H'
                try clear c1
                try clear c2
                try clear p2
                try clear q2
                try clear hx2
                try clear c3
                try clear c4
                try clear c4b0
                try clear c4b1
                try clear c4b2
                try clear c5
                try clear c5b0
                try clear c5b1
                try clear p6
                try clear q6
                try clear c7
                try clear c7b0
                try clear c8
                try clear c8b0
                try clear c9
                try clear c9b0
                try clear c13
                try clear c13b0
                try clear c22
                try clear c22b0
                try clear c22b1
                try clear c22b2
                try clear c23
                try clear c23b0
                try clear c24
                try clear c25
                try clear c25b0
                try clear c25b1
                try clear c26
                try clear c26b0
                try clear c26b1
                try clear p26
                try clear q26
                try clear hx26
                try clear p27
                try clear q27
                try clear hx27
                try clear p28
                try clear q28
                try clear hx28
                try clear c29
                try clear c29b0
                try clear c35
                try clear c35b0
                try clear c35b1
                try clear c35b2
                try clear c37
                try clear c38
                try clear c38b0
                try clear c39
                try clear c39b0
                try clear c40
                try clear c40b0
                try clear c41
                try clear c41b0
                try clear c41b1
                try clear c44
                try clear c44b0
                try clear c44b1
                try clear c44b2
                try clear c45
                try clear c45b0
                try clear c46
                try clear c47
                try clear c47b0
                try clear c48
                try clear c48b0
                try clear c49
                try clear c49b0
                try clear c50
                try clear c50b0
                try clear c51
                try clear c51b0
                try clear c52
                try clear c52b0
                try clear c53
                try clear c53b0
                try clear c54
                try clear c54b0
                try clear hx265_0
                try clear hx267_0
                try clear hx269_0
                try clear hx277_0
                try clear hx278_0
                try clear hx279_0
                try clear hx280_0
                try clear hx281_0
                try clear hx282_0
                try clear hx283_0
                try clear hx284_0
                try clear hx285_0
                try clear p2
                try clear p26
                try clear p265
                try clear p267
                try clear p269
                try clear p27
                try clear p277
                try clear p278
                try clear p279
                try clear p28
                try clear p280
                try clear p281
                try clear p282
                try clear p283
                try clear p284
                try clear p285
                try clear p6
                try clear q2
                try clear q26
                try clear q265
                try clear q267
                try clear q269
                try clear q27
                try clear q277
                try clear q278
                try clear q279
                try clear q28
                try clear q280
                try clear q281
                try clear q282
                try clear q283
                try clear q284
                try clear q285
                try clear q6
                obtain ⟨x12_6, x13_6, rfl, rfl, HA, HK6, HO_7, HB⟩ := hrel; cases gk with
                | zero => exact absurd HA.out (by simp [tapearchivelaw32_QuotaSums.l3])
                | succ k6 =>
                 have H := HA.out; clear HA; simp only [tapearchivelaw32_QuotaSums.l3] at H
                 by_cases c56 : x13_6 < (t270.length : Int)
                 ·
                  rw [if_pos c56] at H; have c56b0 : decide (x13_6 < (t270.length : Int)) = true := de_ c56; clear c56
                  by_cases c57 : 0 ≤ x13_6
                  ·
                   rw [if_pos c57] at H; have c57b0 : decide (0 ≤ x13_6) = true := de_ c57; clear c57; have H' := am_ H; clear H; have p286 : 0 ≤ (x13_6 : Int) := ot_ (by first | (with_reducible assumption) | assumption); have q286 : x13_6 < (t270.length : Int) := ot_ (by first | (with_reducible assumption) | assumption); obtain ⟨ad286, e286, hx286_0⟩ := Kd.at_int (Kd.R_reads' HO_7.out).2.2 x13_6 p286 q286; cases e286; replace p286 := eq_true p286; replace q286 := eq_true q286; go_wp2
                   repeat (go_quiet (fail); try go_wp2)
                   go_roundg k6
                   case measure => have := HJ2.out; have := HK2.out; have := HJ18.out; have := HJ33.out; have := HK5.out; have := HK6.out; omega
                   case rel => exact ⟨(wrap64 (x12_6 + (rd t270 x13_6))), (wrap64 (x13_6 + 1)), (by first | rfl | (simp; done) | (simp [*]; done)), (by first | rfl | (simp; done) | (simp [*]; done)), H', ⟨by have := HJ2.out; have := HK2.out; have := HJ18.out; have := HJ33.out; have := HK5.out; have := HK6.out; omega⟩, ⟨by (with_reducible repeat (first | apply Kd.R_alloc | apply Kd.R_drewN | apply Kd.R_drew)); exact HO_7.out⟩, ⟨pb0_ HB.out⟩⟩
                  ·
                   rw [if_neg c57] at H; exact absurd H (by simp)
                 ·
                  rw [if_neg c56] at H; have c56b0 : decide (x13_6 < (t270.length : Int)) = false := df_ c56; clear c56
                  by_cases c58 : x12_6 = a0
                  ·
                   rw [if_pos c58] at H; have c58b0 : (x12_6 == a0) = true := beq_iff_eq.mpr c58; have c58b1 : (x12_6 != a0) = false := bne_eq_false_iff_eq.mpr c58; clear c58; replace H := Option.bind_eq_some_iff.mp H; obtain ⟨t287, A590, H⟩ := H; replace H : (some t287) = some r := H; have A59 := am_ A590; clear A590; obtain rfl := si_ H
                   go_wp2_with (first | (go_at_call 13; (with_reducible refine (tapearchivelaw32_awake.calls k6  t287 _ ?side1 A59.out).mono ?_); (case side1 => exact HRT); rintro e w60 ⟨rfl, hb⟩; have n0_ := am_ (Kd.R_below (pR_ HO_7.out) hb); have n1_ := am_ (sp_ (pb0_ HB.out) hb); clear HO_7; clear HB; have HO_7 := n0_; have HB := n1_; clear n0_ n1_; (try clear hb); (try clear hb2); (try clear hk); (try clear hi)))
                   repeat (go_quiet (first | (go_at_call 13; (with_reducible refine (tapearchivelaw32_awake.calls k6  t287 _ ?side1 A59.out).mono ?_); (case side1 => exact HRT); rintro e w60 ⟨rfl, hb⟩; have n0_ := am_ (Kd.R_below (pR_ HO_7.out) hb); have n1_ := am_ (sp_ (pb0_ HB.out) hb); clear HO_7; clear HB; have HO_7 := n0_; have HB := n1_; clear n0_ n1_; (try clear hb); (try clear hb2); (try clear hk); (try clear hi))); try go_wp2_with (first | (go_at_call 13; (with_reducible refine (tapearchivelaw32_awake.calls k6  t287 _ ?side1 A59.out).mono ?_); (case side1 => exact HRT); rintro e w60 ⟨rfl, hb⟩; have n0_ := am_ (Kd.R_below (pR_ HO_7.out) hb); have n1_ := am_ (sp_ (pb0_ HB.out) hb); clear HO_7; clear HB; have HO_7 := n0_; have HB := n1_; clear n0_ n1_; (try clear hb); (try clear hb2); (try clear hk); (try clear hi))))
                   go_ret; exact ⟨by first | rfl | (simp [errW_none, errW_some] <;> rfl) | (simp [*, errW_none, errW_some] <;> rfl), pb0_ HB.out⟩
                  ·
                   rw [if_neg c58] at H; have c58b0 : (x12_6 == a0) = false := beq_eq_false_iff_ne.mpr c58; have c58b1 : (x12_6 != a0) = true := bne_iff_ne.mpr c58; exact absurd ((si_ H).trans HRT.out) Bool.false_ne_true
end Go.Proofs.Ytbadelcnaeijkaa.Q
end
section
namespace Go.Proofs.Ytbadelcnaeijkaa.SQuotaSums
open Go.RowKit Go.Proofs.Ytbadelcnaeijkaa.Q Go.Proofs.YtbadelcnaeijkaaW.PrintWords Go.Proofs.YtbadelcnaeijkaaW.PrintLast Go.Proofs.YtbadelcnaeijkaaW.Opens Go.Proofs.YtbadelcnaeijkaaW
set_option linter.unusedVariables false
def Pure : Prop := ∀ (x0 : Int) (x1 : List Int), (Lit.int .i64 x0).wf = true → (x1.length ≤ maxLen ∧ x1.length * 8 ≤ 140737488351232 ∧ ∀ y ∈ x1, (Lit.int .i64 y).wf = true) → ∃ k, tapearchivelaw32_QuotaSums.f k x0 x1 = some true
end Go.Proofs.Ytbadelcnaeijkaa.SQuotaSums
end
