import Derived.Test.YtbigcpjlahkggaaKReplicaElects11
set_option linter.unusedVariables false
set_option linter.unusedSimpArgs false
namespace Go.Proofs.Ytbigcpjlahkggaa.Q
open Go.RowKit Go.Proofs.YtbigcpjlahkggaaW.PrintWords Go.Proofs.YtbigcpjlahkggaaW.PrintLast Go.Proofs.YtbigcpjlahkggaaW.PrintMore
attribute [local go_sem] max2_int min2_int max_two min_two max_three min_three max_four min_four
attribute [local go_sem ↓] isSome_setCell
attribute [local go_sem] string_gtr
set_option linter.unusedVariables false
set_option linter.unusedSimpArgs false
def tapearchivelaw26_equal.l0 : Nat → List Int → List Int → Int → Option (Bool)
 | 0, _, _, _ => none
 | k + 1, x0, x1, x5 => if x5 < (x0.length : Int) then (if 0 ≤ x5 then (if x5 < (x1.length : Int) then (if (rd x0 x5) = (rd x1 x5) then (tapearchivelaw26_equal.l0 k x0 x1 (wrap64 (x5 + 1))) else (some false)) else (none)) else (none)) else (some true)
def tapearchivelaw26_equal.f (k : Nat) (l0 : List Int) (l1 : List Int) : Option (Bool) := if (l0.length : Int) = (l1.length : Int) then (tapearchivelaw26_equal.l0 k l0 l1 0) else (some false)
set_option maxHeartbeats 8000000 in
set_option maxRecDepth 100000 in
theorem tapearchivelaw26_equal.calls (k : Nat) (A0 : Option Addr) (c0 : Nat) (l0 : List Int) (A1 : Option Addr) (c1 : Nat) (l1 : List Int) (r : Bool) (w : World) (hr0 : Kd.C (Kd.int .u8) w A0 l0.length l0) (hc0 : l0.length ≤ c0) (hr1 : Kd.C (Kd.int .u8) w A1 l1.length l1) (hc1 : l1.length ≤ c1) (h : tapearchivelaw26_equal.f k l0 l1 = some r) :
  Calls Try.prog 47 #[.slice A0 l0.length c0, .slice A1 l1.length c1] w fun e w' => e = .returned (.bool r) ∧ Drawn0 w w' := by
 have HR0 := am_ hr0
 have HC0 := am_ hc0
 clear hr0 hc0
 have HR1 := am_ hr1
 have HC1 := am_ hc1
 clear hr1 hc1
 have H : (if (l0.length : Int) = (l1.length : Int) then (tapearchivelaw26_equal.l0 k l0 l1 0) else (some false)) = some r := h
 clear h
 by_cases c3 : (l0.length : Int) = (l1.length : Int)
 ·
  rw [if_pos c3] at H
  have c3b0 : ((l0.length : Int) == (l1.length : Int)) = true := beq_iff_eq.mpr c3
  have c3b1 : ((l0.length : Int) != (l1.length : Int)) = false := bne_eq_false_iff_eq.mpr c3
  have c3b2 : (l0.length == l1.length) = true := by first | simpa using c3 | (simp at c3 ⊢; omega)
  clear c3
  have H' := am_ H
  clear H
  go_enter Try.func47, Try.ntmps47
  go_wp2
  repeat (go_quiet (fail); try go_wp2)
  go_loopg [5] k (fun kq v5 w' => ∃ (x5_1 : Int), v5 = .int .i64 x5_1 ∧ Aside0 (tapearchivelaw26_equal.l0 kq l0 l1 x5_1 = some r) ∧ Aside0 (kq ≤ k) ∧ Drawn0 w w')
  case atStart => exact ⟨(0), (by first | rfl | (simp; done) | (simp [*]; done)), H', ⟨Nat.le_refl _⟩, by repeat (first | exact Drawn0.refl _ | apply Drawn0.step)⟩
  case round =>
   clear H'
   try clear c1
   try clear p2
   try clear c3
   try clear c3b0
   try clear c3b1
   try clear c3b2
   obtain ⟨x5_1, rfl, HA, HK1, ⟨m1, rfl⟩⟩ := hrel
   cases gk with
   | zero => exact absurd HA.out (by simp [tapearchivelaw26_equal.l0])
   | succ k1 =>
    have H := HA.out
    clear HA
    simp only [tapearchivelaw26_equal.l0] at H
    by_cases c4 : x5_1 < (l0.length : Int)
    ·
     rw [if_pos c4] at H
     have c4b0 : decide (x5_1 < (l0.length : Int)) = true := de_ c4
     clear c4
     by_cases c5 : 0 ≤ x5_1
     ·
      rw [if_pos c5] at H
      have c5b0 : decide (0 ≤ x5_1) = true := de_ c5
      clear c5
      by_cases c6 : x5_1 < (l1.length : Int)
      ·
       rw [if_pos c6] at H
       have c6b0 : decide (x5_1 < (l1.length : Int)) = true := de_ c6
       clear c6
       by_cases c7 : (rd l0 x5_1) = (rd l1 x5_1)
       ·
        rw [if_pos c7] at H
        have c7b0 : ((rd l0 x5_1) == (rd l1 x5_1)) = true := beq_iff_eq.mpr c7
        have c7b1 : ((rd l0 x5_1) != (rd l1 x5_1)) = false := bne_eq_false_iff_eq.mpr c7
        clear c7
        have H' := am_ H
        clear H
        have p324 : 0 ≤ (x5_1 : Int) := ot_ (by first | (with_reducible assumption) | assumption)
        have q324 : x5_1 < (l0.length : Int) := ot_ (by first | (with_reducible assumption) | assumption)
        obtain ⟨ad324, e324, hx324_0⟩ := Kd.at_int HR0.out x5_1 p324 q324
        cases e324
        replace p324 := eq_true p324
        replace q324 := eq_true q324
        have p325 : 0 ≤ (x5_1 : Int) := ot_ (by first | (with_reducible assumption) | assumption)
        have q325 : x5_1 < (l1.length : Int) := ot_ (by first | (with_reducible assumption) | assumption)
        obtain ⟨ad325, e325, hx325_0⟩ := Kd.at_int HR1.out x5_1 p325 q325
        cases e325
        replace p325 := eq_true p325
        replace q325 := eq_true q325
        go_wp2
        repeat (go_quiet (fail); try go_wp2)
        go_roundg k1
        case measure => have := HK1.out; omega
        case rel => exact ⟨(wrap64 (x5_1 + 1)), (by first | rfl | (simp; done) | (simp [*]; done)), H', ⟨by have := HK1.out; omega⟩, by repeat (first | exact Drawn0.refl _ | apply Drawn0.step)⟩
       ·
        rw [if_neg c7] at H
        have c7b0 : ((rd l0 x5_1) == (rd l1 x5_1)) = false := beq_eq_false_iff_ne.mpr c7
        have c7b1 : ((rd l0 x5_1) != (rd l1 x5_1)) = true := bne_iff_ne.mpr c7
        obtain rfl := si_ H
        have p324 : 0 ≤ (x5_1 : Int) := ot_ (by first | (with_reducible assumption) | assumption)
        have q324 : x5_1 < (l0.length : Int) := ot_ (by first | (with_reducible assumption) | assumption)
        obtain ⟨ad324, e324, hx324_0⟩ := Kd.at_int HR0.out x5_1 p324 q324
        cases e324
        replace p324 := eq_true p324
        replace q324 := eq_true q324
        have p325 : 0 ≤ (x5_1 : Int) := ot_ (by first | (with_reducible assumption) | assumption)
        have q325 : x5_1 < (l1.length : Int) := ot_ (by first | (with_reducible assumption) | assumption)
        obtain ⟨ad325, e325, hx325_0⟩ := Kd.at_int HR1.out x5_1 p325 q325
        cases e325
        replace p325 := eq_true p325
        replace q325 := eq_true q325
        go_wp2
        repeat (go_quiet (fail); try go_wp2)
        go_ret
        exact ⟨by first | rfl | (simp; done) | (simp [*]; done), by repeat (first | exact Drawn0.refl _ | apply Drawn0.step)⟩
      ·
       rw [if_neg c6] at H
       exact absurd H (by simp)
     ·
      rw [if_neg c5] at H
      exact absurd H (by simp)
    ·
     rw [if_neg c4] at H
     have c4b0 : decide (x5_1 < (l0.length : Int)) = false := df_ c4
     clear c4
     obtain rfl := si_ H
     go_wp2
     repeat (go_quiet (fail); try go_wp2)
     go_ret
     exact ⟨by first | rfl | (simp; done) | (simp [*]; done), by repeat (first | exact Drawn0.refl _ | apply Drawn0.step)⟩
 ·
  rw [if_neg c3] at H
  have c3b0 : ((l0.length : Int) == (l1.length : Int)) = false := beq_eq_false_iff_ne.mpr c3
  have c3b1 : ((l0.length : Int) != (l1.length : Int)) = true := bne_iff_ne.mpr c3
  have c3b2 : (l0.length == l1.length) = false := by first | simpa using c3 | (simp at c3 ⊢; omega)
  obtain rfl := si_ H
  go_enter Try.func47, Try.ntmps47
  go_wp2
  repeat (go_quiet (fail); try go_wp2)
  go_ret
  exact ⟨by first | rfl | (simp; done) | (simp [*]; done), by repeat (first | exact Drawn0.refl _ | apply Drawn0.step)⟩
def tapearchivelaw26_sameRecords.l0 : Nat → List (S87) → List (S79) → Int → Option (Bool)
 | 0, _, _, _ => none
 | k + 1, x0, x1, x5 => if x5 < (x0.length : Int) then (if 0 ≤ x5 then (if x5 < (x1.length : Int) then (if ((rd_T87 x0 x5).f0) = ((rd_T79 x1 x5).f0) then ((tapearchivelaw26_equal.f k ((rd_T87 x0 x5).f1) ((rd_T79 x1 x5).f1)).bind fun t330 => (if t330 = true then (tapearchivelaw26_sameRecords.l0 k x0 x1 (wrap64 (x5 + 1))) else (some false))) else (some false)) else (none)) else (none)) else (some true)
def tapearchivelaw26_sameRecords.f (k : Nat) (l0 : List (S87)) (l1 : List (S79)) : Option (Bool) := if (l0.length : Int) = (l1.length : Int) then (tapearchivelaw26_sameRecords.l0 k l0 l1 0) else (some false)
set_option maxHeartbeats 8000000 in
set_option maxRecDepth 100000 in
theorem tapearchivelaw26_sameRecords.calls (k : Nat) (A0 : Option Addr) (c0 : Nat) (l0 : List (S87)) (A1 : Option Addr) (c1 : Nat) (l1 : List (S79)) (r : Bool) (w : World) (hr0 : Kd.C k87 w A0 l0.length l0) (hc0 : l0.length ≤ c0) (hr1 : Kd.C k79 w A1 l1.length l1) (hc1 : l1.length ≤ c1) (h : tapearchivelaw26_sameRecords.f k l0 l1 = some r) :
  Calls Try.prog 35 #[.slice A0 l0.length c0, .slice A1 l1.length c1] w fun e w' => e = .returned (.bool r) ∧ Drawn0 w w' := by
 have HR0 := am_ hr0
 have HC0 := am_ hc0
 clear hr0 hc0
 have HR1 := am_ hr1
 have HC1 := am_ hc1
 clear hr1 hc1
 have H : (if (l0.length : Int) = (l1.length : Int) then (tapearchivelaw26_sameRecords.l0 k l0 l1 0) else (some false)) = some r := h
 clear h
 by_cases c3 : (l0.length : Int) = (l1.length : Int)
 ·
  rw [if_pos c3] at H
  have c3b0 : ((l0.length : Int) == (l1.length : Int)) = true := beq_iff_eq.mpr c3
  have c3b1 : ((l0.length : Int) != (l1.length : Int)) = false := bne_eq_false_iff_eq.mpr c3
  have c3b2 : (l0.length == l1.length) = true := by first | simpa using c3 | (simp at c3 ⊢; omega)
  clear c3
  have H' := am_ H
  clear H
  go_enter Try.func35, Try.ntmps35
  go_wp2
  repeat (go_quiet (fail); try go_wp2)
  go_loopg [5] k (fun kq v5 w' => ∃ (x5_1 : Int), v5 = .int .i64 x5_1 ∧ Aside0 (tapearchivelaw26_sameRecords.l0 kq l0 l1 x5_1 = some r) ∧ Aside0 (kq ≤ k) ∧ Drawn0 w w')
  case atStart => exact ⟨(0), (by first | rfl | (simp; done) | (simp [*]; done)), H', ⟨Nat.le_refl _⟩, by repeat (first | exact Drawn0.refl _ | apply Drawn0.step)⟩
  case round =>
   clear H'
   try clear c1
   try clear p2
   try clear c3
   try clear c3b0
   try clear c3b1
   try clear c3b2
   obtain ⟨x5_1, rfl, HA, HK1, ⟨m1, rfl⟩⟩ := hrel
   cases gk with
   | zero => exact absurd HA.out (by simp [tapearchivelaw26_sameRecords.l0])
   | succ k1 =>
    have H := HA.out
    clear HA
    simp only [tapearchivelaw26_sameRecords.l0] at H
    by_cases c4 : x5_1 < (l0.length : Int)
    ·
     rw [if_pos c4] at H
     have c4b0 : decide (x5_1 < (l0.length : Int)) = true := de_ c4
     clear c4
     by_cases c5 : 0 ≤ x5_1
     ·
      rw [if_pos c5] at H
      have c5b0 : decide (0 ≤ x5_1) = true := de_ c5
      clear c5
      by_cases c6 : x5_1 < (l1.length : Int)
      ·
       rw [if_pos c6] at H
       have c6b0 : decide (x5_1 < (l1.length : Int)) = true := de_ c6
       clear c6
       by_cases c7 : ((rd_T87 l0 x5_1).f0) = ((rd_T79 l1 x5_1).f0)
       ·
        rw [if_pos c7] at H
        have c7b0 : (((rd_T87 l0 x5_1).f0) == ((rd_T79 l1 x5_1).f0)) = true := beq_iff_eq.mpr c7
        have c7b1 : (((rd_T87 l0 x5_1).f0) != ((rd_T79 l1 x5_1).f0)) = false := bne_eq_false_iff_eq.mpr c7
        clear c7
        replace H := Option.bind_eq_some_iff.mp H
        obtain ⟨t330, A80, H⟩ := H
        replace H : (if t330 = true then (tapearchivelaw26_sameRecords.l0 k1 l0 l1 (wrap64 (x5_1 + 1))) else (some false)) = some r := H
        have A8 := am_ A80
        clear A80
        by_cases c9 : t330 = true
        ·
         subst c9
         have H1 : (tapearchivelaw26_sameRecords.l0 k1 l0 l1 (wrap64 (x5_1 + 1))) = some r := by rw [if_pos rfl] at H; exact H
         clear H
         have H := H1
         clear H1
         have H' := am_ H
         clear H
         have p326 : 0 ≤ (x5_1 : Int) := ot_ (by first | (with_reducible assumption) | assumption)
         have q326 : x5_1 < (l0.length : Int) := ot_ (by first | (with_reducible assumption) | assumption)
         obtain ⟨ad326, A326_1, c326_1, e326, hx326_0, hx326_1, hl326_1, hi326_1⟩ := at_T87 HR0.out x5_1 p326 q326
         cases e326
         have HR326_1 := am_ hi326_1
         have HC326_1 := am_ hl326_1
         clear hi326_1 hl326_1
         replace p326 := eq_true p326
         replace q326 := eq_true q326
         have p327 : 0 ≤ (x5_1 : Int) := ot_ (by first | (with_reducible assumption) | assumption)
         have q327 : x5_1 < (l1.length : Int) := ot_ (by first | (with_reducible assumption) | assumption)
         obtain ⟨ad327, A327_1, c327_1, e327, hx327_0, hx327_1, hl327_1, hi327_1⟩ := at_T79 HR1.out x5_1 p327 q327
         cases e327
         have HR327_1 := am_ hi327_1
         have HC327_1 := am_ hl327_1
         clear hi327_1 hl327_1
         replace p327 := eq_true p327
         replace q327 := eq_true q327
         have p328 : 0 ≤ (x5_1 : Int) := ot_ (by first | (with_reducible assumption) | assumption)
         have q328 : x5_1 < (l0.length : Int) := ot_ (by first | (with_reducible assumption) | assumption)
         obtain ⟨ad328, A328_1, c328_1, e328, hx328_0, hx328_1, hl328_1, hi328_1⟩ := at_T87 HR0.out x5_1 p328 q328
         obtain rfl : ad326 = ad328 := (by injection e328)
         have HR328_1 := am_ hi328_1
         have HC328_1 := am_ hl328_1
         clear hi328_1 hl328_1
         replace p328 := eq_true p328
         replace q328 := eq_true q328
         have ea_ := si_ (hx326_1.symm.trans hx328_1)
         injection ea_ with ea_ en_ ec_
         subst ea_
         subst ec_
         clear en_
         have p329 : 0 ≤ (x5_1 : Int) := ot_ (by first | (with_reducible assumption) | assumption)
         have q329 : x5_1 < (l1.length : Int) := ot_ (by first | (with_reducible assumption) | assumption)
         obtain ⟨ad329, A329_1, c329_1, e329, hx329_0, hx329_1, hl329_1, hi329_1⟩ := at_T79 HR1.out x5_1 p329 q329
         obtain rfl : ad327 = ad329 := (by injection e329)
         have HR329_1 := am_ hi329_1
         have HC329_1 := am_ hl329_1
         clear hi329_1 hl329_1
         replace p329 := eq_true p329
         replace q329 := eq_true q329
         have ea_ := si_ (hx327_1.symm.trans hx329_1)
         injection ea_ with ea_ en_ ec_
         subst ea_
         subst ec_
         clear en_
         go_wp2_with (first | (go_at_call 47; (with_reducible refine (tapearchivelaw26_equal.calls k1 _ _ ((rd_T87 l0 x5_1).f1) _ _ ((rd_T79 l1 x5_1).f1) true _ ?side1 ?side2 ?side3 ?side4 A8.out).mono ?_); (case side1 => repeat (first | exact HR328_1.out | (with_reducible refine Kd.C_alloc ?_ _) | (with_reducible refine Kd.C_drewN ?_ _) | (with_reducible refine Kd.C_drew ?_))); (case side2 => exact HC328_1.out); (case side3 => repeat (first | exact HR329_1.out | (with_reducible refine Kd.C_alloc ?_ _) | (with_reducible refine Kd.C_drewN ?_ _) | (with_reducible refine Kd.C_drew ?_))); (case side4 => exact HC329_1.out); rintro e w' ⟨rfl, ⟨nd, rfl⟩⟩; (try first | exact ⟨rfl, _, World.drewN_drewN _ _ _⟩ | exact ⟨rfl, _, Eq.trans (World.drewN_drewN _ _ _) (congrArg (World.drewN _) (Nat.add_assoc _ _ _))⟩)))
         repeat (go_quiet (first | (go_at_call 47; (with_reducible refine (tapearchivelaw26_equal.calls k1 _ _ ((rd_T87 l0 x5_1).f1) _ _ ((rd_T79 l1 x5_1).f1) true _ ?side1 ?side2 ?side3 ?side4 A8.out).mono ?_); (case side1 => repeat (first | exact HR328_1.out | (with_reducible refine Kd.C_alloc ?_ _) | (with_reducible refine Kd.C_drewN ?_ _) | (with_reducible refine Kd.C_drew ?_))); (case side2 => exact HC328_1.out); (case side3 => repeat (first | exact HR329_1.out | (with_reducible refine Kd.C_alloc ?_ _) | (with_reducible refine Kd.C_drewN ?_ _) | (with_reducible refine Kd.C_drew ?_))); (case side4 => exact HC329_1.out); rintro e w' ⟨rfl, ⟨nd, rfl⟩⟩; (try first | exact ⟨rfl, _, World.drewN_drewN _ _ _⟩ | exact ⟨rfl, _, Eq.trans (World.drewN_drewN _ _ _) (congrArg (World.drewN _) (Nat.add_assoc _ _ _))⟩))); try go_wp2_with (first | (go_at_call 47; (with_reducible refine (tapearchivelaw26_equal.calls k1 _ _ ((rd_T87 l0 x5_1).f1) _ _ ((rd_T79 l1 x5_1).f1) true _ ?side1 ?side2 ?side3 ?side4 A8.out).mono ?_); (case side1 => repeat (first | exact HR328_1.out | (with_reducible refine Kd.C_alloc ?_ _) | (with_reducible refine Kd.C_drewN ?_ _) | (with_reducible refine Kd.C_drew ?_))); (case side2 => exact HC328_1.out); (case side3 => repeat (first | exact HR329_1.out | (with_reducible refine Kd.C_alloc ?_ _) | (with_reducible refine Kd.C_drewN ?_ _) | (with_reducible refine Kd.C_drew ?_))); (case side4 => exact HC329_1.out); rintro e w' ⟨rfl, ⟨nd, rfl⟩⟩; (try first | exact ⟨rfl, _, World.drewN_drewN _ _ _⟩ | exact ⟨rfl, _, Eq.trans (World.drewN_drewN _ _ _) (congrArg (World.drewN _) (Nat.add_assoc _ _ _))⟩))))
         go_roundg k1
         case measure => have := HK1.out; omega
         case rel => exact ⟨(wrap64 (x5_1 + 1)), (by first | rfl | (simp; done) | (simp [*]; done)), H', ⟨by have := HK1.out; omega⟩, by repeat (first | exact Drawn0.refl _ | apply Drawn0.step)⟩
        ·
         replace c9 := Bool.eq_false_iff.mpr c9
         subst c9
         have H1 : (some false) = some r := by rw [if_neg (show ¬ (false = true) by decide)] at H; exact H
         clear H
         have H := H1
         clear H1
         obtain rfl := si_ H
         have p326 : 0 ≤ (x5_1 : Int) := ot_ (by first | (with_reducible assumption) | assumption)
         have q326 : x5_1 < (l0.length : Int) := ot_ (by first | (with_reducible assumption) | assumption)
         obtain ⟨ad326, A326_1, c326_1, e326, hx326_0, hx326_1, hl326_1, hi326_1⟩ := at_T87 HR0.out x5_1 p326 q326
         cases e326
         have HR326_1 := am_ hi326_1
         have HC326_1 := am_ hl326_1
         clear hi326_1 hl326_1
         replace p326 := eq_true p326
         replace q326 := eq_true q326
         have p327 : 0 ≤ (x5_1 : Int) := ot_ (by first | (with_reducible assumption) | assumption)
         have q327 : x5_1 < (l1.length : Int) := ot_ (by first | (with_reducible assumption) | assumption)
         obtain ⟨ad327, A327_1, c327_1, e327, hx327_0, hx327_1, hl327_1, hi327_1⟩ := at_T79 HR1.out x5_1 p327 q327
         cases e327
         have HR327_1 := am_ hi327_1
         have HC327_1 := am_ hl327_1
         clear hi327_1 hl327_1
         replace p327 := eq_true p327
         replace q327 := eq_true q327
         have p328 : 0 ≤ (x5_1 : Int) := ot_ (by first | (with_reducible assumption) | assumption)
         have q328 : x5_1 < (l0.length : Int) := ot_ (by first | (with_reducible assumption) | assumption)
         obtain ⟨ad328, A328_1, c328_1, e328, hx328_0, hx328_1, hl328_1, hi328_1⟩ := at_T87 HR0.out x5_1 p328 q328
         obtain rfl : ad326 = ad328 := (by injection e328)
         have HR328_1 := am_ hi328_1
         have HC328_1 := am_ hl328_1
         clear hi328_1 hl328_1
         replace p328 := eq_true p328
         replace q328 := eq_true q328
         have ea_ := si_ (hx326_1.symm.trans hx328_1)
         injection ea_ with ea_ en_ ec_
         subst ea_
         subst ec_
         clear en_
         have p329 : 0 ≤ (x5_1 : Int) := ot_ (by first | (with_reducible assumption) | assumption)
         have q329 : x5_1 < (l1.length : Int) := ot_ (by first | (with_reducible assumption) | assumption)
         obtain ⟨ad329, A329_1, c329_1, e329, hx329_0, hx329_1, hl329_1, hi329_1⟩ := at_T79 HR1.out x5_1 p329 q329
         obtain rfl : ad327 = ad329 := (by injection e329)
         have HR329_1 := am_ hi329_1
         have HC329_1 := am_ hl329_1
         clear hi329_1 hl329_1
         replace p329 := eq_true p329
         replace q329 := eq_true q329
         have ea_ := si_ (hx327_1.symm.trans hx329_1)
         injection ea_ with ea_ en_ ec_
         subst ea_
         subst ec_
         clear en_
         go_wp2_with (first | (go_at_call 47; (with_reducible refine (tapearchivelaw26_equal.calls k1 _ _ ((rd_T87 l0 x5_1).f1) _ _ ((rd_T79 l1 x5_1).f1) false _ ?side1 ?side2 ?side3 ?side4 A8.out).mono ?_); (case side1 => repeat (first | exact HR328_1.out | (with_reducible refine Kd.C_alloc ?_ _) | (with_reducible refine Kd.C_drewN ?_ _) | (with_reducible refine Kd.C_drew ?_))); (case side2 => exact HC328_1.out); (case side3 => repeat (first | exact HR329_1.out | (with_reducible refine Kd.C_alloc ?_ _) | (with_reducible refine Kd.C_drewN ?_ _) | (with_reducible refine Kd.C_drew ?_))); (case side4 => exact HC329_1.out); rintro e w' ⟨rfl, ⟨nd, rfl⟩⟩; (try first | exact ⟨rfl, _, World.drewN_drewN _ _ _⟩ | exact ⟨rfl, _, Eq.trans (World.drewN_drewN _ _ _) (congrArg (World.drewN _) (Nat.add_assoc _ _ _))⟩)))
         repeat (go_quiet (first | (go_at_call 47; (with_reducible refine (tapearchivelaw26_equal.calls k1 _ _ ((rd_T87 l0 x5_1).f1) _ _ ((rd_T79 l1 x5_1).f1) false _ ?side1 ?side2 ?side3 ?side4 A8.out).mono ?_); (case side1 => repeat (first | exact HR328_1.out | (with_reducible refine Kd.C_alloc ?_ _) | (with_reducible refine Kd.C_drewN ?_ _) | (with_reducible refine Kd.C_drew ?_))); (case side2 => exact HC328_1.out); (case side3 => repeat (first | exact HR329_1.out | (with_reducible refine Kd.C_alloc ?_ _) | (with_reducible refine Kd.C_drewN ?_ _) | (with_reducible refine Kd.C_drew ?_))); (case side4 => exact HC329_1.out); rintro e w' ⟨rfl, ⟨nd, rfl⟩⟩; (try first | exact ⟨rfl, _, World.drewN_drewN _ _ _⟩ | exact ⟨rfl, _, Eq.trans (World.drewN_drewN _ _ _) (congrArg (World.drewN _) (Nat.add_assoc _ _ _))⟩))); try go_wp2_with (first | (go_at_call 47; (with_reducible refine (tapearchivelaw26_equal.calls k1 _ _ ((rd_T87 l0 x5_1).f1) _ _ ((rd_T79 l1 x5_1).f1) false _ ?side1 ?side2 ?side3 ?side4 A8.out).mono ?_); (case side1 => repeat (first | exact HR328_1.out | (with_reducible refine Kd.C_alloc ?_ _) | (with_reducible refine Kd.C_drewN ?_ _) | (with_reducible refine Kd.C_drew ?_))); (case side2 => exact HC328_1.out); (case side3 => repeat (first | exact HR329_1.out | (with_reducible refine Kd.C_alloc ?_ _) | (with_reducible refine Kd.C_drewN ?_ _) | (with_reducible refine Kd.C_drew ?_))); (case side4 => exact HC329_1.out); rintro e w' ⟨rfl, ⟨nd, rfl⟩⟩; (try first | exact ⟨rfl, _, World.drewN_drewN _ _ _⟩ | exact ⟨rfl, _, Eq.trans (World.drewN_drewN _ _ _) (congrArg (World.drewN _) (Nat.add_assoc _ _ _))⟩))))
         go_ret
         exact ⟨by first | rfl | (simp; done) | (simp [*]; done), by repeat (first | exact Drawn0.refl _ | apply Drawn0.step)⟩
       ·
        rw [if_neg c7] at H
        have c7b0 : (((rd_T87 l0 x5_1).f0) == ((rd_T79 l1 x5_1).f0)) = false := beq_eq_false_iff_ne.mpr c7
        have c7b1 : (((rd_T87 l0 x5_1).f0) != ((rd_T79 l1 x5_1).f0)) = true := bne_iff_ne.mpr c7
        obtain rfl := si_ H
        have p326 : 0 ≤ (x5_1 : Int) := ot_ (by first | (with_reducible assumption) | assumption)
        have q326 : x5_1 < (l0.length : Int) := ot_ (by first | (with_reducible assumption) | assumption)
        obtain ⟨ad326, A326_1, c326_1, e326, hx326_0, hx326_1, hl326_1, hi326_1⟩ := at_T87 HR0.out x5_1 p326 q326
        cases e326
        have HR326_1 := am_ hi326_1
        have HC326_1 := am_ hl326_1
        clear hi326_1 hl326_1
        replace p326 := eq_true p326
        replace q326 := eq_true q326
        have p327 : 0 ≤ (x5_1 : Int) := ot_ (by first | (with_reducible assumption) | assumption)
        have q327 : x5_1 < (l1.length : Int) := ot_ (by first | (with_reducible assumption) | assumption)
        obtain ⟨ad327, A327_1, c327_1, e327, hx327_0, hx327_1, hl327_1, hi327_1⟩ := at_T79 HR1.out x5_1 p327 q327
        cases e327
        have HR327_1 := am_ hi327_1
        have HC327_1 := am_ hl327_1
        clear hi327_1 hl327_1
        replace p327 := eq_true p327
        replace q327 := eq_true q327
        go_wp2
        repeat (go_quiet (fail); try go_wp2)
        go_ret
        exact ⟨by first | rfl | (simp; done) | (simp [*]; done), by repeat (first | exact Drawn0.refl _ | apply Drawn0.step)⟩
      ·
       rw [if_neg c6] at H
       exact absurd H (by simp)
     ·
      rw [if_neg c5] at H
      exact absurd H (by simp)
    ·
     rw [if_neg c4] at H
     have c4b0 : decide (x5_1 < (l0.length : Int)) = false := df_ c4
     clear c4
     obtain rfl := si_ H
     go_wp2
     repeat (go_quiet (fail); try go_wp2)
     go_ret
     exact ⟨by first | rfl | (simp; done) | (simp [*]; done), by repeat (first | exact Drawn0.refl _ | apply Drawn0.step)⟩
 ·
  rw [if_neg c3] at H
  have c3b0 : ((l0.length : Int) == (l1.length : Int)) = false := beq_eq_false_iff_ne.mpr c3
  have c3b1 : ((l0.length : Int) != (l1.length : Int)) = true := bne_iff_ne.mpr c3
  have c3b2 : (l0.length == l1.length) = false := by first | simpa using c3 | (simp at c3 ⊢; omega)
  obtain rfl := si_ H
  go_enter Try.func35, Try.ntmps35
  go_wp2
  repeat (go_quiet (fail); try go_wp2)
  go_ret
  exact ⟨by first | rfl | (simp; done) | (simp [*]; done), by repeat (first | exact Drawn0.refl _ | apply Drawn0.step)⟩
def tapearchivelaw26_sameNode.f (k : Nat) (a0_0 : Int) (a0_1 : Int) (l0_2 : List (S87)) (a1_0 : Int) (a1_1 : Int) (l1_2 : List (S79)) : Option (Bool) := if a0_0 = a1_0 then (if a0_1 = a1_1 then ((tapearchivelaw26_sameRecords.f k l0_2 l1_2).bind fun t336 => (some t336)) else (some false)) else (some false)
set_option maxHeartbeats 8000000 in
set_option maxRecDepth 100000 in
theorem tapearchivelaw26_sameNode.calls (k : Nat) (a0_0 : Int) (a0_1 : Int) (A0_2 : Option Addr) (c0_2 : Nat) (l0_2 : List (S87)) (a1_0 : Int) (a1_1 : Int) (A1_2 : Option Addr) (c1_2 : Nat) (l1_2 : List (S79)) (r : Bool) (w : World) (hr0_2 : Kd.C k87 w A0_2 l0_2.length l0_2) (hc0_2 : l0_2.length ≤ c0_2) (hr1_2 : Kd.C k79 w A1_2 l1_2.length l1_2) (hc1_2 : l1_2.length ≤ c1_2) (h : tapearchivelaw26_sameNode.f k a0_0 a0_1 l0_2 a1_0 a1_1 l1_2 = some r) :
  Calls Try.prog 16 #[.agg #[.int .i64 a0_0, .int .i64 a0_1, .slice A0_2 l0_2.length c0_2], .agg #[.int .i64 a1_0, .int .i64 a1_1, .slice A1_2 l1_2.length c1_2]] w fun e w' => e = .returned (.bool r) ∧ Below w.heap.size w w' := by
 have hu35 := Try.underlying35
 have hu24 := Try.underlying24
 have HR0_2 := am_ hr0_2
 have HC0_2 := am_ hc0_2
 clear hr0_2 hc0_2
 have HR1_2 := am_ hr1_2
 have HC1_2 := am_ hc1_2
 clear hr1_2 hc1_2
 have HB := am_ (Below.refl w.heap.size w)
 have H : (if a0_0 = a1_0 then (if a0_1 = a1_1 then ((tapearchivelaw26_sameRecords.f k l0_2 l1_2).bind fun t336 => (some t336)) else (some false)) else (some false)) = some r := h
 clear h
 by_cases c3 : a0_0 = a1_0
 ·
  rw [if_pos c3] at H
  have c3b0 : (a0_0 == a1_0) = true := beq_iff_eq.mpr c3
  have c3b1 : (a0_0 != a1_0) = false := bne_eq_false_iff_eq.mpr c3
  clear c3
  by_cases c4 : a0_1 = a1_1
  ·
   rw [if_pos c4] at H
   have c4b0 : (a0_1 == a1_1) = true := beq_iff_eq.mpr c4
   have c4b1 : (a0_1 != a1_1) = false := bne_eq_false_iff_eq.mpr c4
   clear c4
   replace H := Option.bind_eq_some_iff.mp H
   obtain ⟨t336, A50, H⟩ := H
   replace H : (some t336) = some r := H
   have A5 := am_ A50
   clear A50
   obtain rfl := si_ H
   go_enter Try.func16, Try.ntmps16
   go_wp2_with (first | ((with_reducible refine gate_dst (N := 2) rfl ?_); refine box_event ?hg (N := 2) ?hd (cs := #[.int .i64 a0_0, .int .i64 a0_1, .slice A0_2 l0_2.length c0_2]) (t := 35) ?hr ?_; (case hd => rfl); (case hg => rfl); (case hr => first | (go_simp; done) | (go_simp; rfl)); intro gb334 hg w6 hbox hb; have n0_ := am_ (sp_ (pb0_ HB.out) hb); have n1_ := am_ (hbox); have n2_ := am_ ((by rw [hg]; exact (bz_ (pb0_ HB.out)) : w.heap.size ≤ gb334)); have n3_ := am_ ((by rw [hg]; exact (bz_ (pb0_ HB.out)) : w.heap.size ≤ gb334)); clear HB; have HB := n0_; have BK334 := n1_; have GW334 := n2_; have GE334 := n3_; clear n0_ n1_ n2_ n3_; clear hb hbox hg) | ((with_reducible refine gate_dst (N := 3) rfl ?_); refine box_event ?hg (N := 3) ?hd (cs := #[.int .i64 a1_0, .int .i64 a1_1, .slice A1_2 l1_2.length c1_2]) (t := 24) ?hr ?_; (case hd => rfl); (case hg => rfl); (case hr => first | (go_simp; done) | (go_simp; rfl)); intro gb335 hg w7 hbox hb; have n0_ := am_ (bw_ (g := gb334) (o := .cells #[.int .i64 a0_0, .int .i64 a0_1, .slice A0_2 l0_2.length c0_2] 35 (0, 0)) (pk_ BK334.out) hb); have n1_ := am_ (sp_ (pb1_ HB.out GE334.out) hb); have n2_ := am_ (hbox); have n3_ := am_ ((by rw [hg]; exact (bz_ (pb1_ HB.out GE334.out)) : w.heap.size ≤ gb335)); have n4_ := am_ ((by rw [hg]; exact (bz_ (pb1_ HB.out GE334.out)) : w.heap.size ≤ gb335)); have n5_ := am_ ((by rw [hg]; exact Nat.ne_of_lt (blk_lt (g := gb334) (o := .cells #[.int .i64 a0_0, .int .i64 a0_1, .slice A0_2 l0_2.length c0_2] 35 (0, 0)) (pk_ BK334.out)) : gb334 ≠ gb335)); have n6_ := am_ ((by rw [hg]; exact Nat.ne_of_gt (blk_lt (g := gb334) (o := .cells #[.int .i64 a0_0, .int .i64 a0_1, .slice A0_2 l0_2.length c0_2] 35 (0, 0)) (pk_ BK334.out)) : gb335 ≠ gb334)); clear BK334; clear HB; have BK334 := n0_; have HB := n1_; have BK335 := n2_; have GW335 := n3_; have GE335 := n4_; have NB334_335 := n5_; have NB335_334 := n6_; clear n0_ n1_ n2_ n3_ n4_ n5_ n6_; clear hb hbox hg; have hnb8 := NB334_335.out; have hnc8 := NB335_334.out; have hcz9_0 : w7.cell? ⟨gb334, 0, none⟩ = some (.int .i64 a0_0) := (bc_ BK334.out 0).trans rfl; have hcz9_1 : w7.cell? ⟨gb334, 1, none⟩ = some (.int .i64 a0_1) := (bc_ BK334.out 1).trans rfl; have hcz9_2 : w7.cell? ⟨gb334, 2, none⟩ = some (.slice A0_2 l0_2.length c0_2) := (bc_ BK334.out 2).trans rfl; have hfz9_0 := bf_ BK334.out 0; have hfz9_1 := bf_ BK334.out 1; have hfz9_2 := bf_ BK334.out 2; have hcz10_0 : w7.cell? ⟨gb335, 0, none⟩ = some (.int .i64 a1_0) := (bc_ BK335.out 0).trans rfl; have hcz10_1 : w7.cell? ⟨gb335, 1, none⟩ = some (.int .i64 a1_1) := (bc_ BK335.out 1).trans rfl; have hcz10_2 : w7.cell? ⟨gb335, 2, none⟩ = some (.slice A1_2 l1_2.length c1_2) := (bc_ BK335.out 2).trans rfl; have hfz10_0 := bf_ BK335.out 0; have hfz10_1 := bf_ BK335.out 1; have hfz10_2 := bf_ BK335.out 2) | (go_at_call 35; (with_reducible refine (tapearchivelaw26_sameRecords.calls k _ _ l0_2 _ _ l1_2 t336 _ ?side1 ?side2 ?side3 ?side4 A5.out).mono ?_); (case side1 => repeat (first | exact (Kd.C_below HR0_2.out HB.out) | (with_reducible refine Kd.C_alloc ?_ _) | (with_reducible refine Kd.C_drewN ?_ _) | (with_reducible refine Kd.C_drew ?_))); (case side2 => exact HC0_2.out); (case side3 => repeat (first | exact (Kd.C_below HR1_2.out HB.out) | (with_reducible refine Kd.C_alloc ?_ _) | (with_reducible refine Kd.C_drewN ?_ _) | (with_reducible refine Kd.C_drew ?_))); (case side4 => exact HC1_2.out); rintro e w' ⟨rfl, ⟨nd, rfl⟩⟩))
   go_ret
   exact ⟨by first | rfl | (simp [errW_none, errW_some] <;> rfl) | (simp [*, errW_none, errW_some] <;> rfl), pb2_ HB.out GE334.out GE335.out⟩
  ·
   rw [if_neg c4] at H
   have c4b0 : (a0_1 == a1_1) = false := beq_eq_false_iff_ne.mpr c4
   have c4b1 : (a0_1 != a1_1) = true := bne_iff_ne.mpr c4
   obtain rfl := si_ H
   go_enter Try.func16, Try.ntmps16
   go_wp2_with (first | ((with_reducible refine gate_dst (N := 2) rfl ?_); refine box_event ?hg (N := 2) ?hd (cs := #[.int .i64 a0_0, .int .i64 a0_1, .slice A0_2 l0_2.length c0_2]) (t := 35) ?hr ?_; (case hd => rfl); (case hg => rfl); (case hr => first | (go_simp; done) | (go_simp; rfl)); intro gb334 hg w11 hbox hb; have n0_ := am_ (sp_ (pb0_ HB.out) hb); have n1_ := am_ (hbox); have n2_ := am_ ((by rw [hg]; exact (bz_ (pb0_ HB.out)) : w.heap.size ≤ gb334)); have n3_ := am_ ((by rw [hg]; exact (bz_ (pb0_ HB.out)) : w.heap.size ≤ gb334)); clear HB; have HB := n0_; have BK334 := n1_; have GW334 := n2_; have GE334 := n3_; clear n0_ n1_ n2_ n3_; clear hb hbox hg) | ((with_reducible refine gate_dst (N := 3) rfl ?_); refine box_event ?hg (N := 3) ?hd (cs := #[.int .i64 a1_0, .int .i64 a1_1, .slice A1_2 l1_2.length c1_2]) (t := 24) ?hr ?_; (case hd => rfl); (case hg => rfl); (case hr => first | (go_simp; done) | (go_simp; rfl)); intro gb335 hg w12 hbox hb; have n0_ := am_ (bw_ (g := gb334) (o := .cells #[.int .i64 a0_0, .int .i64 a0_1, .slice A0_2 l0_2.length c0_2] 35 (0, 0)) (pk_ BK334.out) hb); have n1_ := am_ (sp_ (pb1_ HB.out GE334.out) hb); have n2_ := am_ (hbox); have n3_ := am_ ((by rw [hg]; exact (bz_ (pb1_ HB.out GE334.out)) : w.heap.size ≤ gb335)); have n4_ := am_ ((by rw [hg]; exact (bz_ (pb1_ HB.out GE334.out)) : w.heap.size ≤ gb335)); have n5_ := am_ ((by rw [hg]; exact Nat.ne_of_lt (blk_lt (g := gb334) (o := .cells #[.int .i64 a0_0, .int .i64 a0_1, .slice A0_2 l0_2.length c0_2] 35 (0, 0)) (pk_ BK334.out)) : gb334 ≠ gb335)); have n6_ := am_ ((by rw [hg]; exact Nat.ne_of_gt (blk_lt (g := gb334) (o := .cells #[.int .i64 a0_0, .int .i64 a0_1, .slice A0_2 l0_2.length c0_2] 35 (0, 0)) (pk_ BK334.out)) : gb335 ≠ gb334)); clear BK334; clear HB; have BK334 := n0_; have HB := n1_; have BK335 := n2_; have GW335 := n3_; have GE335 := n4_; have NB334_335 := n5_; have NB335_334 := n6_; clear n0_ n1_ n2_ n3_ n4_ n5_ n6_; clear hb hbox hg; have hnb13 := NB334_335.out; have hnc13 := NB335_334.out; have hcz14_0 : w12.cell? ⟨gb334, 0, none⟩ = some (.int .i64 a0_0) := (bc_ BK334.out 0).trans rfl; have hcz14_1 : w12.cell? ⟨gb334, 1, none⟩ = some (.int .i64 a0_1) := (bc_ BK334.out 1).trans rfl; have hcz14_2 : w12.cell? ⟨gb334, 2, none⟩ = some (.slice A0_2 l0_2.length c0_2) := (bc_ BK334.out 2).trans rfl; have hfz14_0 := bf_ BK334.out 0; have hfz14_1 := bf_ BK334.out 1; have hfz14_2 := bf_ BK334.out 2; have hcz15_0 : w12.cell? ⟨gb335, 0, none⟩ = some (.int .i64 a1_0) := (bc_ BK335.out 0).trans rfl; have hcz15_1 : w12.cell? ⟨gb335, 1, none⟩ = some (.int .i64 a1_1) := (bc_ BK335.out 1).trans rfl; have hcz15_2 : w12.cell? ⟨gb335, 2, none⟩ = some (.slice A1_2 l1_2.length c1_2) := (bc_ BK335.out 2).trans rfl; have hfz15_0 := bf_ BK335.out 0; have hfz15_1 := bf_ BK335.out 1; have hfz15_2 := bf_ BK335.out 2))
   go_ret
   exact ⟨by first | rfl | (simp [errW_none, errW_some] <;> rfl) | (simp [*, errW_none, errW_some] <;> rfl), pb2_ HB.out GE334.out GE335.out⟩
 ·
  rw [if_neg c3] at H
  have c3b0 : (a0_0 == a1_0) = false := beq_eq_false_iff_ne.mpr c3
  have c3b1 : (a0_0 != a1_0) = true := bne_iff_ne.mpr c3
  obtain rfl := si_ H
  go_enter Try.func16, Try.ntmps16
  go_wp2_with (first | ((with_reducible refine gate_dst (N := 2) rfl ?_); refine box_event ?hg (N := 2) ?hd (cs := #[.int .i64 a0_0, .int .i64 a0_1, .slice A0_2 l0_2.length c0_2]) (t := 35) ?hr ?_; (case hd => rfl); (case hg => rfl); (case hr => first | (go_simp; done) | (go_simp; rfl)); intro gb334 hg w16 hbox hb; have n0_ := am_ (sp_ (pb0_ HB.out) hb); have n1_ := am_ (hbox); have n2_ := am_ ((by rw [hg]; exact (bz_ (pb0_ HB.out)) : w.heap.size ≤ gb334)); have n3_ := am_ ((by rw [hg]; exact (bz_ (pb0_ HB.out)) : w.heap.size ≤ gb334)); clear HB; have HB := n0_; have BK334 := n1_; have GW334 := n2_; have GE334 := n3_; clear n0_ n1_ n2_ n3_; clear hb hbox hg) | ((with_reducible refine gate_dst (N := 3) rfl ?_); refine box_event ?hg (N := 3) ?hd (cs := #[.int .i64 a1_0, .int .i64 a1_1, .slice A1_2 l1_2.length c1_2]) (t := 24) ?hr ?_; (case hd => rfl); (case hg => rfl); (case hr => first | (go_simp; done) | (go_simp; rfl)); intro gb335 hg w17 hbox hb; have n0_ := am_ (bw_ (g := gb334) (o := .cells #[.int .i64 a0_0, .int .i64 a0_1, .slice A0_2 l0_2.length c0_2] 35 (0, 0)) (pk_ BK334.out) hb); have n1_ := am_ (sp_ (pb1_ HB.out GE334.out) hb); have n2_ := am_ (hbox); have n3_ := am_ ((by rw [hg]; exact (bz_ (pb1_ HB.out GE334.out)) : w.heap.size ≤ gb335)); have n4_ := am_ ((by rw [hg]; exact (bz_ (pb1_ HB.out GE334.out)) : w.heap.size ≤ gb335)); have n5_ := am_ ((by rw [hg]; exact Nat.ne_of_lt (blk_lt (g := gb334) (o := .cells #[.int .i64 a0_0, .int .i64 a0_1, .slice A0_2 l0_2.length c0_2] 35 (0, 0)) (pk_ BK334.out)) : gb334 ≠ gb335)); have n6_ := am_ ((by rw [hg]; exact Nat.ne_of_gt (blk_lt (g := gb334) (o := .cells #[.int .i64 a0_0, .int .i64 a0_1, .slice A0_2 l0_2.length c0_2] 35 (0, 0)) (pk_ BK334.out)) : gb335 ≠ gb334)); clear BK334; clear HB; have BK334 := n0_; have HB := n1_; have BK335 := n2_; have GW335 := n3_; have GE335 := n4_; have NB334_335 := n5_; have NB335_334 := n6_; clear n0_ n1_ n2_ n3_ n4_ n5_ n6_; clear hb hbox hg; have hnb18 := NB334_335.out; have hnc18 := NB335_334.out; have hcz19_0 : w17.cell? ⟨gb334, 0, none⟩ = some (.int .i64 a0_0) := (bc_ BK334.out 0).trans rfl; have hcz19_1 : w17.cell? ⟨gb334, 1, none⟩ = some (.int .i64 a0_1) := (bc_ BK334.out 1).trans rfl; have hcz19_2 : w17.cell? ⟨gb334, 2, none⟩ = some (.slice A0_2 l0_2.length c0_2) := (bc_ BK334.out 2).trans rfl; have hfz19_0 := bf_ BK334.out 0; have hfz19_1 := bf_ BK334.out 1; have hfz19_2 := bf_ BK334.out 2; have hcz20_0 : w17.cell? ⟨gb335, 0, none⟩ = some (.int .i64 a1_0) := (bc_ BK335.out 0).trans rfl; have hcz20_1 : w17.cell? ⟨gb335, 1, none⟩ = some (.int .i64 a1_1) := (bc_ BK335.out 1).trans rfl; have hcz20_2 : w17.cell? ⟨gb335, 2, none⟩ = some (.slice A1_2 l1_2.length c1_2) := (bc_ BK335.out 2).trans rfl; have hfz20_0 := bf_ BK335.out 0; have hfz20_1 := bf_ BK335.out 1; have hfz20_2 := bf_ BK335.out 2))
  go_ret
  exact ⟨by first | rfl | (simp [errW_none, errW_some] <;> rfl) | (simp [*, errW_none, errW_some] <;> rfl), pb2_ HB.out GE334.out GE335.out⟩
end Go.Proofs.Ytbigcpjlahkggaa.Q
