import Derived.Test.YtbigcpjlahkggaaKReplicaAccepts10
set_option linter.unusedVariables false
set_option linter.unusedSimpArgs false
section
namespace Go.Proofs.Ytbigcpjlahkggaa.Q
open Go.RowKit Go.Proofs.YtbigcpjlahkggaaW.PrintWords Go.Proofs.YtbigcpjlahkggaaW.PrintLast Go.Proofs.YtbigcpjlahkggaaW.PrintMore
attribute [local go_sem] max2_int min2_int max_two min_two max_three min_three max_four min_four
attribute [local go_sem ↓] isSome_setCell
attribute [local go_sem] string_gtr
set_option linter.unusedVariables false
set_option linter.unusedSimpArgs false
def tapearchivelaw26_equal.l0 : Nat → List Int → List Int → Int → Option (Bool)
 | 0, _, _, _ => none
 | k + 1, x0, x1, x5 => if x5 < (x0.length : Int) then (if 0 ≤ x5 then (if x5 < (x1.length : Int) then (if (rd x0 x5) = (rd x1 x5) then (tapearchivelaw26_equal.l0 k x0 x1 (wrap64 (x5 + 1))) else (some false)) else (none)) else (none)) else (some true)
def tapearchivelaw26_equal.f (k : Nat) (l0 : List Int) (l1 : List Int) : Option (Bool) := if (l0.length : Int) = (l1.length : Int) then (tapearchivelaw26_equal.l0 k l0 l1 0) else (some false)
set_option maxHeartbeats 8000000 in
set_option maxRecDepth 100000 in
theorem tapearchivelaw26_equal.calls (k : Nat) (A0 : Option Addr) (c0 : Nat) (l0 : List Int) (A1 : Option Addr) (c1 : Nat) (l1 : List Int) (r : Bool) (w : World) (hr0 : Kd.C (Kd.int .u8) w A0 l0.length l0) (hc0 : l0.length ≤ c0) (hr1 : Kd.C (Kd.int .u8) w A1 l1.length l1) (hc1 : l1.length ≤ c1) (h : tapearchivelaw26_equal.f k l0 l1 = some r) :
  Calls Try.prog 47 #[.slice A0 l0.length c0, .slice A1 l1.length c1] w fun e w' => e = .returned (.bool r) ∧ Drawn0 w w' := by
 have HR0 := am_ hr0; have HC0 := am_ hc0; clear hr0 hc0; have HR1 := am_ hr1; have HC1 := am_ hc1; clear hr1 hc1; have H : (if (l0.length : Int) = (l1.length : Int) then (tapearchivelaw26_equal.l0 k l0 l1 0) else (some false)) = some r := h; clear h
 by_cases c3 : (l0.length : Int) = (l1.length : Int)
 ·
  rw [if_pos c3] at H; have c3b0 : ((l0.length : Int) == (l1.length : Int)) = true := beq_iff_eq.mpr c3; have c3b1 : ((l0.length : Int) != (l1.length : Int)) = false := bne_eq_false_iff_eq.mpr c3; have c3b2 : (l0.length == l1.length) = true := by first | simpa using c3 | (simp at c3 ⊢; omega)
  clear c3; have H' := am_ H; clear H; go_enter Try.func47, Try.ntmps47; go_wp2
  repeat (go_quiet (fail); try go_wp2)
  go_loopg [5] k (fun kq v5 w' => ∃ (x5_1 : Int), v5 = .int .i64 x5_1 ∧ Aside0 (tapearchivelaw26_equal.l0 kq l0 l1 x5_1 = some r) ∧ Aside0 (kq ≤ k) ∧ Drawn0 w w')
  case atStart => exact ⟨(0), (by first | rfl | (simp; done) | (simp [*]; done)), H', ⟨Nat.le_refl _⟩, by repeat (first | exact Drawn0.refl _ | apply Drawn0.step)⟩
  case round =>
   clear H'
   try clear c1
   try clear p2
   try clear c3
   try clear c3b0
   try clear c3b1
   try clear c3b2
   obtain ⟨x5_1, rfl, HA, HK1, ⟨m1, rfl⟩⟩ := hrel; cases gk with
   | zero => exact absurd HA.out (by simp [tapearchivelaw26_equal.l0])
   | succ k1 =>
    have H := HA.out; clear HA; simp only [tapearchivelaw26_equal.l0] at H
    by_cases c4 : x5_1 < (l0.length : Int)
    ·
     rw [if_pos c4] at H; have c4b0 : decide (x5_1 < (l0.length : Int)) = true := de_ c4; clear c4
     by_cases c5 : 0 ≤ x5_1
     ·
      rw [if_pos c5] at H; have c5b0 : decide (0 ≤ x5_1) = true := de_ c5; clear c5
      by_cases c6 : x5_1 < (l1.length : Int)
      ·
       rw [if_pos c6] at H; have c6b0 : decide (x5_1 < (l1.length : Int)) = true := de_ c6; clear c6
       by_cases c7 : (rd l0 x5_1) = (rd l1 x5_1)
       ·
        rw [if_pos c7] at H; have c7b0 : ((rd l0 x5_1) == (rd l1 x5_1)) = true := beq_iff_eq.mpr c7; have c7b1 : ((rd l0 x5_1) != (rd l1 x5_1)) = false := bne_eq_false_iff_eq.mpr c7; clear c7; have H' := am_ H; clear H; have p324 : 0 ≤ (x5_1 : Int) := ot_ (by first | (with_reducible assumption) | assumption); have q324 : x5_1 < (l0.length : Int) := ot_ (by first | (with_reducible assumption) | assumption); obtain ⟨ad324, e324, hx324_0⟩ := Kd.at_int HR0.out x5_1 p324 q324; cases e324; replace p324 := eq_true p324; replace q324 := eq_true q324; have p325 : 0 ≤ (x5_1 : Int) := ot_ (by first | (with_reducible assumption) | assumption); have q325 : x5_1 < (l1.length : Int) := ot_ (by first | (with_reducible assumption) | assumption); obtain ⟨ad325, e325, hx325_0⟩ := Kd.at_int HR1.out x5_1 p325 q325; cases e325; replace p325 := eq_true p325; replace q325 := eq_true q325; go_wp2
        repeat (go_quiet (fail); try go_wp2)
        go_roundg k1
        case measure => have := HK1.out; omega
        case rel => exact ⟨(wrap64 (x5_1 + 1)), (by first | rfl | (simp; done) | (simp [*]; done)), H', ⟨by have := HK1.out; omega⟩, by repeat (first | exact Drawn0.refl _ | apply Drawn0.step)⟩
       ·
        rw [if_neg c7] at H; have c7b0 : ((rd l0 x5_1) == (rd l1 x5_1)) = false := beq_eq_false_iff_ne.mpr c7; have c7b1 : ((rd l0 x5_1) != (rd l1 x5_1)) = true := bne_iff_ne.mpr c7; obtain rfl := si_ H; have p324 : 0 ≤ (x5_1 : Int) := ot_ (by first | (with_reducible assumption) | assumption); have q324 : x5_1 < (l0.length : Int) := ot_ (by first | (with_reducible assumption) | assumption); obtain ⟨ad324, e324, hx324_0⟩ := Kd.at_int HR0.out x5_1 p324 q324; cases e324; replace p324 := eq_true p324; replace q324 := eq_true q324; have p325 : 0 ≤ (x5_1 : Int) := ot_ (by first | (with_reducible assumption) | assumption); have q325 : x5_1 < (l1.length : Int) := ot_ (by first | (with_reducible assumption) | assumption); obtain ⟨ad325, e325, hx325_0⟩ := Kd.at_int HR1.out x5_1 p325 q325; cases e325; replace p325 := eq_true p325; replace q325 := eq_true q325; go_wp2
        repeat (go_quiet (fail); try go_wp2)
        go_ret; exact ⟨by first | rfl | (simp; done) | (simp [*]; done), by repeat (first | exact Drawn0.refl _ | apply Drawn0.step)⟩
      ·
       rw [if_neg c6] at H; exact absurd H (by simp)
     ·
      rw [if_neg c5] at H; exact absurd H (by simp)
    ·
     rw [if_neg c4] at H; have c4b0 : decide (x5_1 < (l0.length : Int)) = false := df_ c4; clear c4; obtain rfl := si_ H; go_wp2
     repeat (go_quiet (fail); try go_wp2)
     go_ret; exact ⟨by first | rfl | (simp; done) | (simp [*]; done), by repeat (first | exact Drawn0.refl _ | apply Drawn0.step)⟩
 ·
  rw [if_neg c3] at H; have c3b0 : ((l0.length : Int) == (l1.length : Int)) = false := beq_eq_false_iff_ne.mpr c3; have c3b1 : ((l0.length : Int) != (l1.length : Int)) = true := bne_iff_ne.mpr c3; have c3b2 : (l0.length == l1.length) = false := by first | simpa using c3 | (simp at c3 ⊢; omega)
  obtain rfl := si_ H; go_enter Try.func47, Try.ntmps47; go_wp2
  repeat (go_quiet (fail); try go_wp2)
  go_ret; exact ⟨by first | rfl | (simp; done) | (simp [*]; done), by repeat (first | exact Drawn0.refl _ | apply Drawn0.step)⟩
def tapearchivelaw26_sameRecords.l0 : Nat → List (S87) → List (S79) → Int → Option (Bool)
 | 0, _, _, _ => none
 | k + 1, x0, x1, x5 => if x5 < (x0.length : Int) then (if 0 ≤ x5 then (if x5 < (x1.length : Int) then (if ((rd_T87 x0 x5).f0) = ((rd_T79 x1 x5).f0) then ((tapearchivelaw26_equal.f k ((rd_T87 x0 x5).f1) ((rd_T79 x1 x5).f1)).bind fun t330 => (if t330 = true then (tapearchivelaw26_sameRecords.l0 k x0 x1 (wrap64 (x5 + 1))) else (some false))) else (some false)) else (none)) else (none)) else (some true)
def tapearchivelaw26_sameRecords.f (k : Nat) (l0 : List (S87)) (l1 : List (S79)) : Option (Bool) := if (l0.length : Int) = (l1.length : Int) then (tapearchivelaw26_sameRecords.l0 k l0 l1 0) else (some false)
set_option maxHeartbeats 8000000 in
set_option maxRecDepth 100000 in
theorem tapearchivelaw26_sameRecords.calls (k : Nat) (A0 : Option Addr) (c0 : Nat) (l0 : List (S87)) (A1 : Option Addr) (c1 : Nat) (l1 : List (S79)) (r : Bool) (w : World) (hr0 : Kd.C k87 w A0 l0.length l0) (hc0 : l0.length ≤ c0) (hr1 : Kd.C k79 w A1 l1.length l1) (hc1 : l1.length ≤ c1) (h : tapearchivelaw26_sameRecords.f k l0 l1 = some r) :
  Calls Try.prog 35 #[.slice A0 l0.length c0, .slice A1 l1.length c1] w fun e w' => e = .returned (.bool r) ∧ Drawn0 w w' := by
 have HR0 := am_ hr0; have HC0 := am_ hc0; clear hr0 hc0; have HR1 := am_ hr1; have HC1 := am_ hc1; clear hr1 hc1; have H : (if (l0.length : Int) = (l1.length : Int) then (tapearchivelaw26_sameRecords.l0 k l0 l1 0) else (some false)) = some r := h; clear h
 by_cases c3 : (l0.length : Int) = (l1.length : Int)
 ·
  rw [if_pos c3] at H; have c3b0 : ((l0.length : Int) == (l1.length : Int)) = true := beq_iff_eq.mpr c3; have c3b1 : ((l0.length : Int) != (l1.length : Int)) = false := bne_eq_false_iff_eq.mpr c3; have c3b2 : (l0.length == l1.length) = true := by first | simpa using c3 | (simp at c3 ⊢; omega)
  clear c3; have H' := am_ H; clear H; go_enter Try.func35, Try.ntmps35; go_wp2
  repeat (go_quiet (fail); try go_wp2)
  go_loopg [5] k (fun kq v5 w' => ∃ (x5_1 : Int), v5 = .int .i64 x5_1 ∧ Aside0 (tapearchivelaw26_sameRecords.l0 kq l0 l1 x5_1 = some r) ∧ Aside0 (kq ≤ k) ∧ Drawn0 w w')
  case atStart => exact ⟨(0), (by first | rfl | (simp; done) | (simp [*]; done)), H', ⟨Nat.le_refl _⟩, by repeat (first | exact Drawn0.refl _ | apply Drawn0.step)⟩
  case round =>
   clear H'
   try clear c1
   try clear p2
   try clear c3
   try clear c3b0
   try clear c3b1
   try clear c3b2
   obtain ⟨x5_1, rfl, HA, HK1, ⟨m1, rfl⟩⟩ := hrel; cases gk with
   | zero => exact absurd HA.out (by simp [tapearchivelaw26_sameRecords.l0])
   | succ k1 =>
    have H := HA.out; clear HA; simp only [tapearchivelaw26_sameRecords.l0] at H
    by_cases c4 : x5_1 < (l0.length : Int)
    ·
     rw [if_pos c4] at H; have c4b0 : decide (x5_1 < (l0.length : Int)) = true := de_ c4; clear c4
     by_cases c5 : 0 ≤ x5_1
     ·
      rw [if_pos c5] at H; have c5b0 : decide (0 ≤ x5_1) = true := de_ c5; clear c5
      by_cases c6 : x5_1 < (l1.length : Int)
      ·
       rw [if_pos c6] at H; have c6b0 : decide (x5_1 < (l1.length : Int)) = true := de_ c6; clear c6
       by_cases c7 : ((rd_T87 l0 x5_1).f0) = ((rd_T79 l1 x5_1).f0)
       ·
        rw [if_pos c7] at H; have c7b0 : (((rd_T87 l0 x5_1).f0) == ((rd_T79 l1 x5_1).f0)) = true := beq_iff_eq.mpr c7; have c7b1 : (((rd_T87 l0 x5_1).f0) != ((rd_T79 l1 x5_1).f0)) = false := bne_eq_false_iff_eq.mpr c7; clear c7; replace H := Option.bind_eq_some_iff.mp H; obtain ⟨t330, A80, H⟩ := H; replace H : (if t330 = true then (tapearchivelaw26_sameRecords.l0 k1 l0 l1 (wrap64 (x5_1 + 1))) else (some false)) = some r := H; have A8 := am_ A80; clear A80
        by_cases c9 : t330 = true
        ·
         subst c9; have H1 : (tapearchivelaw26_sameRecords.l0 k1 l0 l1 (wrap64 (x5_1 + 1))) = some r := by rw [if_pos rfl] at H; exact H
         clear H; have H := H1; clear H1; have H' := am_ H; clear H; have p326 : 0 ≤ (x5_1 : Int) := ot_ (by first | (with_reducible assumption) | assumption); have q326 : x5_1 < (l0.length : Int) := ot_ (by first | (with_reducible assumption) | assumption); obtain ⟨ad326, A326_1, c326_1, e326, hx326_0, hx326_1, hl326_1, hi326_1⟩ := at_T87 HR0.out x5_1 p326 q326; cases e326; have HR326_1 := am_ hi326_1; have HC326_1 := am_ hl326_1; clear hi326_1 hl326_1; replace p326 := eq_true p326; replace q326 := eq_true q326; have p327 : 0 ≤ (x5_1 : Int) := ot_ (by first | (with_reducible assumption) | assumption); have q327 : x5_1 < (l1.length : Int) := ot_ (by first | (with_reducible assumption) | assumption); obtain ⟨ad327, A327_1, c327_1, e327, hx327_0, hx327_1, hl327_1, hi327_1⟩ := at_T79 HR1.out x5_1 p327 q327; cases e327; have HR327_1 := am_ hi327_1; have HC327_1 := am_ hl327_1; clear hi327_1 hl327_1; replace p327 := eq_true p327; replace q327 := eq_true q327; have p328 : 0 ≤ (x5_1 : Int) := ot_ (by first | (with_reducible assumption) | assumption); have q328 : x5_1 < (l0.length : Int) := ot_ (by first | (with_reducible assumption) | assumption); obtain ⟨ad328, A328_1, c328_1, e328, hx328_0, hx328_1, hl328_1, hi328_1⟩ := at_T87 HR0.out x5_1 p328 q328; obtain rfl : ad326 = ad328 := (by injection e328); have HR328_1 := am_ hi328_1; have HC328_1 := am_ hl328_1; clear hi328_1 hl328_1; replace p328 := eq_true p328; replace q328 := eq_true q328; have ea_ := si_ (hx326_1.symm.trans hx328_1); injection ea_ with ea_ en_ ec_
         subst ea_; subst ec_; clear en_; have p329 : 0 ≤ (x5_1 : Int) := ot_ (by first | (with_reducible assumption) | assumption); have q329 : x5_1 < (l1.length : Int) := ot_ (by first | (with_reducible assumption) | assumption); obtain ⟨ad329, A329_1, c329_1, e329, hx329_0, hx329_1, hl329_1, hi329_1⟩ := at_T79 HR1.out x5_1 p329 q329; obtain rfl : ad327 = ad329 := (by injection e329); have HR329_1 := am_ hi329_1; have HC329_1 := am_ hl329_1; clear hi329_1 hl329_1; replace p329 := eq_true p329; replace q329 := eq_true q329; have ea_ := si_ (hx327_1.symm.trans hx329_1); injection ea_ with ea_ en_ ec_
         subst ea_; subst ec_; clear en_
         go_wp2_with (first | (go_at_call 47; (with_reducible refine (tapearchivelaw26_equal.calls k1 _ _ ((rd_T87 l0 x5_1).f1) _ _ ((rd_T79 l1 x5_1).f1) true _ ?side1 ?side2 ?side3 ?side4 A8.out).mono ?_); (case side1 => repeat (first | exact HR328_1.out | (with_reducible refine Kd.C_alloc ?_ _) | (with_reducible refine Kd.C_drewN ?_ _) | (with_reducible refine Kd.C_drew ?_))); (case side2 => exact HC328_1.out); (case side3 => repeat (first | exact HR329_1.out | (with_reducible refine Kd.C_alloc ?_ _) | (with_reducible refine Kd.C_drewN ?_ _) | (with_reducible refine Kd.C_drew ?_))); (case side4 => exact HC329_1.out); rintro e w' ⟨rfl, ⟨nd, rfl⟩⟩; (try first | exact ⟨rfl, _, World.drewN_drewN _ _ _⟩ | exact ⟨rfl, _, Eq.trans (World.drewN_drewN _ _ _) (congrArg (World.drewN _) (Nat.add_assoc _ _ _))⟩)))
         repeat (go_quiet (first | (go_at_call 47; (with_reducible refine (tapearchivelaw26_equal.calls k1 _ _ ((rd_T87 l0 x5_1).f1) _ _ ((rd_T79 l1 x5_1).f1) true _ ?side1 ?side2 ?side3 ?side4 A8.out).mono ?_); (case side1 => repeat (first | exact HR328_1.out | (with_reducible refine Kd.C_alloc ?_ _) | (with_reducible refine Kd.C_drewN ?_ _) | (with_reducible refine Kd.C_drew ?_))); (case side2 => exact HC328_1.out); (case side3 => repeat (first | exact HR329_1.out | (with_reducible refine Kd.C_alloc ?_ _) | (with_reducible refine Kd.C_drewN ?_ _) | (with_reducible refine Kd.C_drew ?_))); (case side4 => exact HC329_1.out); rintro e w' ⟨rfl, ⟨nd, rfl⟩⟩; (try first | exact ⟨rfl, _, World.drewN_drewN _ _ _⟩ | exact ⟨rfl, _, Eq.trans (World.drewN_drewN _ _ _) (congrArg (World.drewN _) (Nat.add_assoc _ _ _))⟩))); try go_wp2_with (first | (go_at_call 47; (with_reducible refine (tapearchivelaw26_equal.calls k1 _ _ ((rd_T87 l0 x5_1).f1) _ _ ((rd_T79 l1 x5_1).f1) true _ ?side1 ?side2 ?side3 ?side4 A8.out).mono ?_); (case side1 => repeat (first | exact HR328_1.out | (with_reducible refine Kd.C_alloc ?_ _) | (with_reducible refine Kd.C_drewN ?_ _) | (with_reducible refine Kd.C_drew ?_))); (case side2 => exact HC328_1.out); (case side3 => repeat (first | exact HR329_1.out | (with_reducible refine Kd.C_alloc ?_ _) | (with_reducible refine Kd.C_drewN ?_ _) | (with_reducible refine Kd.C_drew ?_))); (case side4 => exact HC329_1.out); rintro e w' ⟨rfl, ⟨nd, rfl⟩⟩; (try first | exact ⟨rfl, _, World.drewN_drewN _ _ _⟩ | exact ⟨rfl, _, Eq.trans (World.drewN_drewN _ _ _) (congrArg (World.drewN _) (Nat.add_assoc _ _ _))⟩))))
         go_roundg k1
         case measure => have := HK1.out; omega
         case rel => exact ⟨(wrap64 (x5_1 + 1)), (by first | rfl | (simp; done) | (simp [*]; done)), H', ⟨by have := HK1.out; omega⟩, by repeat (first | exact Drawn0.refl _ | apply Drawn0.step)⟩
        ·
         replace c9 := Bool.eq_false_iff.mpr c9; subst c9; have H1 : (some false) = some r := by rw [if_neg (show ¬ (false = true) by decide)] at H; exact H
         clear H; have H := H1; clear H1; obtain rfl := si_ H; have p326 : 0 ≤ (x5_1 : Int) := ot_ (by first | (with_reducible assumption) | assumption); have q326 : x5_1 < (l0.length : Int) := ot_ (by first | (with_reducible assumption) | assumption); obtain ⟨ad326, A326_1, c326_1, e326, hx326_0, hx326_1, hl326_1, hi326_1⟩ := at_T87 HR0.out x5_1 p326 q326; cases e326; have HR326_1 := am_ hi326_1; have HC326_1 := am_ hl326_1; clear hi326_1 hl326_1; replace p326 := eq_true p326; replace q326 := eq_true q326; have p327 : 0 ≤ (x5_1 : Int) := ot_ (by first | (with_reducible assumption) | assumption); have q327 : x5_1 < (l1.length : Int) := ot_ (by first | (with_reducible assumption) | assumption); obtain ⟨ad327, A327_1, c327_1, e327, hx327_0, hx327_1, hl327_1, hi327_1⟩ := at_T79 HR1.out x5_1 p327 q327; cases e327; have HR327_1 := am_ hi327_1; have HC327_1 := am_ hl327_1; clear hi327_1 hl327_1; replace p327 := eq_true p327; replace q327 := eq_true q327; have p328 : 0 ≤ (x5_1 : Int) := ot_ (by first | (with_reducible assumption) | assumption); have q328 : x5_1 < (l0.length : Int) := ot_ (by first | (with_reducible assumption) | assumption); obtain ⟨ad328, A328_1, c328_1, e328, hx328_0, hx328_1, hl328_1, hi328_1⟩ := at_T87 HR0.out x5_1 p328 q328; obtain rfl : ad326 = ad328 := (by injection e328); have HR328_1 := am_ hi328_1; have HC328_1 := am_ hl328_1; clear hi328_1 hl328_1; replace p328 := eq_true p328; replace q328 := eq_true q328; have ea_ := si_ (hx326_1.symm.trans hx328_1); injection ea_ with ea_ en_ ec_
         subst ea_; subst ec_; clear en_; have p329 : 0 ≤ (x5_1 : Int) := ot_ (by first | (with_reducible assumption) | assumption); have q329 : x5_1 < (l1.length : Int) := ot_ (by first | (with_reducible assumption) | assumption); obtain ⟨ad329, A329_1, c329_1, e329, hx329_0, hx329_1, hl329_1, hi329_1⟩ := at_T79 HR1.out x5_1 p329 q329; obtain rfl : ad327 = ad329 := (by injection e329); have HR329_1 := am_ hi329_1; have HC329_1 := am_ hl329_1; clear hi329_1 hl329_1; replace p329 := eq_true p329; replace q329 := eq_true q329; have ea_ := si_ (hx327_1.symm.trans hx329_1); injection ea_ with ea_ en_ ec_
         subst ea_; subst ec_; clear en_
         go_wp2_with (first | (go_at_call 47; (with_reducible refine (tapearchivelaw26_equal.calls k1 _ _ ((rd_T87 l0 x5_1).f1) _ _ ((rd_T79 l1 x5_1).f1) false _ ?side1 ?side2 ?side3 ?side4 A8.out).mono ?_); (case side1 => repeat (first | exact HR328_1.out | (with_reducible refine Kd.C_alloc ?_ _) | (with_reducible refine Kd.C_drewN ?_ _) | (with_reducible refine Kd.C_drew ?_))); (case side2 => exact HC328_1.out); (case side3 => repeat (first | exact HR329_1.out | (with_reducible refine Kd.C_alloc ?_ _) | (with_reducible refine Kd.C_drewN ?_ _) | (with_reducible refine Kd.C_drew ?_))); (case side4 => exact HC329_1.out); rintro e w' ⟨rfl, ⟨nd, rfl⟩⟩; (try first | exact ⟨rfl, _, World.drewN_drewN _ _ _⟩ | exact ⟨rfl, _, Eq.trans (World.drewN_drewN _ _ _) (congrArg (World.drewN _) (Nat.add_assoc _ _ _))⟩)))
         repeat (go_quiet (first | (go_at_call 47; (with_reducible refine (tapearchivelaw26_equal.calls k1 _ _ ((rd_T87 l0 x5_1).f1) _ _ ((rd_T79 l1 x5_1).f1) false _ ?side1 ?side2 ?side3 ?side4 A8.out).mono ?_); (case side1 => repeat (first | exact HR328_1.out | (with_reducible refine Kd.C_alloc ?_ _) | (with_reducible refine Kd.C_drewN ?_ _) | (with_reducible refine Kd.C_drew ?_))); (case side2 => exact HC328_1.out); (case side3 => repeat (first | exact HR329_1.out | (with_reducible refine Kd.C_alloc ?_ _) | (with_reducible refine Kd.C_drewN ?_ _) | (with_reducible refine Kd.C_drew ?_))); (case side4 => exact HC329_1.out); rintro e w' ⟨rfl, ⟨nd, rfl⟩⟩; (try first | exact ⟨rfl, _, World.drewN_drewN _ _ _⟩ | exact ⟨rfl, _, Eq.trans (World.drewN_drewN _ _ _) (congrArg (World.drewN _) (Nat.add_assoc _ _ _))⟩))); try go_wp2_with (first | (go_at_call 47; (with_reducible refine (tapearchivelaw26_equal.calls k1 _ _ ((rd_T87 l0 x5_1).f1) _ _ ((rd_T79 l1 x5_1).f1) false _ ?side1 ?side2 ?side3 ?side4 A8.out).mono ?_); (case side1 => repeat (first | exact HR328_1.out | (with_reducible refine Kd.C_alloc ?_ _) | (with_reducible refine Kd.C_drewN ?_ _) | (with_reducible refine Kd.C_drew ?_))); (case side2 => exact HC328_1.out); (case side3 => repeat (first | exact HR329_1.out | (with_reducible refine Kd.C_alloc ?_ _) | (with_reducible refine Kd.C_drewN ?_ _) | (with_reducible refine Kd.C_drew ?_))); (case side4 => exact HC329_1.out); rintro e w' ⟨rfl, ⟨nd, rfl⟩⟩; (try first | exact ⟨rfl, _, World.drewN_drewN _ _ _⟩ | exact ⟨rfl, _, Eq.trans (World.drewN_drewN _ _ _) (congrArg (World.drewN _) (Nat.add_assoc _ _ _))⟩))))
         go_ret; exact ⟨by first | rfl | (simp; done) | (simp [*]; done), by repeat (first | exact Drawn0.refl _ | apply Drawn0.step)⟩
       ·
        rw [if_neg c7] at H; have c7b0 : (((rd_T87 l0 x5_1).f0) == ((rd_T79 l1 x5_1).f0)) = false := beq_eq_false_iff_ne.mpr c7; have c7b1 : (((rd_T87 l0 x5_1).f0) != ((rd_T79 l1 x5_1).f0)) = true := bne_iff_ne.mpr c7; obtain rfl := si_ H; have p326 : 0 ≤ (x5_1 : Int) := ot_ (by first | (with_reducible assumption) | assumption); have q326 : x5_1 < (l0.length : Int) := ot_ (by first | (with_reducible assumption) | assumption); obtain ⟨ad326, A326_1, c326_1, e326, hx326_0, hx326_1, hl326_1, hi326_1⟩ := at_T87 HR0.out x5_1 p326 q326; cases e326; have HR326_1 := am_ hi326_1; have HC326_1 := am_ hl326_1; clear hi326_1 hl326_1; replace p326 := eq_true p326; replace q326 := eq_true q326; have p327 : 0 ≤ (x5_1 : Int) := ot_ (by first | (with_reducible assumption) | assumption); have q327 : x5_1 < (l1.length : Int) := ot_ (by first | (with_reducible assumption) | assumption); obtain ⟨ad327, A327_1, c327_1, e327, hx327_0, hx327_1, hl327_1, hi327_1⟩ := at_T79 HR1.out x5_1 p327 q327; cases e327; have HR327_1 := am_ hi327_1; have HC327_1 := am_ hl327_1; clear hi327_1 hl327_1; replace p327 := eq_true p327; replace q327 := eq_true q327; go_wp2
        repeat (go_quiet (fail); try go_wp2)
        go_ret; exact ⟨by first | rfl | (simp; done) | (simp [*]; done), by repeat (first | exact Drawn0.refl _ | apply Drawn0.step)⟩
      ·
       rw [if_neg c6] at H; exact absurd H (by simp)
     ·
      rw [if_neg c5] at H; exact absurd H (by simp)
    ·
     rw [if_neg c4] at H; have c4b0 : decide (x5_1 < (l0.length : Int)) = false := df_ c4; clear c4; obtain rfl := si_ H; go_wp2
     repeat (go_quiet (fail); try go_wp2)
     go_ret; exact ⟨by first | rfl | (simp; done) | (simp [*]; done), by repeat (first | exact Drawn0.refl _ | apply Drawn0.step)⟩
 ·
  rw [if_neg c3] at H; have c3b0 : ((l0.length : Int) == (l1.length : Int)) = false := beq_eq_false_iff_ne.mpr c3; have c3b1 : ((l0.length : Int) != (l1.length : Int)) = true := bne_iff_ne.mpr c3; have c3b2 : (l0.length == l1.length) = false := by first | simpa using c3 | (simp at c3 ⊢; omega)
  obtain rfl := si_ H; go_enter Try.func35, Try.ntmps35; go_wp2
  repeat (go_quiet (fail); try go_wp2)
  go_ret; exact ⟨by first | rfl | (simp; done) | (simp [*]; done), by repeat (first | exact Drawn0.refl _ | apply Drawn0.step)⟩
def tapearchivelaw26_sameNode.f (k : Nat) (a0_0 : Int) (a0_1 : Int) (l0_2 : List (S87)) (a1_0 : Int) (a1_1 : Int) (l1_2 : List (S79)) : Option (Bool) := if a0_0 = a1_0 then (if a0_1 = a1_1 then ((tapearchivelaw26_sameRecords.f k l0_2 l1_2).bind fun t336 => (some t336)) else (some false)) else (some false)
set_option maxHeartbeats 8000000 in
set_option maxRecDepth 100000 in
theorem tapearchivelaw26_sameNode.calls (k : Nat) (a0_0 : Int) (a0_1 : Int) (A0_2 : Option Addr) (c0_2 : Nat) (l0_2 : List (S87)) (a1_0 : Int) (a1_1 : Int) (A1_2 : Option Addr) (c1_2 : Nat) (l1_2 : List (S79)) (r : Bool) (w : World) (hr0_2 : Kd.C k87 w A0_2 l0_2.length l0_2) (hc0_2 : l0_2.length ≤ c0_2) (hr1_2 : Kd.C k79 w A1_2 l1_2.length l1_2) (hc1_2 : l1_2.length ≤ c1_2) (h : tapearchivelaw26_sameNode.f k a0_0 a0_1 l0_2 a1_0 a1_1 l1_2 = some r) :
  Calls Try.prog 16 #[.agg #[.int .i64 a0_0, .int .i64 a0_1, .slice A0_2 l0_2.length c0_2], .agg #[.int .i64 a1_0, .int .i64 a1_1, .slice A1_2 l1_2.length c1_2]] w fun e w' => e = .returned (.bool r) ∧ Below w.heap.size w w' := by
 have hu35 := Try.underlying35; have hu24 := Try.underlying24; have HR0_2 := am_ hr0_2; have HC0_2 := am_ hc0_2; clear hr0_2 hc0_2; have HR1_2 := am_ hr1_2; have HC1_2 := am_ hc1_2; clear hr1_2 hc1_2; have HB := am_ (Below.refl w.heap.size w); have H : (if a0_0 = a1_0 then (if a0_1 = a1_1 then ((tapearchivelaw26_sameRecords.f k l0_2 l1_2).bind fun t336 => (some t336)) else (some false)) else (some false)) = some r := h; clear h
 by_cases c3 : a0_0 = a1_0
 ·
  rw [if_pos c3] at H; have c3b0 : (a0_0 == a1_0) = true := beq_iff_eq.mpr c3; have c3b1 : (a0_0 != a1_0) = false := bne_eq_false_iff_eq.mpr c3; clear c3
  by_cases c4 : a0_1 = a1_1
  ·
   rw [if_pos c4] at H; have c4b0 : (a0_1 == a1_1) = true := beq_iff_eq.mpr c4; have c4b1 : (a0_1 != a1_1) = false := bne_eq_false_iff_eq.mpr c4; clear c4; replace H := Option.bind_eq_some_iff.mp H; obtain ⟨t336, A50, H⟩ := H; replace H : (some t336) = some r := H; have A5 := am_ A50; clear A50; obtain rfl := si_ H; go_enter Try.func16, Try.ntmps16
   go_wp2_with (first | ((with_reducible refine gate_dst (N := 2) rfl ?_); refine box_event ?hg (N := 2) ?hd (cs := #[.int .i64 a0_0, .int .i64 a0_1, .slice A0_2 l0_2.length c0_2]) (t := 35) ?hr ?_; (case hd => rfl); (case hg => rfl); (case hr => first | (go_simp; done) | (go_simp; rfl)); intro gb334 hg w6 hbox hb; have n0_ := am_ (sp_ (pb0_ HB.out) hb); have n1_ := am_ (hbox); have n2_ := am_ ((by rw [hg]; exact (bz_ (pb0_ HB.out)) : w.heap.size ≤ gb334)); have n3_ := am_ ((by rw [hg]; exact (bz_ (pb0_ HB.out)) : w.heap.size ≤ gb334)); clear HB; have HB := n0_; have BK334 := n1_; have GW334 := n2_; have GE334 := n3_; clear n0_ n1_ n2_ n3_; clear hb hbox hg) | ((with_reducible refine gate_dst (N := 3) rfl ?_); refine box_event ?hg (N := 3) ?hd (cs := #[.int .i64 a1_0, .int .i64 a1_1, .slice A1_2 l1_2.length c1_2]) (t := 24) ?hr ?_; (case hd => rfl); (case hg => rfl); (case hr => first | (go_simp; done) | (go_simp; rfl)); intro gb335 hg w7 hbox hb; have n0_ := am_ (bw_ (g := gb334) (o := .cells #[.int .i64 a0_0, .int .i64 a0_1, .slice A0_2 l0_2.length c0_2] 35 (0, 0)) (pk_ BK334.out) hb); have n1_ := am_ (sp_ (pb1_ HB.out GE334.out) hb); have n2_ := am_ (hbox); have n3_ := am_ ((by rw [hg]; exact (bz_ (pb1_ HB.out GE334.out)) : w.heap.size ≤ gb335)); have n4_ := am_ ((by rw [hg]; exact (bz_ (pb1_ HB.out GE334.out)) : w.heap.size ≤ gb335)); have n5_ := am_ ((by rw [hg]; exact Nat.ne_of_lt (blk_lt (g := gb334) (o := .cells #[.int .i64 a0_0, .int .i64 a0_1, .slice A0_2 l0_2.length c0_2] 35 (0, 0)) (pk_ BK334.out)) : gb334 ≠ gb335)); have n6_ := am_ ((by rw [hg]; exact Nat.ne_of_gt (blk_lt (g := gb334) (o := .cells #[.int .i64 a0_0, .int .i64 a0_1, .slice A0_2 l0_2.length c0_2] 35 (0, 0)) (pk_ BK334.out)) : gb335 ≠ gb334)); clear BK334; clear HB; have BK334 := n0_; have HB := n1_; have BK335 := n2_; have GW335 := n3_; have GE335 := n4_; have NB334_335 := n5_; have NB335_334 := n6_; clear n0_ n1_ n2_ n3_ n4_ n5_ n6_; clear hb hbox hg; have hnb8 := NB334_335.out; have hnc8 := NB335_334.out; have hcz9_0 : w7.cell? ⟨gb334, 0, none⟩ = some (.int .i64 a0_0) := (bc_ BK334.out 0).trans rfl; have hcz9_1 : w7.cell? ⟨gb334, 1, none⟩ = some (.int .i64 a0_1) := (bc_ BK334.out 1).trans rfl; have hcz9_2 : w7.cell? ⟨gb334, 2, none⟩ = some (.slice A0_2 l0_2.length c0_2) := (bc_ BK334.out 2).trans rfl; have hfz9_0 := bf_ BK334.out 0; have hfz9_1 := bf_ BK334.out 1; have hfz9_2 := bf_ BK334.out 2; have hcz10_0 : w7.cell? ⟨gb335, 0, none⟩ = some (.int .i64 a1_0) := (bc_ BK335.out 0).trans rfl; have hcz10_1 : w7.cell? ⟨gb335, 1, none⟩ = some (.int .i64 a1_1) := (bc_ BK335.out 1).trans rfl; have hcz10_2 : w7.cell? ⟨gb335, 2, none⟩ = some (.slice A1_2 l1_2.length c1_2) := (bc_ BK335.out 2).trans rfl; have hfz10_0 := bf_ BK335.out 0; have hfz10_1 := bf_ BK335.out 1; have hfz10_2 := bf_ BK335.out 2) | (go_at_call 35; (with_reducible refine (tapearchivelaw26_sameRecords.calls k _ _ l0_2 _ _ l1_2 t336 _ ?side1 ?side2 ?side3 ?side4 A5.out).mono ?_); (case side1 => repeat (first | exact (Kd.C_below HR0_2.out HB.out) | (with_reducible refine Kd.C_alloc ?_ _) | (with_reducible refine Kd.C_drewN ?_ _) | (with_reducible refine Kd.C_drew ?_))); (case side2 => exact HC0_2.out); (case side3 => repeat (first | exact (Kd.C_below HR1_2.out HB.out) | (with_reducible refine Kd.C_alloc ?_ _) | (with_reducible refine Kd.C_drewN ?_ _) | (with_reducible refine Kd.C_drew ?_))); (case side4 => exact HC1_2.out); rintro e w' ⟨rfl, ⟨nd, rfl⟩⟩))
   go_ret; exact ⟨by first | rfl | (simp [errW_none, errW_some] <;> rfl) | (simp [*, errW_none, errW_some] <;> rfl), pb2_ HB.out GE334.out GE335.out⟩
  ·
   rw [if_neg c4] at H; have c4b0 : (a0_1 == a1_1) = false := beq_eq_false_iff_ne.mpr c4; have c4b1 : (a0_1 != a1_1) = true := bne_iff_ne.mpr c4; obtain rfl := si_ H; go_enter Try.func16, Try.ntmps16
   go_wp2_with (first | ((with_reducible refine gate_dst (N := 2) rfl ?_); refine box_event ?hg (N := 2) ?hd (cs := #[.int .i64 a0_0, .int .i64 a0_1, .slice A0_2 l0_2.length c0_2]) (t := 35) ?hr ?_; (case hd => rfl); (case hg => rfl); (case hr => first | (go_simp; done) | (go_simp; rfl)); intro gb334 hg w11 hbox hb; have n0_ := am_ (sp_ (pb0_ HB.out) hb); have n1_ := am_ (hbox); have n2_ := am_ ((by rw [hg]; exact (bz_ (pb0_ HB.out)) : w.heap.size ≤ gb334)); have n3_ := am_ ((by rw [hg]; exact (bz_ (pb0_ HB.out)) : w.heap.size ≤ gb334)); clear HB; have HB := n0_; have BK334 := n1_; have GW334 := n2_; have GE334 := n3_; clear n0_ n1_ n2_ n3_; clear hb hbox hg) | ((with_reducible refine gate_dst (N := 3) rfl ?_); refine box_event ?hg (N := 3) ?hd (cs := #[.int .i64 a1_0, .int .i64 a1_1, .slice A1_2 l1_2.length c1_2]) (t := 24) ?hr ?_; (case hd => rfl); (case hg => rfl); (case hr => first | (go_simp; done) | (go_simp; rfl)); intro gb335 hg w12 hbox hb; have n0_ := am_ (bw_ (g := gb334) (o := .cells #[.int .i64 a0_0, .int .i64 a0_1, .slice A0_2 l0_2.length c0_2] 35 (0, 0)) (pk_ BK334.out) hb); have n1_ := am_ (sp_ (pb1_ HB.out GE334.out) hb); have n2_ := am_ (hbox); have n3_ := am_ ((by rw [hg]; exact (bz_ (pb1_ HB.out GE334.out)) : w.heap.size ≤ gb335)); have n4_ := am_ ((by rw [hg]; exact (bz_ (pb1_ HB.out GE334.out)) : w.heap.size ≤ gb335)); have n5_ := am_ ((by rw [hg]; exact Nat.ne_of_lt (blk_lt (g := gb334) (o := .cells #[.int .i64 a0_0, .int .i64 a0_1, .slice A0_2 l0_2.length c0_2] 35 (0, 0)) (pk_ BK334.out)) : gb334 ≠ gb335)); have n6_ := am_ ((by rw [hg]; exact Nat.ne_of_gt (blk_lt (g := gb334) (o := .cells #[.int .i64 a0_0, .int .i64 a0_1, .slice A0_2 l0_2.length c0_2] 35 (0, 0)) (pk_ BK334.out)) : gb335 ≠ gb334)); clear BK334; clear HB; have BK334 := n0_; have HB := n1_; have BK335 := n2_; have GW335 := n3_; have GE335 := n4_; have NB334_335 := n5_; have NB335_334 := n6_; clear n0_ n1_ n2_ n3_ n4_ n5_ n6_; clear hb hbox hg; have hnb13 := NB334_335.out; have hnc13 := NB335_334.out; have hcz14_0 : w12.cell? ⟨gb334, 0, none⟩ = some (.int .i64 a0_0) := (bc_ BK334.out 0).trans rfl; have hcz14_1 : w12.cell? ⟨gb334, 1, none⟩ = some (.int .i64 a0_1) := (bc_ BK334.out 1).trans rfl; have hcz14_2 : w12.cell? ⟨gb334, 2, none⟩ = some (.slice A0_2 l0_2.length c0_2) := (bc_ BK334.out 2).trans rfl; have hfz14_0 := bf_ BK334.out 0; have hfz14_1 := bf_ BK334.out 1; have hfz14_2 := bf_ BK334.out 2; have hcz15_0 : w12.cell? ⟨gb335, 0, none⟩ = some (.int .i64 a1_0) := (bc_ BK335.out 0).trans rfl; have hcz15_1 : w12.cell? ⟨gb335, 1, none⟩ = some (.int .i64 a1_1) := (bc_ BK335.out 1).trans rfl; have hcz15_2 : w12.cell? ⟨gb335, 2, none⟩ = some (.slice A1_2 l1_2.length c1_2) := (bc_ BK335.out 2).trans rfl; have hfz15_0 := bf_ BK335.out 0; have hfz15_1 := bf_ BK335.out 1; have hfz15_2 := bf_ BK335.out 2))
   go_ret; exact ⟨by first | rfl | (simp [errW_none, errW_some] <;> rfl) | (simp [*, errW_none, errW_some] <;> rfl), pb2_ HB.out GE334.out GE335.out⟩
 ·
  rw [if_neg c3] at H; have c3b0 : (a0_0 == a1_0) = false := beq_eq_false_iff_ne.mpr c3; have c3b1 : (a0_0 != a1_0) = true := bne_iff_ne.mpr c3; obtain rfl := si_ H; go_enter Try.func16, Try.ntmps16
  go_wp2_with (first | ((with_reducible refine gate_dst (N := 2) rfl ?_); refine box_event ?hg (N := 2) ?hd (cs := #[.int .i64 a0_0, .int .i64 a0_1, .slice A0_2 l0_2.length c0_2]) (t := 35) ?hr ?_; (case hd => rfl); (case hg => rfl); (case hr => first | (go_simp; done) | (go_simp; rfl)); intro gb334 hg w16 hbox hb; have n0_ := am_ (sp_ (pb0_ HB.out) hb); have n1_ := am_ (hbox); have n2_ := am_ ((by rw [hg]; exact (bz_ (pb0_ HB.out)) : w.heap.size ≤ gb334)); have n3_ := am_ ((by rw [hg]; exact (bz_ (pb0_ HB.out)) : w.heap.size ≤ gb334)); clear HB; have HB := n0_; have BK334 := n1_; have GW334 := n2_; have GE334 := n3_; clear n0_ n1_ n2_ n3_; clear hb hbox hg) | ((with_reducible refine gate_dst (N := 3) rfl ?_); refine box_event ?hg (N := 3) ?hd (cs := #[.int .i64 a1_0, .int .i64 a1_1, .slice A1_2 l1_2.length c1_2]) (t := 24) ?hr ?_; (case hd => rfl); (case hg => rfl); (case hr => first | (go_simp; done) | (go_simp; rfl)); intro gb335 hg w17 hbox hb; have n0_ := am_ (bw_ (g := gb334) (o := .cells #[.int .i64 a0_0, .int .i64 a0_1, .slice A0_2 l0_2.length c0_2] 35 (0, 0)) (pk_ BK334.out) hb); have n1_ := am_ (sp_ (pb1_ HB.out GE334.out) hb); have n2_ := am_ (hbox); have n3_ := am_ ((by rw [hg]; exact (bz_ (pb1_ HB.out GE334.out)) : w.heap.size ≤ gb335)); have n4_ := am_ ((by rw [hg]; exact (bz_ (pb1_ HB.out GE334.out)) : w.heap.size ≤ gb335)); have n5_ := am_ ((by rw [hg]; exact Nat.ne_of_lt (blk_lt (g := gb334) (o := .cells #[.int .i64 a0_0, .int .i64 a0_1, .slice A0_2 l0_2.length c0_2] 35 (0, 0)) (pk_ BK334.out)) : gb334 ≠ gb335)); have n6_ := am_ ((by rw [hg]; exact Nat.ne_of_gt (blk_lt (g := gb334) (o := .cells #[.int .i64 a0_0, .int .i64 a0_1, .slice A0_2 l0_2.length c0_2] 35 (0, 0)) (pk_ BK334.out)) : gb335 ≠ gb334)); clear BK334; clear HB; have BK334 := n0_; have HB := n1_; have BK335 := n2_; have GW335 := n3_; have GE335 := n4_; have NB334_335 := n5_; have NB335_334 := n6_; clear n0_ n1_ n2_ n3_ n4_ n5_ n6_; clear hb hbox hg; have hnb18 := NB334_335.out; have hnc18 := NB335_334.out; have hcz19_0 : w17.cell? ⟨gb334, 0, none⟩ = some (.int .i64 a0_0) := (bc_ BK334.out 0).trans rfl; have hcz19_1 : w17.cell? ⟨gb334, 1, none⟩ = some (.int .i64 a0_1) := (bc_ BK334.out 1).trans rfl; have hcz19_2 : w17.cell? ⟨gb334, 2, none⟩ = some (.slice A0_2 l0_2.length c0_2) := (bc_ BK334.out 2).trans rfl; have hfz19_0 := bf_ BK334.out 0; have hfz19_1 := bf_ BK334.out 1; have hfz19_2 := bf_ BK334.out 2; have hcz20_0 : w17.cell? ⟨gb335, 0, none⟩ = some (.int .i64 a1_0) := (bc_ BK335.out 0).trans rfl; have hcz20_1 : w17.cell? ⟨gb335, 1, none⟩ = some (.int .i64 a1_1) := (bc_ BK335.out 1).trans rfl; have hcz20_2 : w17.cell? ⟨gb335, 2, none⟩ = some (.slice A1_2 l1_2.length c1_2) := (bc_ BK335.out 2).trans rfl; have hfz20_0 := bf_ BK335.out 0; have hfz20_1 := bf_ BK335.out 1; have hfz20_2 := bf_ BK335.out 2))
  go_ret; exact ⟨by first | rfl | (simp [errW_none, errW_some] <;> rfl) | (simp [*, errW_none, errW_some] <;> rfl), pb2_ HB.out GE334.out GE335.out⟩
end Go.Proofs.Ytbigcpjlahkggaa.Q
end
section
namespace Go.Proofs.Ytbigcpjlahkggaa.Q
open Go.RowKit Go.Proofs.YtbigcpjlahkggaaW.PrintWords Go.Proofs.YtbigcpjlahkggaaW.PrintLast Go.Proofs.YtbigcpjlahkggaaW.PrintMore
attribute [local go_sem] max2_int min2_int max_two min_two max_three min_three max_four min_four
attribute [local go_sem ↓] isSome_setCell
attribute [local go_sem] string_gtr
set_option linter.unusedVariables false
set_option linter.unusedSimpArgs false
def tapearchivelaw26_message.f (k : Nat) (a0_0 : Int) (a0_1 : Int) (a0_2 : Int) (l0_3 : List (S79)) (a0_4 : Int) : Option (Int × Int × Int × (List (S87)) × Int) := (tapearchivelaw26_records.f k l0_3).bind fun t387 => (some (a0_0, a0_1, a0_2, t387, a0_4))
def tapearchivelaw26_message.T1 : Bool × List (List Nat × List Nat) := (true, [([], []), ([0], [0]), ([], []), ([2], [2]), ([], []), ([4], [4]), ([], []), ([6], [6]), ([7], [7]), ([], []), ([9], [9]), ([1, 3, 5, 8, 10], [1, 3, 5, 8, 10]), ([11, 8, 0, 1, 2, 3, 4, 5, 6, 7, 8, 9, 10, 11], [11])])
def tapearchivelaw26_message.B1 : List Nat := [0, 1, 0, 4, 0, 16, 0, 64, 192, 0, 512, 2047, 4095]
theorem tapearchivelaw26_message.tab1 : rtab .any (opsOf Try.f18 1) = tapearchivelaw26_message.T1 := by kernel_rfl
theorem tapearchivelaw26_message.bits1 : waitsOk tapearchivelaw26_message.T1.2 tapearchivelaw26_message.B1 = true := by kernel_rfl
set_option maxHeartbeats 8000000 in
set_option maxRecDepth 100000 in
theorem tapearchivelaw26_message.calls (k : Nat) (a0_0 : Int) (a0_1 : Int) (a0_2 : Int) (A0_3 : Option Addr) (c0_3 : Nat) (l0_3 : List (S79)) (a0_4 : Int) (r1 : Int) (r2 : Int) (r3 : Int) (r4 : List (S87)) (r5 : Int) (w : World) (hr0_3 : Kd.C k79 w A0_3 l0_3.length l0_3) (hc0_3 : l0_3.length ≤ c0_3) (h : tapearchivelaw26_message.f k a0_0 a0_1 a0_2 l0_3 a0_4 = some (r1, r2, r3, r4, r5)) :
  Calls Try.prog 18 #[.agg #[.int .i64 a0_0, .int .i64 a0_1, .int .i64 a0_2, .slice A0_3 l0_3.length c0_3, .int .i64 a0_4]] w fun e w' => ∃ v3_ : Value, e = .returned (.agg #[.int .i64 r1, .int .i64 r2, .int .i64 r3, v3_, .int .i64 r5]) ∧ Kd.S k87 87 w' w.heap.size (fun _ => True) v3_ r4 ∧ Below w.heap.size w w' := by
 have hu38 := Try.underlying38; have hu30 := Try.underlying30; have HR0_3 := am_ hr0_3; have HC0_3 := am_ hc0_3; clear hr0_3 hc0_3; have HB := am_ (Below.refl w.heap.size w); have H : ((tapearchivelaw26_records.f k l0_3).bind fun t387 => (some (a0_0, a0_1, a0_2, t387, a0_4))) = some (r1, r2, r3, r4, r5) := h; clear h; replace H := Option.bind_eq_some_iff.mp H; obtain ⟨t387, A20, H⟩ := H; replace H : (some (a0_0, a0_1, a0_2, t387, a0_4)) = some (r1, r2, r3, r4, r5) := H; have A2 := am_ A20; clear A20; simp only [Option.some.injEq, Prod.mk.injEq] at H; obtain ⟨rfl, rfl, rfl, rfl, rfl⟩ := H; go_enter Try.func18, Try.ntmps18
 try go_wp2_with (first | ((with_reducible refine gate_dst (N := 1) rfl ?_); refine box_event ?hg (N := 1) ?hd (cs := #[.int .i64 a0_0, .int .i64 a0_1, .int .i64 a0_2, .slice A0_3 l0_3.length c0_3, .int .i64 a0_4]) (t := 38) ?hr ?_; (case hd => rfl); (case hg => rfl); (case hr => first | (go_simp; done) | (go_simp; rfl)); intro gb385 hg w3 hbox hb; have n0_ := am_ (sp_ (pb0_ HB.out) hb); have n1_ := am_ (hbox); have n2_ := am_ ((by rw [hg]; exact (bz_ (pb0_ HB.out)) : w.heap.size ≤ gb385)); have n3_ := am_ ((by rw [hg]; exact (bz_ (pb0_ HB.out)) : w.heap.size ≤ gb385)); clear HB; have HB := n0_; have BK385 := n1_; have GW385 := n2_; have GE385 := n3_; clear n0_ n1_ n2_ n3_; clear hb hbox hg) | ((with_reducible refine gate_dst (N := 2) rfl ?_); refine box_event ?hg (N := 2) ?hd (cs := #[.int .i64 0, .int .i64 0, .int .i64 0, .slice none 0 0, .int .i64 0]) (t := 30) ?hr ?_; (case hd => rfl); (case hg => rfl); (case hr => first | (go_simp; done) | (go_simp; rfl)); intro gb386 hg w4 hbox hb; have n0_ := am_ (bw_ (g := gb385) (o := .cells #[.int .i64 a0_0, .int .i64 a0_1, .int .i64 a0_2, .slice A0_3 l0_3.length c0_3, .int .i64 a0_4] 38 (0, 0)) (pk_ BK385.out) hb); have n1_ := am_ (sp_ (pb1_ HB.out GE385.out) hb); have n2_ := am_ (hbox); have n3_ := am_ ((by rw [hg]; exact (bz_ (pb1_ HB.out GE385.out)) : w.heap.size ≤ gb386)); have n4_ := am_ ((by rw [hg]; exact (bz_ (pb1_ HB.out GE385.out)) : w.heap.size ≤ gb386)); have n5_ := am_ ((by rw [hg]; exact Nat.ne_of_lt (blk_lt (g := gb385) (o := .cells #[.int .i64 a0_0, .int .i64 a0_1, .int .i64 a0_2, .slice A0_3 l0_3.length c0_3, .int .i64 a0_4] 38 (0, 0)) (pk_ BK385.out)) : gb385 ≠ gb386)); have n6_ := am_ ((by rw [hg]; exact Nat.ne_of_gt (blk_lt (g := gb385) (o := .cells #[.int .i64 a0_0, .int .i64 a0_1, .int .i64 a0_2, .slice A0_3 l0_3.length c0_3, .int .i64 a0_4] 38 (0, 0)) (pk_ BK385.out)) : gb386 ≠ gb385)); clear BK385; clear HB; have BK385 := n0_; have HB := n1_; have BK386 := n2_; have GW386 := n3_; have GE386 := n4_; have NB385_386 := n5_; have NB386_385 := n6_; clear n0_ n1_ n2_ n3_ n4_ n5_ n6_; clear hb hbox hg))
 have n0_ := am_ (bd_ BK385.out); have n1_ := am_ (bd_ BK386.out); have n2_ := am_ (b1_ HB.out); clear BK385; clear BK386; clear HB; have BK385 := n0_; have BK386 := n1_; have HB := n2_; clear n0_ n1_ n2_; refine start_ (n := 13) (S := fun w' => w'.cell? ⟨gb385, 0, none⟩ = some (.int .i64 a0_0) ∧ w'.cell? ⟨gb385, 1, none⟩ = some (.int .i64 a0_1) ∧ w'.cell? ⟨gb385, 2, none⟩ = some (.int .i64 a0_2) ∧ w'.cell? ⟨gb385, 3, none⟩ = some (.slice A0_3 l0_3.length c0_3) ∧ w'.cell? ⟨gb385, 4, none⟩ = some (.int .i64 a0_4)) (ds := []) #[false, false, false, false, false, false, false, false, false, false, false, false, false] (by kernel_rfl) rfl rfl ⟨(bc_ BK385.out 0).trans rfl, (bc_ BK385.out 1).trans rfl, (bc_ BK385.out 2).trans rfl, (bc_ BK385.out 3).trans rfl, (bc_ BK385.out 4).trans rfl⟩ (fun hHeld => ?_); refine with_tabW tapearchivelaw26_message.tab1 tapearchivelaw26_message.bits1 (fun HT_ HW_ => ?_); generalize w4.drew = w5 at BK385 BK386 HB hHeld ⊢; refine pure_ (i := 0) (N := some 3) (v := ?_) (a' := ?_) #[true, false, false, false, false, false, false, false, false, false, false, false, false] rfl rfl (any_of HT_.out (by kernel_rfl)) (fun _ _ _ h => h) (Or.inl ⟨by rfl, ?_⟩) ?_ ?_; rotate_left; (intro w'; go_simp; with_reducible rfl); rotate_left; (simp only [Act.put, lt1_, lt2_, lt3_, i64_w, i32_w]; rfl); refine pure_ (i := 2) (N := some 5) (v := ?_) (a' := ?_) #[true, false, true, false, false, false, false, false, false, false, false, false, false] rfl rfl (any_of HT_.out (by kernel_rfl)) (fun _ _ _ h => h) (Or.inl ⟨by rfl, ?_⟩) ?_ ?_; rotate_left; (intro w'; go_simp; with_reducible rfl); rotate_left; (simp only [Act.put, lt1_, lt2_, lt3_, i64_w, i32_w]; rfl); refine pure_ (i := 4) (N := some 7) (v := ?_) (a' := ?_) #[true, false, true, false, true, false, false, false, false, false, false, false, false] rfl rfl (any_of HT_.out (by kernel_rfl)) (fun _ _ _ h => h) (Or.inl ⟨by rfl, ?_⟩) ?_ ?_; rotate_left; (intro w'; go_simp; with_reducible rfl); rotate_left; (simp only [Act.put, lt1_, lt2_, lt3_, i64_w, i32_w]; rfl); refine pure_ (i := 6) (N := some 9) (v := ?_) (a' := ?_) #[true, false, true, false, true, false, true, false, false, false, false, false, false] rfl rfl (any_of HT_.out (by kernel_rfl)) (fun _ _ _ h => h) (Or.inl ⟨by rfl, ?_⟩) ?_ ?_; rotate_left; (intro w'; go_simp; with_reducible rfl); rotate_left; (simp only [Act.put, lt1_, lt2_, lt3_, i64_w, i32_w]; rfl); refine pure_ (i := 9) (N := some 12) (v := ?_) (a' := ?_) #[true, false, true, false, true, false, true, false, false, true, false, false, false] rfl rfl (any_of HT_.out (by kernel_rfl)) (fun _ _ _ h => h) (Or.inl ⟨by rfl, ?_⟩) ?_ ?_; rotate_left; (intro w'; go_simp; with_reducible rfl); rotate_left; (simp only [Act.put, lt1_, lt2_, lt3_, i64_w, i32_w]; rfl)
 refine take_ (i := 1) (N := some 4) (v := ?_) (a' := ?_) #[true, true, true, false, true, false, true, false, false, true, false, false, false] rfl rfl (take_ofW HT_.out HW_.out (by kernel_rfl)) (fun _ _ _ h => h) (Or.inl ⟨by rfl, ?_⟩) hHeld ?_ ?_; rotate_left
 ·
  rintro w' ⟨s0, s1, s2, s3, s4⟩; go_simp; with_reducible rfl
 rotate_left
 ·
  simp only [Act.put, lt1_, lt2_, lt3_, i64_w, i32_w]; rfl
 refine take_ (i := 3) (N := some 6) (v := ?_) (a' := ?_) #[true, true, true, true, true, false, true, false, false, true, false, false, false] rfl rfl (take_ofW HT_.out HW_.out (by kernel_rfl)) (fun _ _ _ h => h) (Or.inl ⟨by rfl, ?_⟩) hHeld ?_ ?_; rotate_left
 ·
  rintro w' ⟨s0, s1, s2, s3, s4⟩; go_simp; with_reducible rfl
 rotate_left
 ·
  simp only [Act.put, lt1_, lt2_, lt3_, i64_w, i32_w]; rfl
 refine take_ (i := 5) (N := some 8) (v := ?_) (a' := ?_) #[true, true, true, true, true, true, true, false, false, true, false, false, false] rfl rfl (take_ofW HT_.out HW_.out (by kernel_rfl)) (fun _ _ _ h => h) (Or.inl ⟨by rfl, ?_⟩) hHeld ?_ ?_; rotate_left
 ·
  rintro w' ⟨s0, s1, s2, s3, s4⟩; go_simp; with_reducible rfl
 rotate_left
 ·
  simp only [Act.put, lt1_, lt2_, lt3_, i64_w, i32_w]; rfl
 refine take_ (i := 7) (N := some 10) (v := ?_) (a' := ?_) #[true, true, true, true, true, true, true, true, false, true, false, false, false] rfl rfl (take_ofW HT_.out HW_.out (by kernel_rfl)) (fun _ _ _ h => h) (Or.inl ⟨by rfl, ?_⟩) hHeld ?_ ?_; rotate_left
 ·
  rintro w' ⟨s0, s1, s2, s3, s4⟩; go_simp; with_reducible rfl
 rotate_left
 ·
  simp only [Act.put, lt1_, lt2_, lt3_, i64_w, i32_w]; rfl
 refine take_ (i := 10) (N := some 13) (v := ?_) (a' := ?_) #[true, true, true, true, true, true, true, true, false, true, true, false, false] rfl rfl (take_ofW HT_.out HW_.out (by kernel_rfl)) (fun _ _ _ h => h) (Or.inl ⟨by rfl, ?_⟩) hHeld ?_ ?_; rotate_left
 ·
  rintro w' ⟨s0, s1, s2, s3, s4⟩; go_simp; with_reducible rfl
 rotate_left
 ·
  simp only [Act.put, lt1_, lt2_, lt3_, i64_w, i32_w]; rfl
 refine one_ (i := 8) (N := some 11) #[true, true, true, true, true, true, true, true, true, true, true, false, false] rfl rfl (one_of HT_.out (by kernel_rfl)) (by decide) (fun K hK => ?_); refine goes_ Try.func30 (by kernel_rfl) rfl #[.slice A0_3 l0_3.length c0_3] (by rfl) rfl rfl au_ ?_
 with_reducible refine (tapearchivelaw26_records.calls k _ _ l0_3 t387 _ ?side1 ?side2 A2.out).mono ?_
 (case side1 => repeat (first | exact (Kd.C_below HR0_3.out HB.out) | (with_reducible refine Kd.C_alloc ?_ _) | (with_reducible refine Kd.C_drewN ?_ _) | (with_reducible refine Kd.C_drew ?_)))
 (case side2 => exact HC0_3.out)
 rintro e w6 ⟨v388, rfl, ho0, hb⟩; refine ⟨_, rfl, ?_⟩; have n0_ := am_ (Kd.S_lower ho0 (bz_ (pb2_ HB.out GE385.out GE386.out))); have n1_ := am_ (bw_ (g := gb385) (o := .cells #[.int .i64 a0_0, .int .i64 a0_1, .int .i64 a0_2, .slice A0_3 l0_3.length c0_3, .int .i64 a0_4] 38 (0, 0)) (pk_ BK385.out) hb); have n2_ := am_ (bw_ (g := gb386) (o := .cells #[.int .i64 0, .int .i64 0, .int .i64 0, .slice none 0 0, .int .i64 0] 30 (0, 0)) (pk_ BK386.out) hb); have n3_ := am_ (sp_ (pb2_ HB.out GE385.out GE386.out) hb); clear BK385; clear BK386; clear HB; have HO389 := n0_; have BK385 := n1_; have BK386 := n2_; have HB := n3_; clear n0_ n1_ n2_ n3_
 (try clear hb)
 (try clear hb2)
 (try clear hk)
 (try clear hi)
 (try clear ho0)
 obtain ⟨Ao7, co7, eo7⟩ := Kd.S_slice HO389.out
 (first | subst eo7 | (injection eo7 with f1_ f2_ f3_; have f4_ := f1_.symm; have f5_ := f3_.symm; clear f1_ f2_ f3_; subst f4_; subst f5_))
 refine hK.out _ _ ⟨(bc_ BK385.out 0).trans rfl, (bc_ BK385.out 1).trans rfl, (bc_ BK385.out 2).trans rfl, (bc_ BK385.out 3).trans rfl, (bc_ BK385.out 4).trans rfl⟩ (fun hHeld => ?_); clear hK K; refine norm_ (a' := ?_) ?_ ?_; rotate_left
 ·
  show Act.put _ (some 11) _ = _
  simp only [Act.put, lt1_, lt2_, lt3_, i64_w, i32_w]; rfl
 refine pure_ (i := 11) (N := some 14) (v := ?_) (a' := ?_) #[true, true, true, true, true, true, true, true, true, true, true, true, false] rfl rfl (any_of HT_.out (by kernel_rfl)) (fun _ _ _ h => h) (Or.inl ⟨by rfl, ?_⟩) ?_ ?_; rotate_left; (intro w'; go_simp; with_reducible rfl); rotate_left; (simp only [Act.put, lt1_, lt2_, lt3_, i64_w, i32_w]; rfl); refine one_ (i := 12) (N := none) #[true, true, true, true, true, true, true, true, true, true, true, true, true] rfl rfl (one_of HT_.out (by kernel_rfl)) (by decide) (fun K hK => ?_); have hs8 : w6.cell? ⟨gb386, 0, none⟩ = some (.int .i64 0) := (bc_ BK386.out 0).trans rfl; have hfs8 := bf_ BK386.out 0; have hns8_0 := NB385_386.out; have hms8_0 := NB386_385.out; have hs9 : w6.cell? ⟨gb386, 1, none⟩ = some (.int .i64 0) := (bc_ BK386.out 1).trans rfl; have hfs9 := bf_ BK386.out 1; have hns9_0 := NB385_386.out; have hms9_0 := NB386_385.out; have hs10 : w6.cell? ⟨gb386, 2, none⟩ = some (.int .i64 0) := (bc_ BK386.out 2).trans rfl; have hfs10 := bf_ BK386.out 2; have hns10_0 := NB385_386.out; have hms10_0 := NB386_385.out; have hs11 : w6.cell? ⟨gb386, 3, none⟩ = some (.slice none 0 0) := (bc_ BK386.out 3).trans rfl; have hfs11 := bf_ BK386.out 3; have hns11_0 := NB385_386.out; have hms11_0 := NB386_385.out; have hs12 : w6.cell? ⟨gb386, 4, none⟩ = some (.int .i64 0) := (bc_ BK386.out 4).trans rfl; have hfs12 := bf_ BK386.out 4; have hns12_0 := NB385_386.out; have hms12_0 := NB386_385.out; refine skip_ (w1 := ?_) (by rfl) rfl ?_ ?_; rotate_left
 ·
  go_simp; rfl
 refine hK.out _ _ ⟨((cell_far (p := ⟨gb386, _, none⟩) NB385_386.out _).trans (((cell_far (p := ⟨gb386, _, none⟩) NB385_386.out _).trans (((cell_far (p := ⟨gb386, _, none⟩) NB385_386.out _).trans (((cell_far (p := ⟨gb386, _, none⟩) NB385_386.out _).trans (((cell_far (p := ⟨gb386, _, none⟩) NB385_386.out _).trans (hHeld.1)))))))))), ((cell_far (p := ⟨gb386, _, none⟩) NB385_386.out _).trans (((cell_far (p := ⟨gb386, _, none⟩) NB385_386.out _).trans (((cell_far (p := ⟨gb386, _, none⟩) NB385_386.out _).trans (((cell_far (p := ⟨gb386, _, none⟩) NB385_386.out _).trans (((cell_far (p := ⟨gb386, _, none⟩) NB385_386.out _).trans (hHeld.2.1)))))))))), ((cell_far (p := ⟨gb386, _, none⟩) NB385_386.out _).trans (((cell_far (p := ⟨gb386, _, none⟩) NB385_386.out _).trans (((cell_far (p := ⟨gb386, _, none⟩) NB385_386.out _).trans (((cell_far (p := ⟨gb386, _, none⟩) NB385_386.out _).trans (((cell_far (p := ⟨gb386, _, none⟩) NB385_386.out _).trans (hHeld.2.2.1)))))))))), ((cell_far (p := ⟨gb386, _, none⟩) NB385_386.out _).trans (((cell_far (p := ⟨gb386, _, none⟩) NB385_386.out _).trans (((cell_far (p := ⟨gb386, _, none⟩) NB385_386.out _).trans (((cell_far (p := ⟨gb386, _, none⟩) NB385_386.out _).trans (((cell_far (p := ⟨gb386, _, none⟩) NB385_386.out _).trans (hHeld.2.2.2.1)))))))))), ((cell_far (p := ⟨gb386, _, none⟩) NB385_386.out _).trans (((cell_far (p := ⟨gb386, _, none⟩) NB385_386.out _).trans (((cell_far (p := ⟨gb386, _, none⟩) NB385_386.out _).trans (((cell_far (p := ⟨gb386, _, none⟩) NB385_386.out _).trans (((cell_far (p := ⟨gb386, _, none⟩) NB385_386.out _).trans (hHeld.2.2.2.2))))))))))⟩ (fun hHeld => ?_); clear hK K; refine done_ (done_of HT_.out (by kernel_rfl)) ?_
 try go_wp2
 refine bodyPost_ret (results_cell_row rfl _ _ gb386 30 #[.int .i64 a0_0, .int .i64 a0_1, .int .i64 a0_2, .slice Ao7 t387.length co7, .int .i64 a0_4] (0, 0) _ rfl (by (with_reducible repeat (first | refine bn_ ?_ _ | refine bd_ ?_ | refine ba_ ?_ _)); refine blk_put (cs := #[.int .i64 a0_0, .int .i64 a0_1, .int .i64 a0_2, .slice Ao7 t387.length co7, .int .i64 0]) ?_ 4 _ rfl; (with_reducible repeat (first | refine bn_ ?_ _ | refine bd_ ?_ | refine ba_ ?_ _)); refine blk_put (cs := #[.int .i64 a0_0, .int .i64 a0_1, .int .i64 a0_2, .slice none 0 0, .int .i64 0]) ?_ 3 _ rfl; (with_reducible repeat (first | refine bn_ ?_ _ | refine bd_ ?_ | refine ba_ ?_ _)); refine blk_put (cs := #[.int .i64 a0_0, .int .i64 a0_1, .int .i64 0, .slice none 0 0, .int .i64 0]) ?_ 2 _ rfl; (with_reducible repeat (first | refine bn_ ?_ _ | refine bd_ ?_ | refine ba_ ?_ _)); refine blk_put (cs := #[.int .i64 a0_0, .int .i64 0, .int .i64 0, .slice none 0 0, .int .i64 0]) ?_ 1 _ rfl; (with_reducible repeat (first | refine bn_ ?_ _ | refine bd_ ?_ | refine ba_ ?_ _)); refine blk_put (cs := #[.int .i64 0, .int .i64 0, .int .i64 0, .slice none 0 0, .int .i64 0]) ?_ 0 _ rfl; (with_reducible repeat (first | refine bn_ ?_ _ | refine bd_ ?_ | refine ba_ ?_ _)); exact BK386.out) Try.underlying30 rfl (by kernel_rfl)) rfl ?_; exact ⟨_, by first | rfl | (simp [errW_none, errW_some] <;> rfl) | (simp [*, errW_none, errW_some] <;> rfl), by (with_reducible repeat (first | apply Kd.S_alloc | apply Kd.S_drewN | apply Kd.S_drew)); exact Kd.S_mono (Kd.S_far (p := ⟨gb386, 4, none⟩) (Kd.S_far (p := ⟨gb386, 3, none⟩) (Kd.S_far (p := ⟨gb386, 2, none⟩) (Kd.S_far (p := ⟨gb386, 1, none⟩) (Kd.S_far (p := ⟨gb386, 0, none⟩) (Kd.S_types HO389.out BK386.out (by decide)) (fun _ hk => hk.2) (.int .i64 a0_0)) (fun _ hk => hk.2) (.int .i64 a0_1)) (fun _ hk => hk.2) (.int .i64 a0_2)) (fun _ hk => hk.2) (.slice Ao7 t387.length co7)) (fun _ hk => hk.2) (.int .i64 a0_4)) (fun _ hk => trivial), pb2_ HB.out GE385.out GE386.out⟩
end Go.Proofs.Ytbigcpjlahkggaa.Q
end
section
namespace Go.Proofs.Ytbigcpjlahkggaa.Q
open Go.RowKit Go.Proofs.YtbigcpjlahkggaaW.PrintWords Go.Proofs.YtbigcpjlahkggaaW.PrintLast Go.Proofs.YtbigcpjlahkggaaW.PrintMore
attribute [local go_sem] max2_int min2_int max_two min_two max_three min_three max_four min_four
attribute [local go_sem ↓] isSome_setCell
attribute [local go_sem] string_gtr
set_option linter.unusedVariables false
set_option linter.unusedSimpArgs false
def tapearchiveref26_sound.j0 : Nat → Bool → Int → Int → Int → List (S79) → Int → Option (Bool)
 | 0, _, _, _, _, _, _ => none
 | k + 1, x30, x391000, x391001, x391002, x391003, x391004 => if x30 = true then (some false) else (if x391001 = 0 then (if x391002 = 0 then (if x391001 > 0 then (if x391002 < 1 then (some false) else (if x391002 > x391000 then (some false) else ((tapearchiveref26_records.f k x391003 (mx 1 x391002) x391000).bind fun t391 => (some t391)))) else ((tapearchiveref26_records.f k x391003 (mx 1 x391002) x391000).bind fun t392 => (some t392))) else (some false)) else (if x391001 > 0 then (if x391002 < 1 then (some false) else (if x391002 > x391000 then (some false) else ((tapearchiveref26_records.f k x391003 (mx 1 x391002) x391000).bind fun t393 => (some t393)))) else ((tapearchiveref26_records.f k x391003 (mx 1 x391002) x391000).bind fun t394 => (some t394))))
def tapearchiveref26_sound.f (k : Nat) (a0_0 : Int) (a0_1 : Int) (a0_2 : Int) (l0_3 : List (S79)) (a0_4 : Int) : Option (Bool) := if a0_0 < 1 then (tapearchiveref26_sound.j0 k true a0_0 a0_1 a0_2 l0_3 a0_4) else (if a0_0 > 1125899906842624 then (tapearchiveref26_sound.j0 k true a0_0 a0_1 a0_2 l0_3 a0_4) else (if a0_1 < 0 then (tapearchiveref26_sound.j0 k true a0_0 a0_1 a0_2 l0_3 a0_4) else (if a0_1 > 1125899906842624 then (tapearchiveref26_sound.j0 k true a0_0 a0_1 a0_2 l0_3 a0_4) else (if a0_4 < 0 then (tapearchiveref26_sound.j0 k true a0_0 a0_1 a0_2 l0_3 a0_4) else (tapearchiveref26_sound.j0 k (decide (a0_4 > 1125899906842624)) a0_0 a0_1 a0_2 l0_3 a0_4)))))
set_option maxHeartbeats 8000000 in
set_option maxRecDepth 100000 in
theorem tapearchiveref26_sound.calls (k : Nat) (a0_0 : Int) (a0_1 : Int) (a0_2 : Int) (A0_3 : Option Addr) (c0_3 : Nat) (l0_3 : List (S79)) (a0_4 : Int) (r : Bool) (w : World) (hr0_3 : Kd.C k79 w A0_3 l0_3.length l0_3) (hc0_3 : l0_3.length ≤ c0_3) (h : tapearchiveref26_sound.f k a0_0 a0_1 a0_2 l0_3 a0_4 = some r) :
  Calls Try.prog 38 #[.agg #[.int .i64 a0_0, .int .i64 a0_1, .int .i64 a0_2, .slice A0_3 l0_3.length c0_3, .int .i64 a0_4]] w fun e w' => e = .returned (.bool r) ∧ Below w.heap.size w w' := by
 have hu38 := Try.underlying38; have HR0_3 := am_ hr0_3; have HC0_3 := am_ hc0_3; clear hr0_3 hc0_3; have HB := am_ (Below.refl w.heap.size w); have H : (if a0_0 < 1 then (tapearchiveref26_sound.j0 k true a0_0 a0_1 a0_2 l0_3 a0_4) else (if a0_0 > 1125899906842624 then (tapearchiveref26_sound.j0 k true a0_0 a0_1 a0_2 l0_3 a0_4) else (if a0_1 < 0 then (tapearchiveref26_sound.j0 k true a0_0 a0_1 a0_2 l0_3 a0_4) else (if a0_1 > 1125899906842624 then (tapearchiveref26_sound.j0 k true a0_0 a0_1 a0_2 l0_3 a0_4) else (if a0_4 < 0 then (tapearchiveref26_sound.j0 k true a0_0 a0_1 a0_2 l0_3 a0_4) else (tapearchiveref26_sound.j0 k (decide (a0_4 > 1125899906842624)) a0_0 a0_1 a0_2 l0_3 a0_4)))))) = some r := h; clear h; have HC2 := am_ H; clear H; go_enter Try.func38, Try.ntmps38
 go_upto_region 1 with (first | ((with_reducible refine gate_dst (N := 1) rfl ?_); refine box_event ?hg (N := 1) ?hd (cs := #[.int .i64 a0_0, .int .i64 a0_1, .int .i64 a0_2, .slice A0_3 l0_3.length c0_3, .int .i64 a0_4]) (t := 38) ?hr ?_; (case hd => rfl); (case hg => rfl); (case hr => first | (go_simp; done) | (go_simp; rfl)); intro gb390 hg w3 hbox hb; have n0_ := am_ (sp_ (pb0_ HB.out) hb); have n1_ := am_ (hbox); have n2_ := am_ ((by rw [hg]; exact (bz_ (pb0_ HB.out)) : w.heap.size ≤ gb390)); have n3_ := am_ ((by rw [hg]; exact (bz_ (pb0_ HB.out)) : w.heap.size ≤ gb390)); clear HB; have HB := n0_; have BK390 := n1_; have GW390 := n2_; have GE390 := n3_; clear n0_ n1_ n2_ n3_; clear hb hbox hg))
 (try simp only [Act.put, lt1_, lt2_, lt3_])
 go_cut [30] (fun v30 wc => ∃ (kq : Nat) (x30_1 : Bool), v30 = .bool x30_1 ∧ Aside0 (tapearchiveref26_sound.j0 kq x30_1 a0_0 a0_1 a0_2 l0_3 a0_4 = some r) ∧ Aside0 (kq ≤ k) ∧ Aside0 (wc.heap[gb390]? = some (.cells #[.int .i64 a0_0, .int .i64 a0_1, .int .i64 a0_2, (.slice A0_3 l0_3.length c0_3), .int .i64 a0_4] 38 (0, 0))) ∧ Aside0 (Below w.heap.size w wc))
 case first =>
  have H := HC2.out; clear HC2
  by_cases c4 : a0_0 < 1
  ·
   rw [if_pos c4] at H; have c4b0 : decide (a0_0 < 1) = true := de_ c4; clear c4
   (first | rw [c4b0] | (simp only [i64_w, i32_w]; rw [c4b0]) | rw [c4b2] | skip)
   have H' := am_ H; clear H; have hcz5_0 : w3.cell? ⟨gb390, 0, none⟩ = some (.int .i64 a0_0) := (bc_ BK390.out 0).trans rfl; have hcz5_1 : w3.cell? ⟨gb390, 1, none⟩ = some (.int .i64 a0_1) := (bc_ BK390.out 1).trans rfl; have hcz5_2 : w3.cell? ⟨gb390, 2, none⟩ = some (.int .i64 a0_2) := (bc_ BK390.out 2).trans rfl; have hcz5_3 : w3.cell? ⟨gb390, 3, none⟩ = some (.slice A0_3 l0_3.length c0_3) := (bc_ BK390.out 3).trans rfl; have hcz5_4 : w3.cell? ⟨gb390, 4, none⟩ = some (.int .i64 a0_4) := (bc_ BK390.out 4).trans rfl; have hfz5_0 := bf_ BK390.out 0; have hfz5_1 := bf_ BK390.out 1; have hfz5_2 := bf_ BK390.out 2; have hfz5_3 := bf_ BK390.out 3; have hfz5_4 := bf_ BK390.out 4; go_wp2
   go_meet
   case rel => exact ⟨_, (true), (by first | rfl | (simp; done) | (simp [*]; done)), H', ⟨by first | omega | exact Nat.le_refl _⟩, ⟨by (with_reducible repeat (first | refine bn_ ?_ _ | refine bd_ ?_ | refine ba_ ?_ _)); exact BK390.out⟩, ⟨pb1_ HB.out GE390.out⟩⟩
  ·
   rw [if_neg c4] at H; have c4b0 : decide (a0_0 < 1) = false := df_ c4; clear c4
   (first | rw [c4b0] | (simp only [i64_w, i32_w]; rw [c4b0]) | rw [c4b2] | skip)
   by_cases c6 : a0_0 > 1125899906842624
   ·
    rw [if_pos c6] at H; have c6b0 : decide (1125899906842624 < a0_0) = true := de_ c6; clear c6; have H' := am_ H; clear H; have hcz7_0 : w3.cell? ⟨gb390, 0, none⟩ = some (.int .i64 a0_0) := (bc_ BK390.out 0).trans rfl; have hcz7_1 : w3.cell? ⟨gb390, 1, none⟩ = some (.int .i64 a0_1) := (bc_ BK390.out 1).trans rfl; have hcz7_2 : w3.cell? ⟨gb390, 2, none⟩ = some (.int .i64 a0_2) := (bc_ BK390.out 2).trans rfl; have hcz7_3 : w3.cell? ⟨gb390, 3, none⟩ = some (.slice A0_3 l0_3.length c0_3) := (bc_ BK390.out 3).trans rfl; have hcz7_4 : w3.cell? ⟨gb390, 4, none⟩ = some (.int .i64 a0_4) := (bc_ BK390.out 4).trans rfl; have hfz7_0 := bf_ BK390.out 0; have hfz7_1 := bf_ BK390.out 1; have hfz7_2 := bf_ BK390.out 2; have hfz7_3 := bf_ BK390.out 3; have hfz7_4 := bf_ BK390.out 4; go_wp2
    go_meet
    case rel => exact ⟨_, (true), (by first | rfl | (simp; done) | (simp [*]; done)), H', ⟨by first | omega | exact Nat.le_refl _⟩, ⟨by (with_reducible repeat (first | refine bn_ ?_ _ | refine bd_ ?_ | refine ba_ ?_ _)); exact BK390.out⟩, ⟨pb1_ HB.out GE390.out⟩⟩
   ·
    rw [if_neg c6] at H; have c6b0 : decide (1125899906842624 < a0_0) = false := df_ c6; clear c6
    by_cases c8 : a0_1 < 0
    ·
     rw [if_pos c8] at H; have c8b0 : decide (a0_1 < 0) = true := de_ c8; clear c8; have H' := am_ H; clear H; have hcz9_0 : w3.cell? ⟨gb390, 0, none⟩ = some (.int .i64 a0_0) := (bc_ BK390.out 0).trans rfl; have hcz9_1 : w3.cell? ⟨gb390, 1, none⟩ = some (.int .i64 a0_1) := (bc_ BK390.out 1).trans rfl; have hcz9_2 : w3.cell? ⟨gb390, 2, none⟩ = some (.int .i64 a0_2) := (bc_ BK390.out 2).trans rfl; have hcz9_3 : w3.cell? ⟨gb390, 3, none⟩ = some (.slice A0_3 l0_3.length c0_3) := (bc_ BK390.out 3).trans rfl; have hcz9_4 : w3.cell? ⟨gb390, 4, none⟩ = some (.int .i64 a0_4) := (bc_ BK390.out 4).trans rfl; have hfz9_0 := bf_ BK390.out 0; have hfz9_1 := bf_ BK390.out 1; have hfz9_2 := bf_ BK390.out 2; have hfz9_3 := bf_ BK390.out 3; have hfz9_4 := bf_ BK390.out 4; go_wp2
     go_meet
     case rel => exact ⟨_, (true), (by first | rfl | (simp; done) | (simp [*]; done)), H', ⟨by first | omega | exact Nat.le_refl _⟩, ⟨by (with_reducible repeat (first | refine bn_ ?_ _ | refine bd_ ?_ | refine ba_ ?_ _)); exact BK390.out⟩, ⟨pb1_ HB.out GE390.out⟩⟩
    ·
     rw [if_neg c8] at H; have c8b0 : decide (a0_1 < 0) = false := df_ c8; clear c8
     by_cases c10 : a0_1 > 1125899906842624
     ·
      rw [if_pos c10] at H; have c10b0 : decide (1125899906842624 < a0_1) = true := de_ c10; clear c10; have H' := am_ H; clear H; have hcz11_0 : w3.cell? ⟨gb390, 0, none⟩ = some (.int .i64 a0_0) := (bc_ BK390.out 0).trans rfl; have hcz11_1 : w3.cell? ⟨gb390, 1, none⟩ = some (.int .i64 a0_1) := (bc_ BK390.out 1).trans rfl; have hcz11_2 : w3.cell? ⟨gb390, 2, none⟩ = some (.int .i64 a0_2) := (bc_ BK390.out 2).trans rfl; have hcz11_3 : w3.cell? ⟨gb390, 3, none⟩ = some (.slice A0_3 l0_3.length c0_3) := (bc_ BK390.out 3).trans rfl; have hcz11_4 : w3.cell? ⟨gb390, 4, none⟩ = some (.int .i64 a0_4) := (bc_ BK390.out 4).trans rfl; have hfz11_0 := bf_ BK390.out 0; have hfz11_1 := bf_ BK390.out 1; have hfz11_2 := bf_ BK390.out 2; have hfz11_3 := bf_ BK390.out 3; have hfz11_4 := bf_ BK390.out 4; go_wp2
      go_meet
      case rel => exact ⟨_, (true), (by first | rfl | (simp; done) | (simp [*]; done)), H', ⟨by first | omega | exact Nat.le_refl _⟩, ⟨by (with_reducible repeat (first | refine bn_ ?_ _ | refine bd_ ?_ | refine ba_ ?_ _)); exact BK390.out⟩, ⟨pb1_ HB.out GE390.out⟩⟩
     ·
      rw [if_neg c10] at H; have c10b0 : decide (1125899906842624 < a0_1) = false := df_ c10; clear c10
      by_cases c12 : a0_4 < 0
      ·
       rw [if_pos c12] at H; have c12b0 : decide (a0_4 < 0) = true := de_ c12; clear c12; have H' := am_ H; clear H; have hcz13_0 : w3.cell? ⟨gb390, 0, none⟩ = some (.int .i64 a0_0) := (bc_ BK390.out 0).trans rfl; have hcz13_1 : w3.cell? ⟨gb390, 1, none⟩ = some (.int .i64 a0_1) := (bc_ BK390.out 1).trans rfl; have hcz13_2 : w3.cell? ⟨gb390, 2, none⟩ = some (.int .i64 a0_2) := (bc_ BK390.out 2).trans rfl; have hcz13_3 : w3.cell? ⟨gb390, 3, none⟩ = some (.slice A0_3 l0_3.length c0_3) := (bc_ BK390.out 3).trans rfl; have hcz13_4 : w3.cell? ⟨gb390, 4, none⟩ = some (.int .i64 a0_4) := (bc_ BK390.out 4).trans rfl; have hfz13_0 := bf_ BK390.out 0; have hfz13_1 := bf_ BK390.out 1; have hfz13_2 := bf_ BK390.out 2; have hfz13_3 := bf_ BK390.out 3; have hfz13_4 := bf_ BK390.out 4; go_wp2
       go_meet
       case rel => exact ⟨_, (true), (by first | rfl | (simp; done) | (simp [*]; done)), H', ⟨by first | omega | exact Nat.le_refl _⟩, ⟨by (with_reducible repeat (first | refine bn_ ?_ _ | refine bd_ ?_ | refine ba_ ?_ _)); exact BK390.out⟩, ⟨pb1_ HB.out GE390.out⟩⟩
      ·
       rw [if_neg c12] at H; have c12b0 : decide (a0_4 < 0) = false := df_ c12; clear c12; have H' := am_ H; clear H; have hcz14_0 : w3.cell? ⟨gb390, 0, none⟩ = some (.int .i64 a0_0) := (bc_ BK390.out 0).trans rfl; have hcz14_1 : w3.cell? ⟨gb390, 1, none⟩ = some (.int .i64 a0_1) := (bc_ BK390.out 1).trans rfl; have hcz14_2 : w3.cell? ⟨gb390, 2, none⟩ = some (.int .i64 a0_2) := (bc_ BK390.out 2).trans rfl; have hcz14_3 : w3.cell? ⟨gb390, 3, none⟩ = some (.slice A0_3 l0_3.length c0_3) := (bc_ BK390.out 3).trans rfl; have hcz14_4 : w3.cell? ⟨gb390, 4, none⟩ = some (.int .i64 a0_4) := (bc_ BK390.out 4).trans rfl; have hfz14_0 := bf_ BK390.out 0; have hfz14_1 := bf_ BK390.out 1; have hfz14_2 := bf_ BK390.out 2; have hfz14_3 := bf_ BK390.out 3; have hfz14_4 := bf_ BK390.out 4; go_wp2
       go_meet
       case rel => exact ⟨_, (decide (a0_4 > 1125899906842624)), (by first | rfl | (simp; done) | (simp [*]; done)), H', ⟨by first | omega | exact Nat.le_refl _⟩, ⟨by (with_reducible repeat (first | refine bn_ ?_ _ | refine bd_ ?_ | refine ba_ ?_ _)); exact BK390.out⟩, ⟨pb1_ HB.out GE390.out⟩⟩
 case rest =>
  clear HC2
  try clear c1
  try clear p2
  try clear c3
  try clear c4
  try clear c4b0
  try clear c4b2
  try clear c6
  try clear c6b0
  try clear c8
  try clear c8b0
  try clear c10
  try clear c10b0
  try clear c12
  try clear c12b0
  try clear hcz11_0
  try clear hcz11_1
  try clear hcz11_2
  try clear hcz11_3
  try clear hcz11_4
  try clear hcz13_0
  try clear hcz13_1
  try clear hcz13_2
  try clear hcz13_3
  try clear hcz13_4
  try clear hcz14_0
  try clear hcz14_1
  try clear hcz14_2
  try clear hcz14_3
  try clear hcz14_4
  try clear hcz5_0
  try clear hcz5_1
  try clear hcz5_2
  try clear hcz5_3
  try clear hcz5_4
  try clear hcz7_0
  try clear hcz7_1
  try clear hcz7_2
  try clear hcz7_3
  try clear hcz7_4
  try clear hcz9_0
  try clear hcz9_1
  try clear hcz9_2
  try clear hcz9_3
  try clear hcz9_4
  try clear hfz11_0
  try clear hfz11_1
  try clear hfz11_2
  try clear hfz11_3
  try clear hfz11_4
  try clear hfz13_0
  try clear hfz13_1
  try clear hfz13_2
  try clear hfz13_3
  try clear hfz13_4
  try clear hfz14_0
  try clear hfz14_1
  try clear hfz14_2
  try clear hfz14_3
  try clear hfz14_4
  try clear hfz5_0
  try clear hfz5_1
  try clear hfz5_2
  try clear hfz5_3
  try clear hfz5_4
  try clear hfz7_0
  try clear hfz7_1
  try clear hfz7_2
  try clear hfz7_3
  try clear hfz7_4
  try clear hfz9_0
  try clear hfz9_1
  try clear hfz9_2
  try clear hfz9_3
  try clear hfz9_4
  obtain ⟨kq, x30_1, rfl, HA, HJ1, BK390, HB⟩ := hcut; cases kq with
  | zero => exact absurd HA.out (by simp [tapearchiveref26_sound.j0])
  | succ kj1 =>
   have H := HA.out; clear HA; simp only [tapearchiveref26_sound.j0] at H
   by_cases c15 : x30_1 = true
   ·
    subst c15; have H1 : (some false) = some r := by rw [if_pos rfl] at H; exact H
    clear H; have H := H1; clear H1; obtain rfl := si_ H; go_wp2; go_ret; exact ⟨by first | rfl | (simp [errW_none, errW_some] <;> rfl) | (simp [*, errW_none, errW_some] <;> rfl), pb1_ HB.out GE390.out⟩
   ·
    replace c15 := Bool.eq_false_iff.mpr c15; subst c15; have H1 : (if a0_1 = 0 then (if a0_2 = 0 then (if a0_1 > 0 then (if a0_2 < 1 then (some false) else (if a0_2 > a0_0 then (some false) else ((tapearchiveref26_records.f kj1 l0_3 (mx 1 a0_2) a0_0).bind fun t391 => (some t391)))) else ((tapearchiveref26_records.f kj1 l0_3 (mx 1 a0_2) a0_0).bind fun t392 => (some t392))) else (some false)) else (if a0_1 > 0 then (if a0_2 < 1 then (some false) else (if a0_2 > a0_0 then (some false) else ((tapearchiveref26_records.f kj1 l0_3 (mx 1 a0_2) a0_0).bind fun t393 => (some t393)))) else ((tapearchiveref26_records.f kj1 l0_3 (mx 1 a0_2) a0_0).bind fun t394 => (some t394)))) = some r := by rw [if_neg (show ¬ (false = true) by decide)] at H; exact H
    clear H; have H := H1; clear H1
    by_cases c16 : a0_1 = 0
    ·
     rw [if_pos c16] at H; have c16b0 : (a0_1 == 0) = true := beq_iff_eq.mpr c16; have c16b1 : (a0_1 != 0) = false := bne_eq_false_iff_eq.mpr c16; clear c16
     by_cases c17 : a0_2 = 0
     ·
      rw [if_pos c17] at H; have c17b0 : (a0_2 == 0) = true := beq_iff_eq.mpr c17; have c17b1 : (a0_2 != 0) = false := bne_eq_false_iff_eq.mpr c17; clear c17
      by_cases c18 : a0_1 > 0
      ·
       rw [if_pos c18] at H; have c18b0 : decide (0 < a0_1) = true := de_ c18; clear c18
       by_cases c19 : a0_2 < 1
       ·
        rw [if_pos c19] at H; have c19b0 : decide (a0_2 < 1) = true := de_ c19; clear c19; obtain rfl := si_ H; have hcz20_0 : wc.cell? ⟨gb390, 0, none⟩ = some (.int .i64 a0_0) := (bc_ BK390.out 0).trans rfl; have hcz20_1 : wc.cell? ⟨gb390, 1, none⟩ = some (.int .i64 a0_1) := (bc_ BK390.out 1).trans rfl; have hcz20_2 : wc.cell? ⟨gb390, 2, none⟩ = some (.int .i64 a0_2) := (bc_ BK390.out 2).trans rfl; have hcz20_3 : wc.cell? ⟨gb390, 3, none⟩ = some (.slice A0_3 l0_3.length c0_3) := (bc_ BK390.out 3).trans rfl; have hcz20_4 : wc.cell? ⟨gb390, 4, none⟩ = some (.int .i64 a0_4) := (bc_ BK390.out 4).trans rfl; have hfz20_0 := bf_ BK390.out 0; have hfz20_1 := bf_ BK390.out 1; have hfz20_2 := bf_ BK390.out 2; have hfz20_3 := bf_ BK390.out 3; have hfz20_4 := bf_ BK390.out 4; go_wp2; go_ret; exact ⟨by first | rfl | (simp [errW_none, errW_some] <;> rfl) | (simp [*, errW_none, errW_some] <;> rfl), pb1_ HB.out GE390.out⟩
       ·
        rw [if_neg c19] at H; have c19b0 : decide (a0_2 < 1) = false := df_ c19; clear c19
        by_cases c21 : a0_2 > a0_0
        ·
         rw [if_pos c21] at H; have c21b0 : decide (a0_0 < a0_2) = true := de_ c21; clear c21; obtain rfl := si_ H; have hcz22_0 : wc.cell? ⟨gb390, 0, none⟩ = some (.int .i64 a0_0) := (bc_ BK390.out 0).trans rfl; have hcz22_1 : wc.cell? ⟨gb390, 1, none⟩ = some (.int .i64 a0_1) := (bc_ BK390.out 1).trans rfl; have hcz22_2 : wc.cell? ⟨gb390, 2, none⟩ = some (.int .i64 a0_2) := (bc_ BK390.out 2).trans rfl; have hcz22_3 : wc.cell? ⟨gb390, 3, none⟩ = some (.slice A0_3 l0_3.length c0_3) := (bc_ BK390.out 3).trans rfl; have hcz22_4 : wc.cell? ⟨gb390, 4, none⟩ = some (.int .i64 a0_4) := (bc_ BK390.out 4).trans rfl; have hfz22_0 := bf_ BK390.out 0; have hfz22_1 := bf_ BK390.out 1; have hfz22_2 := bf_ BK390.out 2; have hfz22_3 := bf_ BK390.out 3; have hfz22_4 := bf_ BK390.out 4; go_wp2; go_ret; exact ⟨by first | rfl | (simp [errW_none, errW_some] <;> rfl) | (simp [*, errW_none, errW_some] <;> rfl), pb1_ HB.out GE390.out⟩
        ·
         rw [if_neg c21] at H; have c21b0 : decide (a0_0 < a0_2) = false := df_ c21; clear c21; obtain ⟨ji23, hji23⟩ : ∃ j_ : Int, (mx 1 a0_2) = j_ := ⟨_, rfl⟩; replace H : ((tapearchiveref26_records.f kj1 l0_3 (ji23) a0_0).bind fun t391 => (some t391)) = some r := by first | (rw [hji23] at H; exact H) | (simp only [hji23] at H ⊢; exact H)
         have hji23_ : (if 1 < a0_2 then a0_2 else 1) = ji23 := hji23; replace H := Option.bind_eq_some_iff.mp H; obtain ⟨t391, A240, H⟩ := H; replace H : (some t391) = some r := H; have A24 := am_ A240; clear A240; obtain rfl := si_ H; have hcz25_0 : wc.cell? ⟨gb390, 0, none⟩ = some (.int .i64 a0_0) := (bc_ BK390.out 0).trans rfl; have hcz25_1 : wc.cell? ⟨gb390, 1, none⟩ = some (.int .i64 a0_1) := (bc_ BK390.out 1).trans rfl; have hcz25_2 : wc.cell? ⟨gb390, 2, none⟩ = some (.int .i64 a0_2) := (bc_ BK390.out 2).trans rfl; have hcz25_3 : wc.cell? ⟨gb390, 3, none⟩ = some (.slice A0_3 l0_3.length c0_3) := (bc_ BK390.out 3).trans rfl; have hcz25_4 : wc.cell? ⟨gb390, 4, none⟩ = some (.int .i64 a0_4) := (bc_ BK390.out 4).trans rfl; have hfz25_0 := bf_ BK390.out 0; have hfz25_1 := bf_ BK390.out 1; have hfz25_2 := bf_ BK390.out 2; have hfz25_3 := bf_ BK390.out 3; have hfz25_4 := bf_ BK390.out 4
         go_wp2_with (first | ((with_reducible refine gate_callee (f := 50) rfl ?_); refine goesL_ (some 63) rfl rfl Try.func50 (by kernel_rfl) rfl #[.slice A0_3 l0_3.length c0_3, .int .i64 ji23, .int .i64 a0_0] rfl (by (try simp only [List.map_toArray, List.map_cons, List.map_nil]); first | done | (simp only [hji23]; rfl) | rfl | (simp only [List.length_drop, List.length_take]; rfl)) ?_; (with_reducible refine (tapearchiveref26_records.calls kj1 _ _ l0_3 ji23 a0_0 t391 _ ?side1 ?side2 A24.out).mono ?_); (case side1 => repeat (first | exact (Kd.C_below HR0_3.out HB.out) | (with_reducible refine Kd.C_alloc ?_ _) | (with_reducible refine Kd.C_drewN ?_ _) | (with_reducible refine Kd.C_drew ?_))); (case side2 => exact HC0_3.out); rintro e w' ⟨rfl, ⟨nd, rfl⟩⟩; refine ⟨_, rfl, ?_⟩))
         go_ret; exact ⟨by first | rfl | (simp [errW_none, errW_some] <;> rfl) | (simp only [← hji23]; first | rfl | (simp [errW_none, errW_some] <;> rfl)) | (simp [*, errW_none, errW_some] <;> rfl), pb1_ HB.out GE390.out⟩
      ·
       rw [if_neg c18] at H; have c18b0 : decide (0 < a0_1) = false := df_ c18; clear c18; obtain ⟨ji26, hji26⟩ : ∃ j_ : Int, (mx 1 a0_2) = j_ := ⟨_, rfl⟩; replace H : ((tapearchiveref26_records.f kj1 l0_3 (ji26) a0_0).bind fun t392 => (some t392)) = some r := by first | (rw [hji26] at H; exact H) | (simp only [hji26] at H ⊢; exact H)
       have hji26_ : (if 1 < a0_2 then a0_2 else 1) = ji26 := hji26; replace H := Option.bind_eq_some_iff.mp H; obtain ⟨t392, A270, H⟩ := H; replace H : (some t392) = some r := H; have A27 := am_ A270; clear A270; obtain rfl := si_ H; have hcz28_0 : wc.cell? ⟨gb390, 0, none⟩ = some (.int .i64 a0_0) := (bc_ BK390.out 0).trans rfl; have hcz28_1 : wc.cell? ⟨gb390, 1, none⟩ = some (.int .i64 a0_1) := (bc_ BK390.out 1).trans rfl; have hcz28_2 : wc.cell? ⟨gb390, 2, none⟩ = some (.int .i64 a0_2) := (bc_ BK390.out 2).trans rfl; have hcz28_3 : wc.cell? ⟨gb390, 3, none⟩ = some (.slice A0_3 l0_3.length c0_3) := (bc_ BK390.out 3).trans rfl; have hcz28_4 : wc.cell? ⟨gb390, 4, none⟩ = some (.int .i64 a0_4) := (bc_ BK390.out 4).trans rfl; have hfz28_0 := bf_ BK390.out 0; have hfz28_1 := bf_ BK390.out 1; have hfz28_2 := bf_ BK390.out 2; have hfz28_3 := bf_ BK390.out 3; have hfz28_4 := bf_ BK390.out 4
       go_wp2_with (first | ((with_reducible refine gate_callee (f := 50) rfl ?_); refine goesL_ (some 63) rfl rfl Try.func50 (by kernel_rfl) rfl #[.slice A0_3 l0_3.length c0_3, .int .i64 ji26, .int .i64 a0_0] rfl (by (try simp only [List.map_toArray, List.map_cons, List.map_nil]); first | done | (simp only [hji26]; rfl) | rfl | (simp only [List.length_drop, List.length_take]; rfl)) ?_; (with_reducible refine (tapearchiveref26_records.calls kj1 _ _ l0_3 ji26 a0_0 t392 _ ?side1 ?side2 A27.out).mono ?_); (case side1 => repeat (first | exact (Kd.C_below HR0_3.out HB.out) | (with_reducible refine Kd.C_alloc ?_ _) | (with_reducible refine Kd.C_drewN ?_ _) | (with_reducible refine Kd.C_drew ?_))); (case side2 => exact HC0_3.out); rintro e w' ⟨rfl, ⟨nd, rfl⟩⟩; refine ⟨_, rfl, ?_⟩))
       go_ret; exact ⟨by first | rfl | (simp [errW_none, errW_some] <;> rfl) | (simp only [← hji26]; first | rfl | (simp [errW_none, errW_some] <;> rfl)) | (simp [*, errW_none, errW_some] <;> rfl), pb1_ HB.out GE390.out⟩
     ·
      rw [if_neg c17] at H; have c17b0 : (a0_2 == 0) = false := beq_eq_false_iff_ne.mpr c17; have c17b1 : (a0_2 != 0) = true := bne_iff_ne.mpr c17; obtain rfl := si_ H; have hcz29_0 : wc.cell? ⟨gb390, 0, none⟩ = some (.int .i64 a0_0) := (bc_ BK390.out 0).trans rfl; have hcz29_1 : wc.cell? ⟨gb390, 1, none⟩ = some (.int .i64 a0_1) := (bc_ BK390.out 1).trans rfl; have hcz29_2 : wc.cell? ⟨gb390, 2, none⟩ = some (.int .i64 a0_2) := (bc_ BK390.out 2).trans rfl; have hcz29_3 : wc.cell? ⟨gb390, 3, none⟩ = some (.slice A0_3 l0_3.length c0_3) := (bc_ BK390.out 3).trans rfl; have hcz29_4 : wc.cell? ⟨gb390, 4, none⟩ = some (.int .i64 a0_4) := (bc_ BK390.out 4).trans rfl; have hfz29_0 := bf_ BK390.out 0; have hfz29_1 := bf_ BK390.out 1; have hfz29_2 := bf_ BK390.out 2; have hfz29_3 := bf_ BK390.out 3; have hfz29_4 := bf_ BK390.out 4; go_wp2; go_ret; exact ⟨by first | rfl | (simp [errW_none, errW_some] <;> rfl) | (simp [*, errW_none, errW_some] <;> rfl), pb1_ HB.out GE390.out⟩
    ·
     rw [if_neg c16] at H; have c16b0 : (a0_1 == 0) = false := beq_eq_false_iff_ne.mpr c16; have c16b1 : (a0_1 != 0) = true := bne_iff_ne.mpr c16
     by_cases c30 : a0_1 > 0
     ·
      rw [if_pos c30] at H; have c30b0 : decide (0 < a0_1) = true := de_ c30; clear c30
      by_cases c31 : a0_2 < 1
      ·
       rw [if_pos c31] at H; have c31b0 : decide (a0_2 < 1) = true := de_ c31; clear c31; obtain rfl := si_ H; have hcz32_0 : wc.cell? ⟨gb390, 0, none⟩ = some (.int .i64 a0_0) := (bc_ BK390.out 0).trans rfl; have hcz32_1 : wc.cell? ⟨gb390, 1, none⟩ = some (.int .i64 a0_1) := (bc_ BK390.out 1).trans rfl; have hcz32_2 : wc.cell? ⟨gb390, 2, none⟩ = some (.int .i64 a0_2) := (bc_ BK390.out 2).trans rfl; have hcz32_3 : wc.cell? ⟨gb390, 3, none⟩ = some (.slice A0_3 l0_3.length c0_3) := (bc_ BK390.out 3).trans rfl; have hcz32_4 : wc.cell? ⟨gb390, 4, none⟩ = some (.int .i64 a0_4) := (bc_ BK390.out 4).trans rfl; have hfz32_0 := bf_ BK390.out 0; have hfz32_1 := bf_ BK390.out 1; have hfz32_2 := bf_ BK390.out 2; have hfz32_3 := bf_ BK390.out 3; have hfz32_4 := bf_ BK390.out 4; go_wp2; go_ret; exact ⟨by first | rfl | (simp [errW_none, errW_some] <;> rfl) | (simp [*, errW_none, errW_some] <;> rfl), pb1_ HB.out GE390.out⟩
      ·
       rw [if_neg c31] at H; have c31b0 : decide (a0_2 < 1) = false := df_ c31; clear c31
       by_cases c33 : a0_2 > a0_0
       ·
        rw [if_pos c33] at H; have c33b0 : decide (a0_0 < a0_2) = true := de_ c33; clear c33; obtain rfl := si_ H; have hcz34_0 : wc.cell? ⟨gb390, 0, none⟩ = some (.int .i64 a0_0) := (bc_ BK390.out 0).trans rfl; have hcz34_1 : wc.cell? ⟨gb390, 1, none⟩ = some (.int .i64 a0_1) := (bc_ BK390.out 1).trans rfl; have hcz34_2 : wc.cell? ⟨gb390, 2, none⟩ = some (.int .i64 a0_2) := (bc_ BK390.out 2).trans rfl; have hcz34_3 : wc.cell? ⟨gb390, 3, none⟩ = some (.slice A0_3 l0_3.length c0_3) := (bc_ BK390.out 3).trans rfl; have hcz34_4 : wc.cell? ⟨gb390, 4, none⟩ = some (.int .i64 a0_4) := (bc_ BK390.out 4).trans rfl; have hfz34_0 := bf_ BK390.out 0; have hfz34_1 := bf_ BK390.out 1; have hfz34_2 := bf_ BK390.out 2; have hfz34_3 := bf_ BK390.out 3; have hfz34_4 := bf_ BK390.out 4; go_wp2; go_ret; exact ⟨by first | rfl | (simp [errW_none, errW_some] <;> rfl) | (simp [*, errW_none, errW_some] <;> rfl), pb1_ HB.out GE390.out⟩
       ·
        rw [if_neg c33] at H; have c33b0 : decide (a0_0 < a0_2) = false := df_ c33; clear c33; obtain ⟨ji35, hji35⟩ : ∃ j_ : Int, (mx 1 a0_2) = j_ := ⟨_, rfl⟩; replace H : ((tapearchiveref26_records.f kj1 l0_3 (ji35) a0_0).bind fun t393 => (some t393)) = some r := by first | (rw [hji35] at H; exact H) | (simp only [hji35] at H ⊢; exact H)
        have hji35_ : (if 1 < a0_2 then a0_2 else 1) = ji35 := hji35; replace H := Option.bind_eq_some_iff.mp H; obtain ⟨t393, A360, H⟩ := H; replace H : (some t393) = some r := H; have A36 := am_ A360; clear A360; obtain rfl := si_ H; have hcz37_0 : wc.cell? ⟨gb390, 0, none⟩ = some (.int .i64 a0_0) := (bc_ BK390.out 0).trans rfl; have hcz37_1 : wc.cell? ⟨gb390, 1, none⟩ = some (.int .i64 a0_1) := (bc_ BK390.out 1).trans rfl; have hcz37_2 : wc.cell? ⟨gb390, 2, none⟩ = some (.int .i64 a0_2) := (bc_ BK390.out 2).trans rfl; have hcz37_3 : wc.cell? ⟨gb390, 3, none⟩ = some (.slice A0_3 l0_3.length c0_3) := (bc_ BK390.out 3).trans rfl; have hcz37_4 : wc.cell? ⟨gb390, 4, none⟩ = some (.int .i64 a0_4) := (bc_ BK390.out 4).trans rfl; have hfz37_0 := bf_ BK390.out 0; have hfz37_1 := bf_ BK390.out 1; have hfz37_2 := bf_ BK390.out 2; have hfz37_3 := bf_ BK390.out 3; have hfz37_4 := bf_ BK390.out 4
        go_wp2_with (first | ((with_reducible refine gate_callee (f := 50) rfl ?_); refine goesL_ (some 63) rfl rfl Try.func50 (by kernel_rfl) rfl #[.slice A0_3 l0_3.length c0_3, .int .i64 ji35, .int .i64 a0_0] rfl (by (try simp only [List.map_toArray, List.map_cons, List.map_nil]); first | done | (simp only [hji35]; rfl) | rfl | (simp only [List.length_drop, List.length_take]; rfl)) ?_; (with_reducible refine (tapearchiveref26_records.calls kj1 _ _ l0_3 ji35 a0_0 t393 _ ?side1 ?side2 A36.out).mono ?_); (case side1 => repeat (first | exact (Kd.C_below HR0_3.out HB.out) | (with_reducible refine Kd.C_alloc ?_ _) | (with_reducible refine Kd.C_drewN ?_ _) | (with_reducible refine Kd.C_drew ?_))); (case side2 => exact HC0_3.out); rintro e w' ⟨rfl, ⟨nd, rfl⟩⟩; refine ⟨_, rfl, ?_⟩))
        go_ret; exact ⟨by first | rfl | (simp [errW_none, errW_some] <;> rfl) | (simp only [← hji35]; first | rfl | (simp [errW_none, errW_some] <;> rfl)) | (simp [*, errW_none, errW_some] <;> rfl), pb1_ HB.out GE390.out⟩
     ·
      rw [if_neg c30] at H; have c30b0 : decide (0 < a0_1) = false := df_ c30; clear c30; obtain ⟨ji38, hji38⟩ : ∃ j_ : Int, (mx 1 a0_2) = j_ := ⟨_, rfl⟩; replace H : ((tapearchiveref26_records.f kj1 l0_3 (ji38) a0_0).bind fun t394 => (some t394)) = some r := by first | (rw [hji38] at H; exact H) | (simp only [hji38] at H ⊢; exact H)
      have hji38_ : (if 1 < a0_2 then a0_2 else 1) = ji38 := hji38; replace H := Option.bind_eq_some_iff.mp H; obtain ⟨t394, A390, H⟩ := H; replace H : (some t394) = some r := H; have A39 := am_ A390; clear A390; obtain rfl := si_ H; have hcz40_0 : wc.cell? ⟨gb390, 0, none⟩ = some (.int .i64 a0_0) := (bc_ BK390.out 0).trans rfl; have hcz40_1 : wc.cell? ⟨gb390, 1, none⟩ = some (.int .i64 a0_1) := (bc_ BK390.out 1).trans rfl; have hcz40_2 : wc.cell? ⟨gb390, 2, none⟩ = some (.int .i64 a0_2) := (bc_ BK390.out 2).trans rfl; have hcz40_3 : wc.cell? ⟨gb390, 3, none⟩ = some (.slice A0_3 l0_3.length c0_3) := (bc_ BK390.out 3).trans rfl; have hcz40_4 : wc.cell? ⟨gb390, 4, none⟩ = some (.int .i64 a0_4) := (bc_ BK390.out 4).trans rfl; have hfz40_0 := bf_ BK390.out 0; have hfz40_1 := bf_ BK390.out 1; have hfz40_2 := bf_ BK390.out 2; have hfz40_3 := bf_ BK390.out 3; have hfz40_4 := bf_ BK390.out 4
      go_wp2_with (first | ((with_reducible refine gate_callee (f := 50) rfl ?_); refine goesL_ (some 63) rfl rfl Try.func50 (by kernel_rfl) rfl #[.slice A0_3 l0_3.length c0_3, .int .i64 ji38, .int .i64 a0_0] rfl (by (try simp only [List.map_toArray, List.map_cons, List.map_nil]); first | done | (simp only [hji38]; rfl) | rfl | (simp only [List.length_drop, List.length_take]; rfl)) ?_; (with_reducible refine (tapearchiveref26_records.calls kj1 _ _ l0_3 ji38 a0_0 t394 _ ?side1 ?side2 A39.out).mono ?_); (case side1 => repeat (first | exact (Kd.C_below HR0_3.out HB.out) | (with_reducible refine Kd.C_alloc ?_ _) | (with_reducible refine Kd.C_drewN ?_ _) | (with_reducible refine Kd.C_drew ?_))); (case side2 => exact HC0_3.out); rintro e w' ⟨rfl, ⟨nd, rfl⟩⟩; refine ⟨_, rfl, ?_⟩))
      go_ret; exact ⟨by first | rfl | (simp [errW_none, errW_some] <;> rfl) | (simp only [← hji38]; first | rfl | (simp [errW_none, errW_some] <;> rfl)) | (simp [*, errW_none, errW_some] <;> rfl), pb1_ HB.out GE390.out⟩
end Go.Proofs.Ytbigcpjlahkggaa.Q
end
