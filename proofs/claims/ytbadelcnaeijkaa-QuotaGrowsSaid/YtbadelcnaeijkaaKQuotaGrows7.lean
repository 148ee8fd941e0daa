import Derived.Test.YtbadelcnaeijkaaKQuotaGrows6
import Derived.Sort.KeysCollected
import Derived.Maps.OwnSet
import Derived.Sort.EncStr
import Derived.Sort.WalkA
import Derived.Shelf.SlIter.Nil
import Derived.Shelf.SortM.Plain
import Derived.Shelf.SortM.SortNone
import Derived.Ground.GgzProg
import Derived.Ground.SlgmProg
import Derived.Test.YtbadelcnaeijkaaProg
set_option linter.unusedVariables false
set_option linter.unusedSimpArgs false
section
namespace Go.Proofs.Ytbadelcnaeijkaa.Q
open Go.RowKit Go.Proofs.YtbadelcnaeijkaaW.PrintWords Go.Proofs.YtbadelcnaeijkaaW.PrintLast Go.Proofs.YtbadelcnaeijkaaW.PrintMore
attribute [local go_sem] max2_int min2_int max_two min_two max_three min_three max_four min_four
attribute [local go_sem ↓] isSome_setCell
attribute [local go_sem] string_gtr
set_option linter.unusedVariables false
set_option linter.unusedSimpArgs false
def tapearchivelaw32_same.l0 : Nat → List Int → List Int → Int → Option (Bool)
 | 0, _, _, _ => none
 | k + 1, x0, x1, x5 => if x5 < (x0.length : Int) then (if 0 ≤ x5 then (if x5 < (x1.length : Int) then (if (rd x0 x5) = (rd x1 x5) then (tapearchivelaw32_same.l0 k x0 x1 (wrap64 (x5 + 1))) else (some false)) else (none)) else (none)) else (some true)
def tapearchivelaw32_same.f (k : Nat) (l0 : List Int) (l1 : List Int) : Option (Bool) := if (l0.length : Int) = (l1.length : Int) then (tapearchivelaw32_same.l0 k l0 l1 0) else (some false)
set_option maxHeartbeats 8000000 in
set_option maxRecDepth 100000 in
theorem tapearchivelaw32_same.calls (k : Nat) (A0 : Option Addr) (c0 : Nat) (l0 : List Int) (A1 : Option Addr) (c1 : Nat) (l1 : List Int) (r : Bool) (w : World) (hr0 : Kd.C (Kd.int .i64) w A0 l0.length l0) (hc0 : l0.length ≤ c0) (hr1 : Kd.C (Kd.int .i64) w A1 l1.length l1) (hc1 : l1.length ≤ c1) (h : tapearchivelaw32_same.f k l0 l1 = some r) :
  Calls Try.prog 16 #[.slice A0 l0.length c0, .slice A1 l1.length c1] w fun e w' => e = .returned (.bool r) ∧ Drawn0 w w' := by
 have HR0 := am_ hr0; have HC0 := am_ hc0; clear hr0 hc0; have HR1 := am_ hr1; have HC1 := am_ hc1; clear hr1 hc1; have H : (if (l0.length : Int) = (l1.length : Int) then (tapearchivelaw32_same.l0 k l0 l1 0) else (some false)) = some r := h; clear h
 by_cases c3 : (l0.length : Int) = (l1.length : Int)
 ·
  rw [if_pos c3] at H; have c3b0 : ((l0.length : Int) == (l1.length : Int)) = true := beq_iff_eq.mpr c3; have c3b1 : ((l0.length : Int) != (l1.length : Int)) = false := bne_eq_false_iff_eq.mpr c3; have c3b2 : (l0.length == l1.length) = true := by first | simpa using c3 | (simp at c3 ⊢; omega)
  clear c3; have H' := am_ H; clear H; go_enter Try.func16, Try.ntmps16; go_wp2
  repeat (go_quiet (fail); try go_wp2)
  go_loopg [5] k (fun kq v5 w' => ∃ (x5_1 : Int), v5 = .int .i64 x5_1 ∧ Aside0 (tapearchivelaw32_same.l0 kq l0 l1 x5_1 = some r) ∧ Aside0 (kq ≤ k) ∧ Drawn0 w w')
  case atStart => exact ⟨(0), (by first | rfl | (simp; done) | (simp [*]; done)), H', ⟨Nat.le_refl _⟩, by repeat (first | exact Drawn0.refl _ | apply Drawn0.step)⟩
  case round =>
   clear H'
   try clear c1
   try clear p2
   try clear c3
   try clear c3b0
   try clear c3b1
   try clear c3b2
   obtain ⟨x5_1, rfl, HA, HK1, ⟨m1, rfl⟩⟩ := hrel; cases gk with
   | zero => exact absurd HA.out (by simp [tapearchivelaw32_same.l0])
   | succ k1 =>
    have H := HA.out; clear HA; simp only [tapearchivelaw32_same.l0] at H
    by_cases c4 : x5_1 < (l0.length : Int)
    ·
     rw [if_pos c4] at H; have c4b0 : decide (x5_1 < (l0.length : Int)) = true := de_ c4; clear c4
     by_cases c5 : 0 ≤ x5_1
     ·
      rw [if_pos c5] at H; have c5b0 : decide (0 ≤ x5_1) = true := de_ c5; clear c5
      by_cases c6 : x5_1 < (l1.length : Int)
      ·
       rw [if_pos c6] at H; have c6b0 : decide (x5_1 < (l1.length : Int)) = true := de_ c6; clear c6
       by_cases c7 : (rd l0 x5_1) = (rd l1 x5_1)
       ·
        rw [if_pos c7] at H; have c7b0 : ((rd l0 x5_1) == (rd l1 x5_1)) = true := beq_iff_eq.mpr c7; have c7b1 : ((rd l0 x5_1) != (rd l1 x5_1)) = false := bne_eq_false_iff_eq.mpr c7; clear c7; have H' := am_ H; clear H; have p154 : 0 ≤ (x5_1 : Int) := ot_ (by first | (with_reducible assumption) | assumption); have q154 : x5_1 < (l0.length : Int) := ot_ (by first | (with_reducible assumption) | assumption); obtain ⟨ad154, e154, hx154_0⟩ := Kd.at_int HR0.out x5_1 p154 q154; cases e154; replace p154 := eq_true p154; replace q154 := eq_true q154; have p155 : 0 ≤ (x5_1 : Int) := ot_ (by first | (with_reducible assumption) | assumption); have q155 : x5_1 < (l1.length : Int) := ot_ (by first | (with_reducible assumption) | assumption); obtain ⟨ad155, e155, hx155_0⟩ := Kd.at_int HR1.out x5_1 p155 q155; cases e155; replace p155 := eq_true p155; replace q155 := eq_true q155; go_wp2
        repeat (go_quiet (fail); try go_wp2)
        go_roundg k1
        case measure => have := HK1.out; omega
        case rel => exact ⟨(wrap64 (x5_1 + 1)), (by first | rfl | (simp; done) | (simp [*]; done)), H', ⟨by have := HK1.out; omega⟩, by repeat (first | exact Drawn0.refl _ | apply Drawn0.step)⟩
       ·
        rw [if_neg c7] at H; have c7b0 : ((rd l0 x5_1) == (rd l1 x5_1)) = false := beq_eq_false_iff_ne.mpr c7; have c7b1 : ((rd l0 x5_1) != (rd l1 x5_1)) = true := bne_iff_ne.mpr c7; obtain rfl := si_ H; have p154 : 0 ≤ (x5_1 : Int) := ot_ (by first | (with_reducible assumption) | assumption); have q154 : x5_1 < (l0.length : Int) := ot_ (by first | (with_reducible assumption) | assumption); obtain ⟨ad154, e154, hx154_0⟩ := Kd.at_int HR0.out x5_1 p154 q154; cases e154; replace p154 := eq_true p154; replace q154 := eq_true q154; have p155 : 0 ≤ (x5_1 : Int) := ot_ (by first | (with_reducible assumption) | assumption); have q155 : x5_1 < (l1.length : Int) := ot_ (by first | (with_reducible assumption) | assumption); obtain ⟨ad155, e155, hx155_0⟩ := Kd.at_int HR1.out x5_1 p155 q155; cases e155; replace p155 := eq_true p155; replace q155 := eq_true q155; go_wp2
        repeat (go_quiet (fail); try go_wp2)
        go_ret; exact ⟨by first | rfl | (simp; done) | (simp [*]; done), by repeat (first | exact Drawn0.refl _ | apply Drawn0.step)⟩
      ·
       rw [if_neg c6] at H; exact absurd H (by simp)
     ·
      rw [if_neg c5] at H; exact absurd H (by simp)
    ·
     rw [if_neg c4] at H; have c4b0 : decide (x5_1 < (l0.length : Int)) = false := df_ c4; clear c4; obtain rfl := si_ H; go_wp2
     repeat (go_quiet (fail); try go_wp2)
     go_ret; exact ⟨by first | rfl | (simp; done) | (simp [*]; done), by repeat (first | exact Drawn0.refl _ | apply Drawn0.step)⟩
 ·
  rw [if_neg c3] at H; have c3b0 : ((l0.length : Int) == (l1.length : Int)) = false := beq_eq_false_iff_ne.mpr c3; have c3b1 : ((l0.length : Int) != (l1.length : Int)) = true := bne_iff_ne.mpr c3; have c3b2 : (l0.length == l1.length) = false := by first | simpa using c3 | (simp at c3 ⊢; omega)
  obtain rfl := si_ H; go_enter Try.func16, Try.ntmps16; go_wp2
  repeat (go_quiet (fail); try go_wp2)
  go_ret; exact ⟨by first | rfl | (simp; done) | (simp [*]; done), by repeat (first | exact Drawn0.refl _ | apply Drawn0.step)⟩
def tapearchivelaw32_awake.f (k : Nat)  : Option (Bool) := (some (([(⟨0, 0, (⟨#[]⟩ : ByteArray), (⟨#[97, 110, 110]⟩ : ByteArray), (⟨#[]⟩ : ByteArray), 60, 0, 0, 0, 0, ([] : List (S145))⟩ : S66)] : List (S66)) : List (S66))).bind fun y156 => ((some (([(⟨(⟨#[97, 110, 110]⟩ : ByteArray), 100⟩ : S55)] : List (S55)) : List (S55))).bind fun y159 => ((quota_Admit.f 0 0 0 y156 ([] : List (S133)) ([] : List (S135)) ([] : List (S137)) ([] : List (S139)) ([] : List (S141)) y159 ([] : List (S143)) (([(⟨#[98, 111, 98]⟩ : ByteArray), (⟨#[97, 110, 110]⟩ : ByteArray)] : List ByteArray)) (([10, 41] : List Int))).bind fun bt169 => ((quota_Share.f 10 (([1, 1, 1] : List Int))).bind fun bt174 => ((quota_Limit.f y159 (⟨#[97, 110, 110]⟩ : ByteArray)).bind fun bt178 => ((quota_Used.f y156 (⟨#[97, 110, 110]⟩ : ByteArray)).bind fun t180 => (if t180 = 60 then (if bt169.1 = 1 then (if bt169.2 = 20 then (if bt174.2 = 0 then ((tapearchivelaw32_same.f k bt174.1 (([4, 3, 3] : List Int))).bind fun t184 => (if t184 = true then (if bt178.1 = 100 then (some bt178.2) else (some false)) else (some false))) else (some false)) else (some false)) else (some false)) else (some false)))))))
set_option maxHeartbeats 8000000 in
set_option maxRecDepth 100000 in
theorem tapearchivelaw32_awake.calls (k : Nat)  (r : Bool) (w : World) (HRT : Aside0 (r = true)) (h : tapearchivelaw32_awake.f k  = some r) :
  Calls Try.prog 13 #[] w fun e w' => e = .returned (.bool r) ∧ Below w.heap.size w w' := by
 have hu66 := Try.underlying66; have hu55 := Try.underlying55; have hu31 := Try.underlying31; have HB := am_ (Below.refl w.heap.size w); have H : ((some (([(⟨0, 0, (⟨#[]⟩ : ByteArray), (⟨#[97, 110, 110]⟩ : ByteArray), (⟨#[]⟩ : ByteArray), 60, 0, 0, 0, 0, ([] : List (S145))⟩ : S66)] : List (S66)) : List (S66))).bind fun y156 => ((some (([(⟨(⟨#[97, 110, 110]⟩ : ByteArray), 100⟩ : S55)] : List (S55)) : List (S55))).bind fun y159 => ((quota_Admit.f 0 0 0 y156 ([] : List (S133)) ([] : List (S135)) ([] : List (S137)) ([] : List (S139)) ([] : List (S141)) y159 ([] : List (S143)) (([(⟨#[98, 111, 98]⟩ : ByteArray), (⟨#[97, 110, 110]⟩ : ByteArray)] : List ByteArray)) (([10, 41] : List Int))).bind fun bt169 => ((quota_Share.f 10 (([1, 1, 1] : List Int))).bind fun bt174 => ((quota_Limit.f y159 (⟨#[97, 110, 110]⟩ : ByteArray)).bind fun bt178 => ((quota_Used.f y156 (⟨#[97, 110, 110]⟩ : ByteArray)).bind fun t180 => (if t180 = 60 then (if bt169.1 = 1 then (if bt169.2 = 20 then (if bt174.2 = 0 then ((tapearchivelaw32_same.f k bt174.1 (([4, 3, 3] : List Int))).bind fun t184 => (if t184 = true then (if bt178.1 = 100 then (some bt178.2) else (some false)) else (some false))) else (some false)) else (some false)) else (some false)) else (some false)))))))) = some r := h; clear h; obtain ⟨y156, hy156⟩ : ∃ y_ : List (S66), y_ = (([(⟨0, 0, (⟨#[]⟩ : ByteArray), (⟨#[97, 110, 110]⟩ : ByteArray), (⟨#[]⟩ : ByteArray), 60, 0, 0, 0, 0, ([] : List (S145))⟩ : S66)] : List (S66))) := ⟨_, rfl⟩; replace H : ((some (([(⟨(⟨#[97, 110, 110]⟩ : ByteArray), 100⟩ : S55)] : List (S55)) : List (S55))).bind fun y159 => ((quota_Admit.f 0 0 0 y156 ([] : List (S133)) ([] : List (S135)) ([] : List (S137)) ([] : List (S139)) ([] : List (S141)) y159 ([] : List (S143)) (([(⟨#[98, 111, 98]⟩ : ByteArray), (⟨#[97, 110, 110]⟩ : ByteArray)] : List ByteArray)) (([10, 41] : List Int))).bind fun bt169 => ((quota_Share.f 10 (([1, 1, 1] : List Int))).bind fun bt174 => ((quota_Limit.f y159 (⟨#[97, 110, 110]⟩ : ByteArray)).bind fun bt178 => ((quota_Used.f y156 (⟨#[97, 110, 110]⟩ : ByteArray)).bind fun t180 => (if t180 = 60 then (if bt169.1 = 1 then (if bt169.2 = 20 then (if bt174.2 = 0 then ((tapearchivelaw32_same.f k bt174.1 (([4, 3, 3] : List Int))).bind fun t184 => (if t184 = true then (if bt178.1 = 100 then (some bt178.2) else (some false)) else (some false))) else (some false)) else (some false)) else (some false)) else (some false))))))) = some r := by first | (rw [hy156]; with_reducible exact H) | (have H2_ := (Option.bind_some _ _).symm.trans H; rw [hy156]; with_reducible exact H2_) | (have H2_ := (Option.bind_some _ _).symm.trans H; with_reducible exact H2_) | with_reducible exact H | (rw [hy156]; exact H) | exact H
 have Ny156 := am_ hy156; clear hy156; obtain ⟨y159, hy159⟩ : ∃ y_ : List (S55), y_ = (([(⟨(⟨#[97, 110, 110]⟩ : ByteArray), 100⟩ : S55)] : List (S55))) := ⟨_, rfl⟩; replace H : ((quota_Admit.f 0 0 0 y156 ([] : List (S133)) ([] : List (S135)) ([] : List (S137)) ([] : List (S139)) ([] : List (S141)) y159 ([] : List (S143)) (([(⟨#[98, 111, 98]⟩ : ByteArray), (⟨#[97, 110, 110]⟩ : ByteArray)] : List ByteArray)) (([10, 41] : List Int))).bind fun bt169 => ((quota_Share.f 10 (([1, 1, 1] : List Int))).bind fun bt174 => ((quota_Limit.f y159 (⟨#[97, 110, 110]⟩ : ByteArray)).bind fun bt178 => ((quota_Used.f y156 (⟨#[97, 110, 110]⟩ : ByteArray)).bind fun t180 => (if t180 = 60 then (if bt169.1 = 1 then (if bt169.2 = 20 then (if bt174.2 = 0 then ((tapearchivelaw32_same.f k bt174.1 (([4, 3, 3] : List Int))).bind fun t184 => (if t184 = true then (if bt178.1 = 100 then (some bt178.2) else (some false)) else (some false))) else (some false)) else (some false)) else (some false)) else (some false)))))) = some r := by first | (rw [hy159]; with_reducible exact H) | (have H2_ := (Option.bind_some _ _).symm.trans H; rw [hy159]; with_reducible exact H2_) | (have H2_ := (Option.bind_some _ _).symm.trans H; with_reducible exact H2_) | with_reducible exact H | (rw [hy159]; exact H) | exact H
 have Ny159 := am_ hy159; clear hy159; obtain ⟨y163, hy163⟩ : ∃ y_ : List ByteArray, y_ = (([(⟨#[98, 111, 98]⟩ : ByteArray), (⟨#[97, 110, 110]⟩ : ByteArray)] : List ByteArray)) := ⟨_, rfl⟩; replace H : ((quota_Admit.f 0 0 0 y156 ([] : List (S133)) ([] : List (S135)) ([] : List (S137)) ([] : List (S139)) ([] : List (S141)) y159 ([] : List (S143)) y163 (([10, 41] : List Int))).bind fun bt169 => ((quota_Share.f 10 (([1, 1, 1] : List Int))).bind fun bt174 => ((quota_Limit.f y159 (⟨#[97, 110, 110]⟩ : ByteArray)).bind fun bt178 => ((quota_Used.f y156 (⟨#[97, 110, 110]⟩ : ByteArray)).bind fun t180 => (if t180 = 60 then (if bt169.1 = 1 then (if bt169.2 = 20 then (if bt174.2 = 0 then ((tapearchivelaw32_same.f k bt174.1 (([4, 3, 3] : List Int))).bind fun t184 => (if t184 = true then (if bt178.1 = 100 then (some bt178.2) else (some false)) else (some false))) else (some false)) else (some false)) else (some false)) else (some false)))))) = some r := by first | (rw [hy163]; with_reducible exact H) | (have H2_ := (Option.bind_some _ _).symm.trans H; rw [hy163]; with_reducible exact H2_) | (have H2_ := (Option.bind_some _ _).symm.trans H; with_reducible exact H2_) | with_reducible exact H | (rw [hy163]; exact H) | exact H
 have Ny163 := am_ hy163; clear hy163; obtain ⟨y166, hy166⟩ : ∃ y_ : List Int, y_ = (([10, 41] : List Int)) := ⟨_, rfl⟩; replace H : ((quota_Admit.f 0 0 0 y156 ([] : List (S133)) ([] : List (S135)) ([] : List (S137)) ([] : List (S139)) ([] : List (S141)) y159 ([] : List (S143)) y163 y166).bind fun bt169 => ((quota_Share.f 10 (([1, 1, 1] : List Int))).bind fun bt174 => ((quota_Limit.f y159 (⟨#[97, 110, 110]⟩ : ByteArray)).bind fun bt178 => ((quota_Used.f y156 (⟨#[97, 110, 110]⟩ : ByteArray)).bind fun t180 => (if t180 = 60 then (if bt169.1 = 1 then (if bt169.2 = 20 then (if bt174.2 = 0 then ((tapearchivelaw32_same.f k bt174.1 (([4, 3, 3] : List Int))).bind fun t184 => (if t184 = true then (if bt178.1 = 100 then (some bt178.2) else (some false)) else (some false))) else (some false)) else (some false)) else (some false)) else (some false)))))) = some r := by first | (rw [hy166]; with_reducible exact H) | (have H2_ := (Option.bind_some _ _).symm.trans H; rw [hy166]; with_reducible exact H2_) | (have H2_ := (Option.bind_some _ _).symm.trans H; with_reducible exact H2_) | with_reducible exact H | (rw [hy166]; exact H) | exact H
 have Ny166 := am_ hy166; clear hy166; replace H := Option.bind_eq_some_iff.mp H; obtain ⟨⟨t169, t170⟩, A10, H⟩ := H; replace H : ((quota_Share.f 10 (([1, 1, 1] : List Int))).bind fun bt174 => ((quota_Limit.f y159 (⟨#[97, 110, 110]⟩ : ByteArray)).bind fun bt178 => ((quota_Used.f y156 (⟨#[97, 110, 110]⟩ : ByteArray)).bind fun t180 => (if t180 = 60 then (if t169 = 1 then (if t170 = 20 then (if bt174.2 = 0 then ((tapearchivelaw32_same.f k bt174.1 (([4, 3, 3] : List Int))).bind fun t184 => (if t184 = true then (if bt178.1 = 100 then (some bt178.2) else (some false)) else (some false))) else (some false)) else (some false)) else (some false)) else (some false))))) = some r := H; have A1 := am_ A10; clear A10; obtain ⟨y171, hy171⟩ : ∃ y_ : List Int, y_ = (([1, 1, 1] : List Int)) := ⟨_, rfl⟩; replace H : ((quota_Share.f 10 y171).bind fun bt174 => ((quota_Limit.f y159 (⟨#[97, 110, 110]⟩ : ByteArray)).bind fun bt178 => ((quota_Used.f y156 (⟨#[97, 110, 110]⟩ : ByteArray)).bind fun t180 => (if t180 = 60 then (if t169 = 1 then (if t170 = 20 then (if bt174.2 = 0 then ((tapearchivelaw32_same.f k bt174.1 (([4, 3, 3] : List Int))).bind fun t184 => (if t184 = true then (if bt178.1 = 100 then (some bt178.2) else (some false)) else (some false))) else (some false)) else (some false)) else (some false)) else (some false))))) = some r := by first | (rw [hy171]; with_reducible exact H) | (have H2_ := (Option.bind_some _ _).symm.trans H; rw [hy171]; with_reducible exact H2_) | (have H2_ := (Option.bind_some _ _).symm.trans H; with_reducible exact H2_) | with_reducible exact H | (rw [hy171]; exact H) | exact H
 have Ny171 := am_ hy171; clear hy171; replace H := Option.bind_eq_some_iff.mp H; obtain ⟨⟨t174, t175⟩, A20, H⟩ := H; replace H : ((quota_Limit.f y159 (⟨#[97, 110, 110]⟩ : ByteArray)).bind fun bt178 => ((quota_Used.f y156 (⟨#[97, 110, 110]⟩ : ByteArray)).bind fun t180 => (if t180 = 60 then (if t169 = 1 then (if t170 = 20 then (if t175 = 0 then ((tapearchivelaw32_same.f k t174 (([4, 3, 3] : List Int))).bind fun t184 => (if t184 = true then (if bt178.1 = 100 then (some bt178.2) else (some false)) else (some false))) else (some false)) else (some false)) else (some false)) else (some false)))) = some r := H; have A2 := am_ A20; clear A20; replace H := Option.bind_eq_some_iff.mp H; obtain ⟨⟨t178, t179⟩, A30, H⟩ := H; replace H : ((quota_Used.f y156 (⟨#[97, 110, 110]⟩ : ByteArray)).bind fun t180 => (if t180 = 60 then (if t169 = 1 then (if t170 = 20 then (if t175 = 0 then ((tapearchivelaw32_same.f k t174 (([4, 3, 3] : List Int))).bind fun t184 => (if t184 = true then (if t178 = 100 then (some t179) else (some false)) else (some false))) else (some false)) else (some false)) else (some false)) else (some false))) = some r := H; have A3 := am_ A30; clear A30; replace H := Option.bind_eq_some_iff.mp H; obtain ⟨t180, A40, H⟩ := H; replace H : (if t180 = 60 then (if t169 = 1 then (if t170 = 20 then (if t175 = 0 then ((tapearchivelaw32_same.f k t174 (([4, 3, 3] : List Int))).bind fun t184 => (if t184 = true then (if t178 = 100 then (some t179) else (some false)) else (some false))) else (some false)) else (some false)) else (some false)) else (some false)) = some r := H; have A4 := am_ A40; clear A40
 by_cases c5 : t180 = 60
 ·
  rw [if_pos c5] at H; have c5b0 : (t180 == 60) = true := beq_iff_eq.mpr c5; have c5b1 : (t180 != 60) = false := bne_eq_false_iff_eq.mpr c5; clear c5
  by_cases c6 : t169 = 1
  ·
   rw [if_pos c6] at H; have c6b0 : (t169 == 1) = true := beq_iff_eq.mpr c6; have c6b1 : (t169 != 1) = false := bne_eq_false_iff_eq.mpr c6; clear c6
   by_cases c7 : t170 = 20
   ·
    rw [if_pos c7] at H; have c7b0 : (t170 == 20) = true := beq_iff_eq.mpr c7; have c7b1 : (t170 != 20) = false := bne_eq_false_iff_eq.mpr c7; clear c7
    by_cases c8 : t175 = 0
    ·
     rw [if_pos c8] at H; have c8b0 : (t175 == 0) = true := beq_iff_eq.mpr c8; have c8b1 : (t175 != 0) = false := bne_eq_false_iff_eq.mpr c8; clear c8; obtain ⟨y181, hy181⟩ : ∃ y_ : List Int, y_ = (([4, 3, 3] : List Int)) := ⟨_, rfl⟩; replace H : ((tapearchivelaw32_same.f k t174 y181).bind fun t184 => (if t184 = true then (if t178 = 100 then (some t179) else (some false)) else (some false))) = some r := by first | (rw [hy181]; with_reducible exact H) | (have H2_ := (Option.bind_some _ _).symm.trans H; rw [hy181]; with_reducible exact H2_) | (have H2_ := (Option.bind_some _ _).symm.trans H; with_reducible exact H2_) | with_reducible exact H | (rw [hy181]; exact H) | exact H
     have Ny181 := am_ hy181; clear hy181; replace H := Option.bind_eq_some_iff.mp H; obtain ⟨t184, A90, H⟩ := H; replace H : (if t184 = true then (if t178 = 100 then (some t179) else (some false)) else (some false)) = some r := H; have A9 := am_ A90; clear A90
     by_cases c10 : t184 = true
     ·
      subst c10; have H1 : (if t178 = 100 then (some t179) else (some false)) = some r := by rw [if_pos rfl] at H; exact H
      clear H; have H := H1; clear H1
      by_cases c11 : t178 = 100
      ·
       rw [if_pos c11] at H; have c11b0 : (t178 == 100) = true := beq_iff_eq.mpr c11; have c11b1 : (t178 != 100) = false := bne_eq_false_iff_eq.mpr c11; clear c11; obtain rfl := si_ H; go_enter Try.func13, Try.ntmps13
       go_wp2_with (first | ((with_reducible refine gate_dst (N := 9) rfl ?_); (try (refine gate_guard (by rfl) ?_; dsimp only)); refine Kd.S_lit k66 _ 66 ?hg (N := 9) ?hd (xs := ([(⟨0, 0, (⟨#[]⟩ : ByteArray), (⟨#[97, 110, 110]⟩ : ByteArray), (⟨#[]⟩ : ByteArray), 60, 0, 0, 0, 0, ([] : List (S145))⟩ : S66)] : List (S66))) (inner := [.int .i64 0, .int .i64 0, .string (⟨#[]⟩ : ByteArray), .string (⟨#[97, 110, 110]⟩ : ByteArray), .string (⟨#[]⟩ : ByteArray), .int .i64 60, .int .u32 0, .int .u64 0, .int .i64 0, .int .i64 0, .slice none 0 0]) (ok := fun _ => True) (okp := fun _ => True) ?hr ?hp (fun _ hk => hk) trivial (Below.refl _ _) (Nat.le_refl _) (by simp) ?_; (case hd => rfl); (case hg => rfl); (case hr => first | (go_simp; done) | (go_simp; rfl)); (case hp => exact (Reps.front (show Kd.M k66 _ _ _ (⟨0, 0, (⟨#[]⟩ : ByteArray), (⟨#[97, 110, 110]⟩ : ByteArray), (⟨#[]⟩ : ByteArray), 60, 0, 0, 0, 0, ([] : List (S145))⟩ : S66) [.int .i64 0, .int .i64 0, .string (⟨#[]⟩ : ByteArray), .string (⟨#[97, 110, 110]⟩ : ByteArray), .string (⟨#[]⟩ : ByteArray), .int .i64 60, .int .u32 0, .int .u64 0, .int .i64 0, .int .i64 0, .slice none 0 0] from (k66_mkM _ _ _ (⟨0, 0, (⟨#[]⟩ : ByteArray), (⟨#[97, 110, 110]⟩ : ByteArray), (⟨#[]⟩ : ByteArray), 60, 0, 0, 0, 0, ([] : List (S145))⟩ : S66) (Kd.R_nil _ _ _ _ _))) rfl (Reps.none _ _) rfl)); intro v157 w12 ho13 hb hg_ hnew_; clear hg_ hnew_; (first | rw [← Ny156.out] at ho13 | (simp only [Int.reduceToNat] at ho13; rw [← Ny156.out] at ho13)); have n0_ := am_ (Kd.S_lower ho13 (bz_ (pb0_ HB.out))); have n1_ := am_ (sp_ (pb0_ HB.out) hb); clear HB; have HO158 := n0_; have HB := n1_; clear n0_ n1_; clear hb ho13) | ((with_reducible refine gate_dst (N := 11) rfl ?_); (try (refine gate_guard (by rfl) ?_; dsimp only)); refine Kd.R_lit k55 _ 55 ?hg (N := 11) ?hd (xs := ([(⟨(⟨#[97, 110, 110]⟩ : ByteArray), 100⟩ : S55)] : List (S55))) (inner := [.string (⟨#[97, 110, 110]⟩ : ByteArray), .int .i64 100]) (ok := fun _ => True) (okp := fun _ => True) ?hr ?hp (fun _ hk => hk) trivial (Below.refl _ _) (Nat.le_refl _) (by simp) ?_; (case hd => rfl); (case hg => rfl); (case hr => first | (go_simp; done) | (go_simp; rfl)); (case hp => exact (Reps.c2 (show Kd.M k55 _ _ _ (⟨(⟨#[97, 110, 110]⟩ : ByteArray), 100⟩ : S55) [.string (⟨#[97, 110, 110]⟩ : ByteArray), .int .i64 100] from (k55_mkM _ _ _ (⟨(⟨#[97, 110, 110]⟩ : ByteArray), 100⟩ : S55) )) (Reps.none _ _))); intro v160 w14 ho15 hb hg_ hnew_; clear hg_ hnew_; (first | rw [← Ny159.out] at ho15 | (simp only [Int.reduceToNat] at ho15; rw [← Ny159.out] at ho15)); have n0_ := am_ (Kd.S_below (pS_ HO158.out) hb); have n1_ := am_ (Kd.R_lower ho15 (bz_ (pb0_ HB.out))); have n2_ := am_ (sp_ (pb0_ HB.out) hb); clear HO158; clear HB; have HO158 := n0_; have HO161 := n1_; have HB := n2_; clear n0_ n1_ n2_; clear hb ho15; obtain ⟨Ao16, co16, eo16⟩ := Kd.R_slice HO161.out; subst eo16; obtain ⟨Ao17, co17, eo17⟩ := Kd.S_slice HO158.out; subst eo17) | ((with_reducible refine gate_dst (N := 1) rfl ?_); (try (refine gate_guard (by rfl) ?_; dsimp only)); refine box_event ?hg (N := 1) ?hd (cs := #[.int .i64 0, .int .i64 0, .int .i64 0, .slice none 0 0, .slice none 0 0, .slice none 0 0, .slice none 0 0, .slice none 0 0, .slice none 0 0, .slice none 0 0, .slice none 0 0]) (t := 31) ?hr ?_; (case hd => rfl); (case hg => rfl); (case hr => first | (go_simp; done) | (go_simp; rfl)); intro gb162 hg w18 hbox hb; have n0_ := am_ (Kd.S_below (pS_ HO158.out) hb); have n1_ := am_ (Kd.R_below (pR_ HO161.out) hb); have n2_ := am_ (sp_ (pb0_ HB.out) hb); have n3_ := am_ (hbox); have n4_ := am_ ((by rw [hg]; exact (bz_ (pb0_ HB.out)) : w.heap.size ≤ gb162)); have n5_ := am_ ((by rw [hg]; exact (bz_ (pb0_ HB.out)) : w.heap.size ≤ gb162)); clear HO158; clear HO161; clear HB; have HO158 := n0_; have HO161 := n1_; have HB := n2_; have BK162 := n3_; have GW162 := n4_; have GE162 := n5_; clear n0_ n1_ n2_ n3_ n4_ n5_; clear hb hbox hg; have hcz19_0 : w18.cell? ⟨gb162, 0, none⟩ = some (.int .i64 0) := (bc_ BK162.out 0).trans rfl; have hcz19_1 : w18.cell? ⟨gb162, 1, none⟩ = some (.int .i64 0) := (bc_ BK162.out 1).trans rfl; have hcz19_2 : w18.cell? ⟨gb162, 2, none⟩ = some (.int .i64 0) := (bc_ BK162.out 2).trans rfl; have hcz19_3 : w18.cell? ⟨gb162, 3, none⟩ = some (.slice none 0 0) := (bc_ BK162.out 3).trans rfl; have hcz19_4 : w18.cell? ⟨gb162, 4, none⟩ = some (.slice none 0 0) := (bc_ BK162.out 4).trans rfl; have hcz19_5 : w18.cell? ⟨gb162, 5, none⟩ = some (.slice none 0 0) := (bc_ BK162.out 5).trans rfl; have hcz19_6 : w18.cell? ⟨gb162, 6, none⟩ = some (.slice none 0 0) := (bc_ BK162.out 6).trans rfl; have hcz19_7 : w18.cell? ⟨gb162, 7, none⟩ = some (.slice none 0 0) := (bc_ BK162.out 7).trans rfl; have hcz19_8 : w18.cell? ⟨gb162, 8, none⟩ = some (.slice none 0 0) := (bc_ BK162.out 8).trans rfl; have hcz19_9 : w18.cell? ⟨gb162, 9, none⟩ = some (.slice none 0 0) := (bc_ BK162.out 9).trans rfl; have hcz19_10 : w18.cell? ⟨gb162, 10, none⟩ = some (.slice none 0 0) := (bc_ BK162.out 10).trans rfl; have hfz19_0 := bf_ BK162.out 0; have hfz19_1 := bf_ BK162.out 1; have hfz19_2 := bf_ BK162.out 2; have hfz19_3 := bf_ BK162.out 3; have hfz19_4 := bf_ BK162.out 4; have hfz19_5 := bf_ BK162.out 5; have hfz19_6 := bf_ BK162.out 6; have hfz19_7 := bf_ BK162.out 7; have hfz19_8 := bf_ BK162.out 8; have hfz19_9 := bf_ BK162.out 9; have hfz19_10 := bf_ BK162.out 10) | ((with_reducible refine gate_dst (N := 15) rfl ?_); (try (refine gate_guard (by rfl) ?_; dsimp only)); refine Kd.R_lit Kd.string _ 9 ?hg (N := 15) ?hd (xs := ([(⟨#[98, 111, 98]⟩ : ByteArray), (⟨#[97, 110, 110]⟩ : ByteArray)] : List ByteArray)) (inner := [.string (⟨#[98, 111, 98]⟩ : ByteArray), .string (⟨#[97, 110, 110]⟩ : ByteArray)]) (ok := fun _ => True) (okp := fun _ => True) ?hr ?hp (fun _ hk => hk) trivial (Below.refl _ _) (Nat.le_refl _) (by simp) ?_; (case hd => rfl); (case hg => rfl); (case hr => first | (go_simp; done) | (go_simp; rfl)); (case hp => exact (Reps.one (show Kd.M Kd.string _ _ _ (⟨#[98, 111, 98]⟩ : ByteArray) [.string (⟨#[98, 111, 98]⟩ : ByteArray)] from rfl) (Reps.one (show Kd.M Kd.string _ _ _ (⟨#[97, 110, 110]⟩ : ByteArray) [.string (⟨#[97, 110, 110]⟩ : ByteArray)] from rfl) (Reps.none _ _)))); intro v164 w20 ho21 hb hg_ hnew_; clear hg_ hnew_; (first | rw [← Ny163.out] at ho21 | (simp only [Int.reduceToNat] at ho21; rw [← Ny163.out] at ho21)); have n0_ := am_ (Kd.S_below (by (with_reducible repeat (first | apply Kd.S_alloc | apply Kd.S_drewN | apply Kd.S_drew)); exact (Kd.S_mono (Kd.S_far (p := ⟨gb162, 10, none⟩) (Kd.S_far (p := ⟨gb162, 9, none⟩) (Kd.S_far (p := ⟨gb162, 8, none⟩) (Kd.S_far (p := ⟨gb162, 7, none⟩) (Kd.S_far (p := ⟨gb162, 6, none⟩) (Kd.S_far (p := ⟨gb162, 5, none⟩) (Kd.S_far (p := ⟨gb162, 4, none⟩) (Kd.S_far (p := ⟨gb162, 3, none⟩) (Kd.S_far (p := ⟨gb162, 2, none⟩) (Kd.S_far (p := ⟨gb162, 1, none⟩) (Kd.S_far (p := ⟨gb162, 0, none⟩) (Kd.S_types HO158.out BK162.out (by decide)) (fun _ hk => hk.2) (.int .i64 0)) (fun _ hk => hk.2) (.int .i64 0)) (fun _ hk => hk.2) (.int .i64 0)) (fun _ hk => hk.2) (.slice Ao17 y156.length co17)) (fun _ hk => hk.2) (.slice none 0 0)) (fun _ hk => hk.2) (.slice none 0 0)) (fun _ hk => hk.2) (.slice none 0 0)) (fun _ hk => hk.2) (.slice none 0 0)) (fun _ hk => hk.2) (.slice none 0 0)) (fun _ hk => hk.2) (.slice Ao16 y159.length co16)) (fun _ hk => hk.2) (.slice none 0 0)) (fun _ h_ => h_.1))) hb); have n1_ := am_ (Kd.R_below (by (with_reducible repeat (first | apply Kd.R_alloc | apply Kd.R_drewN | apply Kd.R_drew)); exact (Kd.R_mono (Kd.R_far (p := ⟨gb162, 10, none⟩) (Kd.R_far (p := ⟨gb162, 9, none⟩) (Kd.R_far (p := ⟨gb162, 8, none⟩) (Kd.R_far (p := ⟨gb162, 7, none⟩) (Kd.R_far (p := ⟨gb162, 6, none⟩) (Kd.R_far (p := ⟨gb162, 5, none⟩) (Kd.R_far (p := ⟨gb162, 4, none⟩) (Kd.R_far (p := ⟨gb162, 3, none⟩) (Kd.R_far (p := ⟨gb162, 2, none⟩) (Kd.R_far (p := ⟨gb162, 1, none⟩) (Kd.R_far (p := ⟨gb162, 0, none⟩) (Kd.R_types HO161.out BK162.out (by decide)) (fun _ hk => hk.2) (.int .i64 0)) (fun _ hk => hk.2) (.int .i64 0)) (fun _ hk => hk.2) (.int .i64 0)) (fun _ hk => hk.2) (.slice Ao17 y156.length co17)) (fun _ hk => hk.2) (.slice none 0 0)) (fun _ hk => hk.2) (.slice none 0 0)) (fun _ hk => hk.2) (.slice none 0 0)) (fun _ hk => hk.2) (.slice none 0 0)) (fun _ hk => hk.2) (.slice none 0 0)) (fun _ hk => hk.2) (.slice Ao16 y159.length co16)) (fun _ hk => hk.2) (.slice none 0 0)) (fun _ h_ => h_.1))) hb); have n2_ := am_ (Kd.R_lower ho21 (bz_ (pb1_ HB.out GE162.out))); have n3_ := am_ (bw_ (g := gb162) (o := .cells #[.int .i64 0, .int .i64 0, .int .i64 0, .slice Ao17 y156.length co17, .slice none 0 0, .slice none 0 0, .slice none 0 0, .slice none 0 0, .slice none 0 0, .slice Ao16 y159.length co16, .slice none 0 0] 31 (0, 0)) (by (with_reducible repeat (first | refine bn_ ?_ _ | refine bd_ ?_ | refine ba_ ?_ _)); refine blk_put (cs := #[.int .i64 0, .int .i64 0, .int .i64 0, .slice Ao17 y156.length co17, .slice none 0 0, .slice none 0 0, .slice none 0 0, .slice none 0 0, .slice none 0 0, .slice Ao16 y159.length co16, .slice none 0 0]) ?_ 10 _ rfl; (with_reducible repeat (first | refine bn_ ?_ _ | refine bd_ ?_ | refine ba_ ?_ _)); refine blk_put (cs := #[.int .i64 0, .int .i64 0, .int .i64 0, .slice Ao17 y156.length co17, .slice none 0 0, .slice none 0 0, .slice none 0 0, .slice none 0 0, .slice none 0 0, .slice none 0 0, .slice none 0 0]) ?_ 9 _ rfl; (with_reducible repeat (first | refine bn_ ?_ _ | refine bd_ ?_ | refine ba_ ?_ _)); refine blk_put (cs := #[.int .i64 0, .int .i64 0, .int .i64 0, .slice Ao17 y156.length co17, .slice none 0 0, .slice none 0 0, .slice none 0 0, .slice none 0 0, .slice none 0 0, .slice none 0 0, .slice none 0 0]) ?_ 8 _ rfl; (with_reducible repeat (first | refine bn_ ?_ _ | refine bd_ ?_ | refine ba_ ?_ _)); refine blk_put (cs := #[.int .i64 0, .int .i64 0, .int .i64 0, .slice Ao17 y156.length co17, .slice none 0 0, .slice none 0 0, .slice none 0 0, .slice none 0 0, .slice none 0 0, .slice none 0 0, .slice none 0 0]) ?_ 7 _ rfl; (with_reducible repeat (first | refine bn_ ?_ _ | refine bd_ ?_ | refine ba_ ?_ _)); refine blk_put (cs := #[.int .i64 0, .int .i64 0, .int .i64 0, .slice Ao17 y156.length co17, .slice none 0 0, .slice none 0 0, .slice none 0 0, .slice none 0 0, .slice none 0 0, .slice none 0 0, .slice none 0 0]) ?_ 6 _ rfl; (with_reducible repeat (first | refine bn_ ?_ _ | refine bd_ ?_ | refine ba_ ?_ _)); refine blk_put (cs := #[.int .i64 0, .int .i64 0, .int .i64 0, .slice Ao17 y156.length co17, .slice none 0 0, .slice none 0 0, .slice none 0 0, .slice none 0 0, .slice none 0 0, .slice none 0 0, .slice none 0 0]) ?_ 5 _ rfl; (with_reducible repeat (first | refine bn_ ?_ _ | refine bd_ ?_ | refine ba_ ?_ _)); refine blk_put (cs := #[.int .i64 0, .int .i64 0, .int .i64 0, .slice Ao17 y156.length co17, .slice none 0 0, .slice none 0 0, .slice none 0 0, .slice none 0 0, .slice none 0 0, .slice none 0 0, .slice none 0 0]) ?_ 4 _ rfl; (with_reducible repeat (first | refine bn_ ?_ _ | refine bd_ ?_ | refine ba_ ?_ _)); refine blk_put (cs := #[.int .i64 0, .int .i64 0, .int .i64 0, .slice none 0 0, .slice none 0 0, .slice none 0 0, .slice none 0 0, .slice none 0 0, .slice none 0 0, .slice none 0 0, .slice none 0 0]) ?_ 3 _ rfl; (with_reducible repeat (first | refine bn_ ?_ _ | refine bd_ ?_ | refine ba_ ?_ _)); refine blk_put (cs := #[.int .i64 0, .int .i64 0, .int .i64 0, .slice none 0 0, .slice none 0 0, .slice none 0 0, .slice none 0 0, .slice none 0 0, .slice none 0 0, .slice none 0 0, .slice none 0 0]) ?_ 2 _ rfl; (with_reducible repeat (first | refine bn_ ?_ _ | refine bd_ ?_ | refine ba_ ?_ _)); refine blk_put (cs := #[.int .i64 0, .int .i64 0, .int .i64 0, .slice none 0 0, .slice none 0 0, .slice none 0 0, .slice none 0 0, .slice none 0 0, .slice none 0 0, .slice none 0 0, .slice none 0 0]) ?_ 1 _ rfl; (with_reducible repeat (first | refine bn_ ?_ _ | refine bd_ ?_ | refine ba_ ?_ _)); refine blk_put (cs := #[.int .i64 0, .int .i64 0, .int .i64 0, .slice none 0 0, .slice none 0 0, .slice none 0 0, .slice none 0 0, .slice none 0 0, .slice none 0 0, .slice none 0 0, .slice none 0 0]) ?_ 0 _ rfl; (with_reducible repeat (first | refine bn_ ?_ _ | refine bd_ ?_ | refine ba_ ?_ _)); exact BK162.out) hb); have n4_ := am_ (sp_ (pb1_ HB.out GE162.out) hb); clear HO158; clear HO161; clear BK162; clear HB; have HO158 := n0_; have HO161 := n1_; have HO165 := n2_; have BK162 := n3_; have HB := n4_; clear n0_ n1_ n2_ n3_ n4_; clear hb ho21) | ((with_reducible refine gate_dst (N := 16) rfl ?_); (try (refine gate_guard (by rfl) ?_; dsimp only)); refine Kd.R_lit (Kd.int .i64) _ 3 ?hg (N := 16) ?hd (xs := ([10, 41] : List Int)) (inner := [.int .i64 10, .int .i64 41]) (ok := fun _ => True) (okp := fun _ => True) ?hr ?hp (fun _ hk => hk) trivial (Below.refl _ _) (Nat.le_refl _) (by simp) ?_; (case hd => rfl); (case hg => rfl); (case hr => first | (go_simp; done) | (go_simp; rfl)); (case hp => exact (Reps.one (show Kd.M (Kd.int .i64) _ _ _ 10 [.int .i64 10] from rfl) (Reps.one (show Kd.M (Kd.int .i64) _ _ _ 41 [.int .i64 41] from rfl) (Reps.none _ _)))); intro v167 w22 ho23 hb hg_ hnew_; clear hg_ hnew_; (first | rw [← Ny166.out] at ho23 | (simp only [Int.reduceToNat] at ho23; rw [← Ny166.out] at ho23)); have n0_ := am_ (Kd.S_below (pS_ HO158.out) hb); have n1_ := am_ (Kd.R_below (pR_ HO161.out) hb); have n2_ := am_ (Kd.R_below (pR_ HO165.out) hb); have n3_ := am_ (Kd.R_lower ho23 (bz_ (pb1_ HB.out GE162.out))); have n4_ := am_ (bw_ (g := gb162) (o := .cells #[.int .i64 0, .int .i64 0, .int .i64 0, .slice Ao17 y156.length co17, .slice none 0 0, .slice none 0 0, .slice none 0 0, .slice none 0 0, .slice none 0 0, .slice Ao16 y159.length co16, .slice none 0 0] 31 (0, 0)) (pk_ BK162.out) hb); have n5_ := am_ (sp_ (pb1_ HB.out GE162.out) hb); clear HO158; clear HO161; clear HO165; clear BK162; clear HB; have HO158 := n0_; have HO161 := n1_; have HO165 := n2_; have HO168 := n3_; have BK162 := n4_; have HB := n5_; clear n0_ n1_ n2_ n3_ n4_ n5_; clear hb ho23; obtain ⟨Ao24, co24, eo24⟩ := Kd.R_slice HO165.out; subst eo24; obtain ⟨Ao25, co25, eo25⟩ := Kd.R_slice HO168.out; subst eo25) | ((with_reducible refine gate_callee (f := 11) rfl ?_); refine goesL_ (some 17) rfl rfl Try.func11 (by kernel_rfl) rfl #[.agg #[.int .i64 0, .int .i64 0, .int .i64 0, .slice Ao17 y156.length co17, .slice none 0 0, .slice none 0 0, .slice none 0 0, .slice none 0 0, .slice none 0 0, .slice Ao16 y159.length co16, .slice none 0 0], .slice Ao24 y163.length co24, .slice Ao25 y166.length co25] rfl au_ ?_; (refine (quota_Admit.calls 0 0 0 _ _ y156 _ _ ([] : List (S133)) _ _ ([] : List (S135)) _ _ ([] : List (S137)) _ _ ([] : List (S139)) _ _ ([] : List (S141)) _ _ y159 _ _ ([] : List (S143)) _ _ y163 _ _ y166 t169 t170 _ ?side1 ?side2 ?side3 ?side4 ?side5 ?side6 ?side7 ?side8 ?side9 ?side10 ?side11 ?side12 ?side13 ?side14 ?side15 ?side16 ?side17 ?side18 ?side19 ?side20 A1.out).mono ?_); (case side1 => repeat (first | exact (Kd.S_reads' HO158.out).2.2 | (with_reducible refine Kd.C_alloc ?_ _) | (with_reducible refine Kd.C_drewN ?_ _) | (with_reducible refine Kd.C_drew ?_))); (case side2 => exact (Kd.S_reads' HO158.out).2.1); (case side3 => exact Kd.C_nil _ _); (case side4 => exact Nat.le_refl _); (case side5 => exact Kd.C_nil _ _); (case side6 => exact Nat.le_refl _); (case side7 => exact Kd.C_nil _ _); (case side8 => exact Nat.le_refl _); (case side9 => exact Kd.C_nil _ _); (case side10 => exact Nat.le_refl _); (case side11 => exact Kd.C_nil _ _); (case side12 => exact Nat.le_refl _); (case side13 => repeat (first | exact (Kd.R_reads' HO161.out).2.2 | (with_reducible refine Kd.C_alloc ?_ _) | (with_reducible refine Kd.C_drewN ?_ _) | (with_reducible refine Kd.C_drew ?_))); (case side14 => exact (Kd.R_reads' HO161.out).2.1); (case side15 => exact Kd.C_nil _ _); (case side16 => exact Nat.le_refl _); (case side17 => repeat (first | exact (Kd.R_reads' HO165.out).2.2 | (with_reducible refine Kd.C_alloc ?_ _) | (with_reducible refine Kd.C_drewN ?_ _) | (with_reducible refine Kd.C_drew ?_))); (case side18 => exact (Kd.R_reads' HO165.out).2.1); (case side19 => repeat (first | exact (Kd.R_reads' HO168.out).2.2 | (with_reducible refine Kd.C_alloc ?_ _) | (with_reducible refine Kd.C_drewN ?_ _) | (with_reducible refine Kd.C_drew ?_))); (case side20 => exact (Kd.R_reads' HO168.out).2.1); rintro e w26 ⟨rfl, hb⟩; refine ⟨_, rfl, ?_⟩; have n0_ := am_ (Kd.S_below (pS_ HO158.out) hb); have n1_ := am_ (Kd.R_below (pR_ HO161.out) hb); have n2_ := am_ (Kd.R_below (pR_ HO165.out) hb); have n3_ := am_ (Kd.R_below (pR_ HO168.out) hb); have n4_ := am_ (bw_ (g := gb162) (o := .cells #[.int .i64 0, .int .i64 0, .int .i64 0, .slice Ao17 y156.length co17, .slice none 0 0, .slice none 0 0, .slice none 0 0, .slice none 0 0, .slice none 0 0, .slice Ao16 y159.length co16, .slice none 0 0] 31 (0, 0)) (pk_ BK162.out) hb); have n5_ := am_ (sp_ (pb1_ HB.out GE162.out) hb); clear HO158; clear HO161; clear HO165; clear HO168; clear BK162; clear HB; have HO158 := n0_; have HO161 := n1_; have HO165 := n2_; have HO168 := n3_; have BK162 := n4_; have HB := n5_; clear n0_ n1_ n2_ n3_ n4_ n5_; (try clear hb); (try clear hb2); (try clear hk); (try clear hi)) | ((with_reducible refine gate_dst (N := 21) rfl ?_); (try (refine gate_guard (by rfl) ?_; dsimp only)); refine Kd.R_lit (Kd.int .i64) _ 3 ?hg (N := 21) ?hd (xs := ([1, 1, 1] : List Int)) (inner := [.int .i64 1, .int .i64 1, .int .i64 1]) (ok := fun _ => True) (okp := fun _ => True) ?hr ?hp (fun _ hk => hk) trivial (Below.refl _ _) (Nat.le_refl _) (by simp) ?_; (case hd => rfl); (case hg => rfl); (case hr => first | (go_simp; done) | (go_simp; rfl)); (case hp => exact (Reps.one (show Kd.M (Kd.int .i64) _ _ _ 1 [.int .i64 1] from rfl) (Reps.one (show Kd.M (Kd.int .i64) _ _ _ 1 [.int .i64 1] from rfl) (Reps.one (show Kd.M (Kd.int .i64) _ _ _ 1 [.int .i64 1] from rfl) (Reps.none _ _))))); intro v172 w27 ho28 hb hg_ hnew_; clear hg_ hnew_; (first | rw [← Ny171.out] at ho28 | (simp only [Int.reduceToNat] at ho28; rw [← Ny171.out] at ho28)); have n0_ := am_ (Kd.S_below (pS_ HO158.out) hb); have n1_ := am_ (Kd.R_below (pR_ HO161.out) hb); have n2_ := am_ (Kd.R_below (pR_ HO165.out) hb); have n3_ := am_ (Kd.R_elder' (pR_ HO168.out) (Kd.R_base ho28) hb); have n4_ := am_ (Kd.R_lower (Kd.R_new' ho28 (Kd.R_lt (pR_ HO168.out))) (bz_ (pb1_ HB.out GE162.out))); have n5_ := am_ (bw_ (g := gb162) (o := .cells #[.int .i64 0, .int .i64 0, .int .i64 0, .slice Ao17 y156.length co17, .slice none 0 0, .slice none 0 0, .slice none 0 0, .slice none 0 0, .slice none 0 0, .slice Ao16 y159.length co16, .slice none 0 0] 31 (0, 0)) (pk_ BK162.out) hb); have n6_ := am_ (sp_ (pb1_ HB.out GE162.out) hb); clear HO158; clear HO161; clear HO165; clear HO168; clear BK162; clear HB; have HO158 := n0_; have HO161 := n1_; have HO165 := n2_; have HO168 := n3_; have HO173 := n4_; have BK162 := n5_; have HB := n6_; clear n0_ n1_ n2_ n3_ n4_ n5_ n6_; clear hb ho28; obtain ⟨Ao29, co29, eo29⟩ := Kd.R_slice HO173.out; subst eo29) | ((with_reducible refine gate_callee (f := 14) rfl ?_); refine goesL_ (some 22) rfl rfl Try.func14 (by kernel_rfl) rfl #[.int .i64 10, .slice Ao29 y171.length co29] rfl au_ ?_; (with_reducible refine (quota_Share.calls 10 _ _ y171 t174 t175 _ ?side1 ?side2 A2.out).mono ?_); (case side1 => repeat (first | exact (Kd.R_reads' HO173.out).2.2 | (with_reducible refine Kd.C_alloc ?_ _) | (with_reducible refine Kd.C_drewN ?_ _) | (with_reducible refine Kd.C_drew ?_))); (case side2 => exact (Kd.R_reads' HO173.out).2.1); rintro e w30 ⟨v176, rfl, ho0, hb⟩; refine ⟨_, rfl, ?_⟩; have n0_ := am_ (Kd.S_below (pS_ HO158.out) hb); have n1_ := am_ (Kd.R_below (pR_ HO161.out) hb); have n2_ := am_ (Kd.R_below (pR_ HO165.out) hb); have n3_ := am_ (Kd.R_elder' (pR_ HO168.out) (Kd.R_base ho0) hb); have n4_ := am_ (Kd.R_elder' (pR_ HO173.out) (Kd.R_base ho0) hb); have n5_ := am_ (Kd.R_lower (Kd.R_new' (Kd.R_new' ho0 (Kd.R_lt (pR_ HO168.out))) (Kd.R_lt (pR_ HO173.out))) (bz_ (pb1_ HB.out GE162.out))); have n6_ := am_ (bw_ (g := gb162) (o := .cells #[.int .i64 0, .int .i64 0, .int .i64 0, .slice Ao17 y156.length co17, .slice none 0 0, .slice none 0 0, .slice none 0 0, .slice none 0 0, .slice none 0 0, .slice Ao16 y159.length co16, .slice none 0 0] 31 (0, 0)) (pk_ BK162.out) hb); have n7_ := am_ (sp_ (pb1_ HB.out GE162.out) hb); clear HO158; clear HO161; clear HO165; clear HO168; clear HO173; clear BK162; clear HB; have HO158 := n0_; have HO161 := n1_; have HO165 := n2_; have HO168 := n3_; have HO173 := n4_; have HO177 := n5_; have BK162 := n6_; have HB := n7_; clear n0_ n1_ n2_ n3_ n4_ n5_ n6_ n7_; (try clear hb); (try clear hb2); (try clear hk); (try clear hi); (try clear ho0); have hcz31_0 : w30.cell? ⟨gb162, 0, none⟩ = some (.int .i64 0) := (bc_ BK162.out 0).trans rfl; have hcz31_1 : w30.cell? ⟨gb162, 1, none⟩ = some (.int .i64 0) := (bc_ BK162.out 1).trans rfl; have hcz31_2 : w30.cell? ⟨gb162, 2, none⟩ = some (.int .i64 0) := (bc_ BK162.out 2).trans rfl; have hcz31_3 : w30.cell? ⟨gb162, 3, none⟩ = some (.slice Ao17 y156.length co17) := (bc_ BK162.out 3).trans rfl; have hcz31_4 : w30.cell? ⟨gb162, 4, none⟩ = some (.slice none 0 0) := (bc_ BK162.out 4).trans rfl; have hcz31_5 : w30.cell? ⟨gb162, 5, none⟩ = some (.slice none 0 0) := (bc_ BK162.out 5).trans rfl; have hcz31_6 : w30.cell? ⟨gb162, 6, none⟩ = some (.slice none 0 0) := (bc_ BK162.out 6).trans rfl; have hcz31_7 : w30.cell? ⟨gb162, 7, none⟩ = some (.slice none 0 0) := (bc_ BK162.out 7).trans rfl; have hcz31_8 : w30.cell? ⟨gb162, 8, none⟩ = some (.slice none 0 0) := (bc_ BK162.out 8).trans rfl; have hcz31_9 : w30.cell? ⟨gb162, 9, none⟩ = some (.slice Ao16 y159.length co16) := (bc_ BK162.out 9).trans rfl; have hcz31_10 : w30.cell? ⟨gb162, 10, none⟩ = some (.slice none 0 0) := (bc_ BK162.out 10).trans rfl; have hfz31_0 := bf_ BK162.out 0; have hfz31_1 := bf_ BK162.out 1; have hfz31_2 := bf_ BK162.out 2; have hfz31_3 := bf_ BK162.out 3; have hfz31_4 := bf_ BK162.out 4; have hfz31_5 := bf_ BK162.out 5; have hfz31_6 := bf_ BK162.out 6; have hfz31_7 := bf_ BK162.out 7; have hfz31_8 := bf_ BK162.out 8; have hfz31_9 := bf_ BK162.out 9; have hfz31_10 := bf_ BK162.out 10) | ((with_reducible refine gate_callee (f := 17) rfl ?_); refine goesL_ (some 28) rfl rfl Try.func17 (by kernel_rfl) rfl #[.slice Ao16 y159.length co16, .string (⟨#[97, 110, 110]⟩ : ByteArray)] rfl au_ ?_; (with_reducible refine (quota_Limit.calls _ _ y159 (⟨#[97, 110, 110]⟩ : ByteArray) t178 t179 _ ?side1 ?side2 A3.out).mono ?_); (case side1 => repeat (first | exact (Kd.R_reads' HO161.out).2.2 | (with_reducible refine Kd.C_alloc ?_ _) | (with_reducible refine Kd.C_drewN ?_ _) | (with_reducible refine Kd.C_drew ?_))); (case side2 => exact (Kd.R_reads' HO161.out).2.1); rintro e w32 ⟨rfl, hb⟩; refine ⟨_, rfl, ?_⟩; have n0_ := am_ (Kd.S_below (pS_ HO158.out) hb); have n1_ := am_ (Kd.R_below (pR_ HO161.out) hb); have n2_ := am_ (Kd.R_below (pR_ HO165.out) hb); have n3_ := am_ (Kd.R_below (pR_ HO168.out) hb); have n4_ := am_ (Kd.R_below (pR_ HO173.out) hb); have n5_ := am_ (Kd.R_below (pR_ HO177.out) hb); have n6_ := am_ (bw_ (g := gb162) (o := .cells #[.int .i64 0, .int .i64 0, .int .i64 0, .slice Ao17 y156.length co17, .slice none 0 0, .slice none 0 0, .slice none 0 0, .slice none 0 0, .slice none 0 0, .slice Ao16 y159.length co16, .slice none 0 0] 31 (0, 0)) (pk_ BK162.out) hb); have n7_ := am_ (sp_ (pb1_ HB.out GE162.out) hb); clear HO158; clear HO161; clear HO165; clear HO168; clear HO173; clear HO177; clear BK162; clear HB; have HO158 := n0_; have HO161 := n1_; have HO165 := n2_; have HO168 := n3_; have HO173 := n4_; have HO177 := n5_; have BK162 := n6_; have HB := n7_; clear n0_ n1_ n2_ n3_ n4_ n5_ n6_ n7_; (try clear hb); (try clear hb2); (try clear hk); (try clear hi); have hcz33_0 : w32.cell? ⟨gb162, 0, none⟩ = some (.int .i64 0) := (bc_ BK162.out 0).trans rfl; have hcz33_1 : w32.cell? ⟨gb162, 1, none⟩ = some (.int .i64 0) := (bc_ BK162.out 1).trans rfl; have hcz33_2 : w32.cell? ⟨gb162, 2, none⟩ = some (.int .i64 0) := (bc_ BK162.out 2).trans rfl; have hcz33_3 : w32.cell? ⟨gb162, 3, none⟩ = some (.slice Ao17 y156.length co17) := (bc_ BK162.out 3).trans rfl; have hcz33_4 : w32.cell? ⟨gb162, 4, none⟩ = some (.slice none 0 0) := (bc_ BK162.out 4).trans rfl; have hcz33_5 : w32.cell? ⟨gb162, 5, none⟩ = some (.slice none 0 0) := (bc_ BK162.out 5).trans rfl; have hcz33_6 : w32.cell? ⟨gb162, 6, none⟩ = some (.slice none 0 0) := (bc_ BK162.out 6).trans rfl; have hcz33_7 : w32.cell? ⟨gb162, 7, none⟩ = some (.slice none 0 0) := (bc_ BK162.out 7).trans rfl; have hcz33_8 : w32.cell? ⟨gb162, 8, none⟩ = some (.slice none 0 0) := (bc_ BK162.out 8).trans rfl; have hcz33_9 : w32.cell? ⟨gb162, 9, none⟩ = some (.slice Ao16 y159.length co16) := (bc_ BK162.out 9).trans rfl; have hcz33_10 : w32.cell? ⟨gb162, 10, none⟩ = some (.slice none 0 0) := (bc_ BK162.out 10).trans rfl; have hfz33_0 := bf_ BK162.out 0; have hfz33_1 := bf_ BK162.out 1; have hfz33_2 := bf_ BK162.out 2; have hfz33_3 := bf_ BK162.out 3; have hfz33_4 := bf_ BK162.out 4; have hfz33_5 := bf_ BK162.out 5; have hfz33_6 := bf_ BK162.out 6; have hfz33_7 := bf_ BK162.out 7; have hfz33_8 := bf_ BK162.out 8; have hfz33_9 := bf_ BK162.out 9; have hfz33_10 := bf_ BK162.out 10) | ((with_reducible refine gate_callee (f := 19) rfl ?_); refine goesL_ (some 33) rfl rfl Try.func19 (by kernel_rfl) rfl #[.slice Ao17 y156.length co17, .string (⟨#[97, 110, 110]⟩ : ByteArray)] rfl au_ ?_; (with_reducible refine (quota_Used.calls _ _ y156 (⟨#[97, 110, 110]⟩ : ByteArray) t180 _ ?side1 ?side2 A4.out).mono ?_); (case side1 => repeat (first | exact (Kd.S_reads' HO158.out).2.2 | (with_reducible refine Kd.C_alloc ?_ _) | (with_reducible refine Kd.C_drewN ?_ _) | (with_reducible refine Kd.C_drew ?_))); (case side2 => exact (Kd.S_reads' HO158.out).2.1); rintro e w34 ⟨rfl, hb⟩; refine ⟨_, rfl, ?_⟩; have n0_ := am_ (Kd.S_below (pS_ HO158.out) hb); have n1_ := am_ (Kd.R_below (pR_ HO161.out) hb); have n2_ := am_ (Kd.R_below (pR_ HO165.out) hb); have n3_ := am_ (Kd.R_below (pR_ HO168.out) hb); have n4_ := am_ (Kd.R_below (pR_ HO173.out) hb); have n5_ := am_ (Kd.R_below (pR_ HO177.out) hb); have n6_ := am_ (bw_ (g := gb162) (o := .cells #[.int .i64 0, .int .i64 0, .int .i64 0, .slice Ao17 y156.length co17, .slice none 0 0, .slice none 0 0, .slice none 0 0, .slice none 0 0, .slice none 0 0, .slice Ao16 y159.length co16, .slice none 0 0] 31 (0, 0)) (pk_ BK162.out) hb); have n7_ := am_ (sp_ (pb1_ HB.out GE162.out) hb); clear HO158; clear HO161; clear HO165; clear HO168; clear HO173; clear HO177; clear BK162; clear HB; have HO158 := n0_; have HO161 := n1_; have HO165 := n2_; have HO168 := n3_; have HO173 := n4_; have HO177 := n5_; have BK162 := n6_; have HB := n7_; clear n0_ n1_ n2_ n3_ n4_ n5_ n6_ n7_; (try clear hb); (try clear hb2); (try clear hk); (try clear hi)) | ((with_reducible refine gate_dst (N := 49) rfl ?_); (try (refine gate_guard (by rfl) ?_; dsimp only)); refine Kd.R_lit (Kd.int .i64) _ 3 ?hg (N := 49) ?hd (xs := ([4, 3, 3] : List Int)) (inner := [.int .i64 4, .int .i64 3, .int .i64 3]) (ok := fun _ => True) (okp := fun _ => True) ?hr ?hp (fun _ hk => hk) trivial (Below.refl _ _) (Nat.le_refl _) (by simp) ?_; (case hd => rfl); (case hg => rfl); (case hr => first | (go_simp; done) | (go_simp; rfl)); (case hp => exact (Reps.one (show Kd.M (Kd.int .i64) _ _ _ 4 [.int .i64 4] from rfl) (Reps.one (show Kd.M (Kd.int .i64) _ _ _ 3 [.int .i64 3] from rfl) (Reps.one (show Kd.M (Kd.int .i64) _ _ _ 3 [.int .i64 3] from rfl) (Reps.none _ _))))); intro v182 w35 ho36 hb hg_ hnew_; clear hg_ hnew_; (first | rw [← Ny181.out] at ho36 | (simp only [Int.reduceToNat] at ho36; rw [← Ny181.out] at ho36)); have n0_ := am_ (Kd.S_below (pS_ HO158.out) hb); have n1_ := am_ (Kd.R_below (pR_ HO161.out) hb); have n2_ := am_ (Kd.R_below (pR_ HO165.out) hb); have n3_ := am_ (Kd.R_elder' (pR_ HO168.out) (Kd.R_base ho36) hb); have n4_ := am_ (Kd.R_elder' (pR_ HO173.out) (Kd.R_base ho36) hb); have n5_ := am_ (Kd.R_elder' (pR_ HO177.out) (Kd.R_base ho36) hb); have n6_ := am_ (Kd.R_lower (Kd.R_new' (Kd.R_new' (Kd.R_new' ho36 (Kd.R_lt (pR_ HO168.out))) (Kd.R_lt (pR_ HO173.out))) (Kd.R_lt (pR_ HO177.out))) (bz_ (pb1_ HB.out GE162.out))); have n7_ := am_ (bw_ (g := gb162) (o := .cells #[.int .i64 0, .int .i64 0, .int .i64 0, .slice Ao17 y156.length co17, .slice none 0 0, .slice none 0 0, .slice none 0 0, .slice none 0 0, .slice none 0 0, .slice Ao16 y159.length co16, .slice none 0 0] 31 (0, 0)) (pk_ BK162.out) hb); have n8_ := am_ (sp_ (pb1_ HB.out GE162.out) hb); clear HO158; clear HO161; clear HO165; clear HO168; clear HO173; clear HO177; clear BK162; clear HB; have HO158 := n0_; have HO161 := n1_; have HO165 := n2_; have HO168 := n3_; have HO173 := n4_; have HO177 := n5_; have HO183 := n6_; have BK162 := n7_; have HB := n8_; clear n0_ n1_ n2_ n3_ n4_ n5_ n6_ n7_ n8_; clear hb ho36; obtain ⟨Ao37, co37, eo37⟩ := Kd.R_slice HO177.out; subst eo37; obtain ⟨Ao38, co38, eo38⟩ := Kd.R_slice HO183.out; subst eo38) | (go_at_call 16; (with_reducible refine (tapearchivelaw32_same.calls k _ _ t174 _ _ y181 true _ ?side1 ?side2 ?side3 ?side4 A9.out).mono ?_); (case side1 => repeat (first | exact (Kd.R_reads' HO177.out).2.2 | (with_reducible refine Kd.C_alloc ?_ _) | (with_reducible refine Kd.C_drewN ?_ _) | (with_reducible refine Kd.C_drew ?_))); (case side2 => exact (Kd.R_reads' HO177.out).2.1); (case side3 => repeat (first | exact (Kd.R_reads' HO183.out).2.2 | (with_reducible refine Kd.C_alloc ?_ _) | (with_reducible refine Kd.C_drewN ?_ _) | (with_reducible refine Kd.C_drew ?_))); (case side4 => exact (Kd.R_reads' HO183.out).2.1); rintro e w' ⟨rfl, ⟨nd, rfl⟩⟩))
       go_ret; exact ⟨by first | rfl | (simp [errW_none, errW_some] <;> rfl) | (simp [*, errW_none, errW_some] <;> rfl), pb1_ HB.out GE162.out⟩
      ·
       rw [if_neg c11] at H; have c11b0 : (t178 == 100) = false := beq_eq_false_iff_ne.mpr c11; have c11b1 : (t178 != 100) = true := bne_iff_ne.mpr c11; exact absurd ((si_ H).trans HRT.out) Bool.false_ne_true
     ·
      replace c10 := Bool.eq_false_iff.mpr c10; subst c10; have H1 : (some false) = some r := by rw [if_neg (show ¬ (false = true) by decide)] at H; exact H
      clear H; have H := H1; clear H1; exact absurd ((si_ H).trans HRT.out) Bool.false_ne_true
    ·
     rw [if_neg c8] at H; have c8b0 : (t175 == 0) = false := beq_eq_false_iff_ne.mpr c8; have c8b1 : (t175 != 0) = true := bne_iff_ne.mpr c8; exact absurd ((si_ H).trans HRT.out) Bool.false_ne_true
   ·
    rw [if_neg c7] at H; have c7b0 : (t170 == 20) = false := beq_eq_false_iff_ne.mpr c7; have c7b1 : (t170 != 20) = true := bne_iff_ne.mpr c7; exact absurd ((si_ H).trans HRT.out) Bool.false_ne_true
  ·
   rw [if_neg c6] at H; have c6b0 : (t169 == 1) = false := beq_eq_false_iff_ne.mpr c6; have c6b1 : (t169 != 1) = true := bne_iff_ne.mpr c6; exact absurd ((si_ H).trans HRT.out) Bool.false_ne_true
 ·
  rw [if_neg c5] at H; have c5b0 : (t180 == 60) = false := beq_eq_false_iff_ne.mpr c5; have c5b1 : (t180 != 60) = true := bne_iff_ne.mpr c5; exact absurd ((si_ H).trans HRT.out) Bool.false_ne_true
end Go.Proofs.Ytbadelcnaeijkaa.Q
end
section
namespace Go.Proofs.Ytbadelcnaeijkaa.Q
open Go.RowKit Go.Proofs.YtbadelcnaeijkaaW.PrintWords Go.Proofs.YtbadelcnaeijkaaW.PrintLast Go.Proofs.YtbadelcnaeijkaaW.PrintMore
attribute [local go_sem] max2_int min2_int max_two min_two max_three min_three max_four min_four
attribute [local go_sem ↓] isSome_setCell
attribute [local go_sem] string_gtr
set_option linter.unusedVariables false
set_option linter.unusedSimpArgs false
def ltB (x y : ByteArray) : Prop := x.data.toList < y.data.toList
instance (x y : ByteArray) : Decidable (ltB x y) := inferInstanceAs (Decidable (x.data.toList < y.data.toList))
theorem ba_ext {x y : ByteArray} (h : x.data.toList = y.data.toList) : x = y := ByteArray.ext (Array.toList_inj.1 h)
theorem ltB_irrefl (x : ByteArray) : ¬ ltB x x := List.lt_irrefl _
theorem ltB_trans {x y z : ByteArray} (h : ltB x y) (k : ltB y z) : ltB x z := List.lt_trans h k
theorem ltB_total {x y : ByteArray} (h : x ≠ y) (k : ¬ ltB x y) : ltB y x := by
  by_cases c : ltB y x
  · exact c
  · exact absurd (ba_ext (List.le_antisymm c k)) h
def insB (s : ByteArray) : List ByteArray → List ByteArray
  | [] => [s]
  | x :: xs => if ltB x s then x :: insB s xs else if x = s then x :: xs else s :: x :: xs
theorem mem_insB (s y : ByteArray) : ∀ l, y ∈ insB s l ↔ y = s ∨ y ∈ l
  | [] => by simp [insB]
  | x :: xs => by
    unfold insB
    by_cases c : ltB x s
    · rw [if_pos c, List.mem_cons, mem_insB s y xs, List.mem_cons]
      constructor
      · rintro (h | h | h)
        · exact .inr (.inl h)
        · exact .inl h
        · exact .inr (.inr h)
      · rintro (h | h | h)
        · exact .inr (.inl h)
        · exact .inl h
        · exact .inr (.inr h)
    · rw [if_neg c]
      by_cases e : x = s
      · rw [if_pos e]
        subst e
        exact ⟨.inr, fun h => h.elim (fun h => h ▸ List.mem_cons_self) id⟩
      · rw [if_neg e, List.mem_cons]
theorem sorted_insB (s : ByteArray) : ∀ l, List.Pairwise ltB l → List.Pairwise ltB (insB s l)
  | [], _ => by simp [insB]
  | x :: xs, h => by
    unfold insB
    obtain ⟨h1, h2⟩ := List.pairwise_cons.1 h
    by_cases c : ltB x s
    · rw [if_pos c]
      refine List.pairwise_cons.2 ⟨fun y hy => ?_, sorted_insB s xs h2⟩
      rcases (mem_insB s y xs).1 hy with rfl | hy
      · exact c
      · exact h1 y hy
    · rw [if_neg c]
      by_cases e : x = s
      · rw [if_pos e]; exact h
      · rw [if_neg e]
        have k := ltB_total e c
        refine List.pairwise_cons.2 ⟨fun y hy => ?_, h⟩
        rcases List.mem_cons.1 hy with rfl | hy
        · exact k
        · exact ltB_trans k (h1 y hy)
theorem sorted_uniq : ∀ (l m : List ByteArray), List.Pairwise ltB l → List.Pairwise ltB m → (∀ y, y ∈ l ↔ y ∈ m) → l = m
  | [], [], _, _, _ => rfl
  | [], y :: _, _, _, h => by have := (h y).2 List.mem_cons_self; cases this
  | x :: _, [], _, _, h => by have := (h x).1 List.mem_cons_self; cases this
  | x :: xs, y :: ys, hx, hy, h => by
    obtain ⟨x1, x2⟩ := List.pairwise_cons.1 hx
    obtain ⟨y1, y2⟩ := List.pairwise_cons.1 hy
    have e : x = y := by
      rcases List.mem_cons.1 ((h x).1 List.mem_cons_self) with e | e
      · exact e
      · rcases List.mem_cons.1 ((h y).2 List.mem_cons_self) with e2 | e2
        · exact e2.symm
        · exact absurd (ltB_trans (x1 y e2) (y1 x e)) (ltB_irrefl x)
    subst e
    rw [sorted_uniq xs ys x2 y2 (fun z => ⟨fun hz => ?_, fun hz => ?_⟩)]
    · rcases List.mem_cons.1 ((h z).1 (List.mem_cons_of_mem _ hz)) with e | e
      · subst e; exact absurd (x1 z hz) (ltB_irrefl z)
      · exact e
    · rcases List.mem_cons.1 ((h z).2 (List.mem_cons_of_mem _ hz)) with e | e
      · subst e; exact absurd (y1 z hz) (ltB_irrefl z)
      · exact e
def exO (l3 : List S66) (l9 : List S55) (s : ByteArray) : Bool := exc l9 s (used s l3)
def overStep (l3 : List S66) (l9 : List S55) (out : List ByteArray) (x : S55) : List ByteArray := if exO l3 l9 x.f0 = true then insB x.f0 out else out
def overS (l3 : List S66) (l9 : List S55) : List ByteArray := l9.foldl (overStep l3 l9) []
theorem over_fold (l3 : List S66) (l9 : List S55) : ∀ (l : List S55) (out : List ByteArray), List.Pairwise ltB out → List.Pairwise ltB (l.foldl (overStep l3 l9) out) ∧ ∀ s, s ∈ l.foldl (overStep l3 l9) out ↔ s ∈ out ∨ (exO l3 l9 s = true ∧ ∃ x ∈ l, x.f0 = s)
  | [], out, h => ⟨h, fun s => by simp⟩
  | x :: l, out, h => by
    have hstep : List.Pairwise ltB (overStep l3 l9 out x) := by
      unfold overStep
      split
      · exact sorted_insB _ _ h
      · exact h
    obtain ⟨a, b⟩ := over_fold l3 l9 l (overStep l3 l9 out x) hstep
    refine ⟨a, fun s => ?_⟩
    rw [List.foldl_cons, b s]
    unfold overStep
    by_cases c : exO l3 l9 x.f0 = true
    · rw [if_pos c, mem_insB]
      constructor
      · rintro ((h | h) | ⟨h, y, hy, e⟩)
        · exact .inr ⟨h ▸ c, x, List.mem_cons_self, h.symm⟩
        · exact .inl h
        · exact .inr ⟨h, y, List.mem_cons_of_mem _ hy, e⟩
      · rintro (h | ⟨h, y, hy, e⟩)
        · exact .inl (.inr h)
        · rcases List.mem_cons.1 hy with rfl | hy
          · exact .inl (.inl e.symm)
          · exact .inr ⟨h, y, hy, e⟩
    · rw [if_neg c]
      constructor
      · rintro (h | ⟨h, y, hy, e⟩)
        · exact .inl h
        · exact .inr ⟨h, y, List.mem_cons_of_mem _ hy, e⟩
      · rintro (h | ⟨h, y, hy, e⟩)
        · exact .inl h
        · rcases List.mem_cons.1 hy with rfl | hy
          · exact absurd (e ▸ h) c
          · exact .inr ⟨h, y, hy, e⟩
theorem lim_mem (s : ByteArray) : ∀ l : List S55, (lim s l).2 = true → ∃ x ∈ l, x.f0 = s
  | [], h => by simp [lim] at h
  | x :: l, h => by
    unfold lim at h
    by_cases c : x.f0 = s
    · exact ⟨x, List.mem_cons_self, c⟩
    · rw [if_neg c] at h
      obtain ⟨y, hy, e⟩ := lim_mem s l h
      exact ⟨y, List.mem_cons_of_mem _ hy, e⟩
theorem overS_sorted (l3 : List S66) (l9 : List S55) : List.Pairwise ltB (overS l3 l9) := (over_fold l3 l9 l9 [] List.Pairwise.nil).1
theorem mem_overS (l3 : List S66) (l9 : List S55) (s : ByteArray) : s ∈ overS l3 l9 ↔ exO l3 l9 s = true := by
  rw [overS, (over_fold l3 l9 l9 [] List.Pairwise.nil).2 s]
  refine ⟨fun h => h.elim (fun h => by cases h) (fun h => h.1), fun h => .inr ⟨h, lim_mem s l9 ?_⟩⟩
  unfold exO exc at h
  simp at h
  exact h.1
def kb (ss : List (List UInt8)) : List ByteArray := (ss.mergeSort (fun x y => decide (x ≤ y))).map fun x => (⟨x.toArray⟩ : ByteArray)
theorem kb_sorted {ss : List (List UInt8)} (h : ss.Nodup) : List.Pairwise ltB (kb ss) := by
  have hp : (ss.mergeSort (fun x y => decide (x ≤ y))).Perm ss := List.mergeSort_perm _ _
  have h1 : List.Pairwise (fun a b : List UInt8 => decide (a ≤ b) = true) (ss.mergeSort (fun x y => decide (x ≤ y))) :=
    List.pairwise_mergeSort (le := fun x y : List UInt8 => decide (x ≤ y)) (fun a b c h1 h2 => decide_eq_true (List.le_trans (of_decide_eq_true h1) (of_decide_eq_true h2))) (fun a b => by
      rcases List.le_total a b with h | h
      · simp [h]
      · simp [h]) ss
  have h2 : (ss.mergeSort (fun x y => decide (x ≤ y))).Nodup := hp.nodup_iff.2 h
  refine List.pairwise_map.2 ((h1.and h2).imp ?_)
  rintro a b ⟨h3, h4⟩
  show a < b
  have h5 : a ≤ b := of_decide_eq_true h3
  by_cases c : a < b
  · exact c
  · exact absurd (List.le_antisymm h5 c) h4
theorem mem_kb {ss : List (List UInt8)} (s : ByteArray) : s ∈ kb ss ↔ s.data.toList ∈ ss := by
  have hp : (ss.mergeSort (fun x y => decide (x ≤ y))).Perm ss := List.mergeSort_perm _ _
  rw [kb, List.mem_map]
  constructor
  · rintro ⟨x, hx, rfl⟩
    exact hp.mem_iff.1 hx
  · intro h
    exact ⟨s.data.toList, hp.mem_iff.2 h, ba_ext rfl⟩
theorem over_filter (l3 : List S66) (l9 : List S55) {ss : List (List UInt8)} (hnd : ss.Nodup) (hm : ∀ s : ByteArray, (∃ x ∈ l9, x.f0 = s) → s.data.toList ∈ ss) : (kb ss).filter (exO l3 l9) = overS l3 l9 := by
  refine sorted_uniq _ _ ((kb_sorted hnd).filter _) (overS_sorted l3 l9) (fun y => ?_)
  rw [List.mem_filter, mem_overS, mem_kb]
  refine ⟨fun h => h.2, fun h => ⟨hm y (lim_mem y l9 ?_), h⟩⟩
  unfold exO exc at h
  simp at h
  exact h.1
end Go.Proofs.Ytbadelcnaeijkaa.Q
end
section
namespace Go.Proofs.Ytbadelcnaeijkaa.Q
open Go.RowKit Go.Proofs.YtbadelcnaeijkaaW.PrintWords Go.Proofs.YtbadelcnaeijkaaW.PrintLast Go.Proofs.YtbadelcnaeijkaaW.PrintMore
attribute [local go_sem] max2_int min2_int max_two min_two max_three min_three max_four min_four
attribute [local go_sem ↓] isSome_setCell
attribute [local go_sem] string_gtr
set_option linter.unusedVariables false
set_option linter.unusedSimpArgs false
theorem MapIs.keys {w : World} {b n : Nat} {g : ByteArray → Int} {hs : ByteArray → Bool} (h : MapIs w b n g hs) : ∃ D0 : DataW Unit, w.ownsMap Try.prog 9 (plainElem Try.prog 3) b n D0 ∧ Maps.size D0 ≤ n ∧
    ∀ ss : List (List UInt8), ss.Perm (strKeys D0) → ss.Nodup ∧ ss.length ≤ n ∧ ∀ s : ByteArray, s.data.toList ∈ ss ↔ hs s = true := by
  obtain ⟨D, h1, h2, h3, h4⟩ := h
  have hsz : Maps.size D ≤ n := h1.size_le
  refine ⟨D, h1, hsz, fun ss hp => ?_⟩
  obtain ⟨es, hD, hpw, _⟩ := h1.entries keyed9
  obtain ⟨es', hD', hko⟩ := h1.keysOf
  obtain rfl : es = es' := by rw [hD] at hD'; simpa using hD'
  subst hD
  have hk : ∀ p ∈ es, ∃ x, p.1 = Lit.string x := fun p hp => by
    obtain ⟨v, hv⟩ := hko p hp
    obtain ⟨x, _, hx, _⟩ := Maps.keyOf_str Try.underlying9 hv
    exact ⟨x, hx⟩
  have hnd : (strKeys (DataW.map es)).Nodup := by
    show (es.map fun p => strOf p.1).Nodup
    refine List.pairwise_map.2 (hpw.imp_of_mem fun {p q} hp' hq' hne e => hne ?_)
    obtain ⟨a, ha⟩ := hk p hp'
    obtain ⟨b, hb⟩ := hk q hq'
    rw [ha, hb] at e ⊢
    exact congrArg _ e
  refine ⟨hp.nodup_iff.2 hnd, ?_, fun s => ?_⟩
  · rw [hp.length_eq]
    show (es.map _).length ≤ n
    rw [List.length_map]
    exact hsz
  · rw [hp.mem_iff, ← h4 s, Maps.has_eq, List.any_eq_true]
    show s.data.toList ∈ es.map (fun p => strOf p.1) ↔ _
    rw [List.mem_map]
    constructor
    · rintro ⟨p, hp', e⟩
      obtain ⟨a, ha⟩ := hk p hp'
      rw [ha] at e
      exact ⟨p, hp', by rw [ha, ← e]; simp [Lit.sameKey, strOf]⟩
    · rintro ⟨p, hp', hs⟩
      obtain ⟨a, ha⟩ := hk p hp'
      rw [ha] at hs
      exact ⟨p, hp', by rw [ha]; simpa [Lit.sameKey, strOf] using hs⟩
def KeysOk : Prop := ∀ (mb : Option Nat) (W : World), Calls Try.prog 42 #[.map mb] W fun e w' => e = .returned (.func (.func 49) #[] #[.pointer (some ⟨W.heap.size, 0, none⟩)]) ∧ w' = W.alloc (.cells #[.map mb] 59 (0, 0))
def SortedOk : Prop := ∀ (b nn : Nat) (D0 : DataW Unit) (w : World), w.ownsMap Try.prog 9 (plainElem Try.prog 3) b nn D0 → Maps.size D0 ≤ 1000000 →
    Calls Try.prog 41 #[.func (.func 49) #[] #[.pointer (some ⟨w.heap.size, 0, none⟩)]] (w.alloc (.cells #[.map (some b)] 59 (0, 0))) fun e w' => ∃ (v : Value) (ss : List (List UInt8)), e = .returned v ∧ ss.Perm (strKeys D0) ∧
      w'.ownsRow (w.alloc (.cells #[.map (some b)] 59 (0, 0))).heap.size 9 1 v ss.length ((ss.mergeSort (fun x y => decide (x ≤ y))).map encStr) ∧ Below (w.alloc (.cells #[.map (some b)] 59 (0, 0))).heap.size (w.alloc (.cells #[.map (some b)] 59 (0, 0))) w'
theorem kb_length (ss : List (List UInt8)) : (kb ss).length = ss.length := by
  rw [kb, List.length_map, List.length_mergeSort]
theorem kb_encs (ss : List (List UInt8)) : (ss.mergeSort (fun x y => decide (x ≤ y))).map encStr = encs Value.string (kb ss) := by
  show _ = (kb ss).map Value.string
  rw [kb, List.map_map]
  rfl
theorem keys_call (hK : SortedOk) {W : World} {mb n : Nat} {g : ByteArray → Int} {hs : ByteArray → Bool} (h : MapIs W mb n g hs) (hn : n ≤ 1000000) :
    Calls Try.prog 41 #[.func (.func 49) #[] #[.pointer (some ⟨W.heap.size, 0, none⟩)]] (W.alloc (.cells #[.map (some mb)] 59 (0, 0))) fun e w' => ∃ (A : Option Addr) (c : Nat) (ss : List (List UInt8)), e = .returned (.slice A (kb ss).length c) ∧ (ss.Nodup ∧ ss.length ≤ n ∧ ∀ s : ByteArray, s.data.toList ∈ ss ↔ hs s = true) ∧
      Kd.C Kd.string w' A (kb ss).length (kb ss) ∧ Below W.heap.size W w' := by
  obtain ⟨D0, h1, h2, h3⟩ := h.keys
  refine (hK mb n D0 W h1 (by omega)).mono ?_
  rintro e w' ⟨v, ss, rfl, hp, hrow, hb⟩
  rw [kb_encs, ← kb_length ss] at hrow
  have hR := Kd.R_of_own (h1 := fun _ => rfl) (ok := fun _ => True) hrow (fun _ _ => trivial)
  obtain ⟨A, c, rfl⟩ := Kd.R_slice hR
  refine ⟨A, c, ss, rfl, h3 ss hp, (Kd.R_reads' hR).2.2, ?_⟩
  have hz : (W.alloc (.cells #[.map (some mb)] 59 (0, 0))).heap.size = W.heap.size + 1 := by
    show (W.heap.push _).size = _
    rw [Array.size_push]
  exact ((Below.refl _ W).alloc (Nat.le_refl _) _).trans (hb.mono (by omega))
end Go.Proofs.Ytbadelcnaeijkaa.Q
end
section
namespace Go.Proofs.Ytbadelcnaeijkaa.Q
open Go.RowKit Go.Proofs.YtbadelcnaeijkaaW.PrintWords Go.Proofs.YtbadelcnaeijkaaW.PrintLast Go.Proofs.YtbadelcnaeijkaaW.PrintMore
attribute [local go_sem] max2_int min2_int max_two min_two max_three min_three max_four min_four
attribute [local go_sem ↓] isSome_setCell
attribute [local go_sem] string_gtr
set_option linter.unusedVariables false
set_option linter.unusedSimpArgs false
theorem size_setCell'2 (W : World) (p : Addr) (v : Value) : (W.setCell p v).heap.size = W.heap.size := by
  show (W.heap.modify _ _).size = _
  rw [Array.size_modify]
def overOk (l3 : List S66) (l9 : List S55) : Prop := usedOk l3 ∧ l9.length ≤ 1000 ∧ ∀ x ∈ l9, x.f0.size ≤ 140737488351232
set_option maxHeartbeats 16000000 in
set_option maxRecDepth 100000 in
theorem over_walk (hKeys : KeysOk) (hSorted : SortedOk) (a0 a1 a2 : Int) (A3 : Option Addr) (c3 : Nat) (l3 : List S66) (A4 : Option Addr) (c4 : Nat) (l4 : List S133) (A5 : Option Addr) (c5 : Nat) (l5 : List S135) (A6 : Option Addr) (c6 : Nat) (l6 : List S137) (A7 : Option Addr) (c7 : Nat) (l7 : List S139) (A8 : Option Addr) (c8 : Nat) (l8 : List S141) (A9 : Option Addr) (c9 : Nat) (l9 : List S55) (A10 : Option Addr) (c10 : Nat) (l10 : List S143) (w : World) (hr3 : Kd.C k66 w A3 l3.length l3) (hr9 : Kd.C k55 w A9 l9.length l9) (hc9 : l9.length ≤ c9) (hok : overOk l3 l9) :
    Calls Try.prog 22 #[.agg #[.int .i64 a0, .int .i64 a1, .int .i64 a2, .slice A3 l3.length c3, .slice A4 l4.length c4, .slice A5 l5.length c5, .slice A6 l6.length c6, .slice A7 l7.length c7, .slice A8 l8.length c8, .slice A9 l9.length c9, .slice A10 l10.length c10]] w fun e w' => ∃ v, e = .returned v ∧ Kd.R Kd.string 9 w' w.heap.size (fun _ => True) v (overS l3 l9) ∧ Below w.heap.size w w' := by
  obtain ⟨hu, hl9, hz9⟩ := hok
  have HR3 := Aside0.mk hr3
  have HR9 := Aside0.mk hr9
  have HC9 := Aside0.mk hc9
  have HU := Aside0.mk hu
  have HZ9 := Aside0.mk hz9
  have HKEYS := Aside0.mk hKeys
  have HSORT := Aside0.mk hSorted
  have HL9 := Aside0.mk hl9
  have HL91 := Aside0.mk (show l9.length ≤ 1000000000 by omega)
  have HL3 := Aside0.mk hu.1
  clear hc9 hr3 hr9 hu hz9 hKeys hSorted
  go_enter Try.func22, Try.ntmps22
  go_wp2_with (first | ((with_reducible refine gate_dst (N := 1) rfl ?_); refine box_event ?hg (N := 1) ?hd (cs := #[.int .i64 a0, .int .i64 a1, .int .i64 a2, .slice A3 l3.length c3, .slice A4 l4.length c4, .slice A5 l5.length c5, .slice A6 l6.length c6, .slice A7 l7.length c7, .slice A8 l8.length c8, .slice A9 l9.length c9, .slice A10 l10.length c10]) (t := 31) ?hr ?_; (case hd => rfl); (case hg => rfl); (case hr => first | (go_simp; done) | (go_simp; rfl)); intro gb hg w1 hbox hb; have BK := Aside0.mk hbox; have HB := Aside0.mk hb; have GL := Aside0.mk (World.block_lt_of_cell? w1 ⟨gb, 3, none⟩ ((blk_cell hbox 3).trans rfl)); have hcz_3 : w1.cell? ⟨gb, 3, none⟩ = some (.slice A3 l3.length c3) := (blk_cell hbox 3).trans rfl; clear hb hbox hg) | (go_at_call 29; refine (totals_fn A3 c3 l3 _ (Kd.C_below HR3.out HB.out) HU.out.1 HU.out.2).mono ?_; rintro e w2 ⟨mb, rfl, hb1, hm, hb2⟩; have HMB := Aside0.mk hb1; have HM := Aside0.mk hm; have HB2 := Aside0.mk hb2; have hcz_9 : w2.cell? ⟨gb, 9, none⟩ = some (.slice A9 l9.length c9) := (blk_cell ((hb2.block gb GL.out).trans BK.out) 9).trans rfl; clear hb1 hm hb2 hcz_3))
  clear hcz_9
  go_loopw [15] (fun vi wq => ∃ i : Nat, vi = .int .i64 i ∧ i ≤ l9.length ∧ Aside0 (MapIs wq mb (l3.length + i) (fun s => used s l3) (fun s => named s l3 || (l9.take i).any fun x => decide (x.f0 = s))) ∧ Aside0 (Below w1.heap.size w1 wq)) (fun vi _ => l9.length - (Proofs.intOf vi).toNat)
  case atStart => exact ⟨0, rfl, by omega, ⟨mapIs_ext HM.out (fun _ => rfl) (fun s => by simp)⟩, HB2⟩
  case round =>
    clear HM HB2
    obtain ⟨i, rfl, hi, HM, HBL⟩ := hrel
    have HBW := Aside0.mk (HB.out.trans (HBL.out.mono HB.out.size))
    by_cases c2 : i < l9.length
    · have c2b0 : decide ((i : Int) < (l9.length : Int)) = true := decide_eq_true (by omega)
      have c2b1 : decide (i < l9.length) = true := decide_eq_true c2
      have p1 : 0 ≤ (i : Int) := by omega
      have q1 : (i : Int) < (l9.length : Int) := by omega
      obtain ⟨ad1, e1, hx0, hx1⟩ := at_T55 (Kd.C_below HR9.out HBW.out) (i : Int) p1 q1
      cases e1
      rw [Int.toNat_natCast] at hx0 hx1
      have hrd : rd_T55 l9 (i : Int) = l9[i]'c2 := by
        unfold rd_T55
        rw [Int.toNat_natCast, List.getD_eq_getElem?_getD, List.getElem?_eq_getElem c2]
        rfl
      rw [hrd] at hx0 hx1
      have HST : Aside0 (∀ s, ((l9.take (i + 1)).any fun x => decide (x.f0 = s)) = (((l9.take i).any fun x => decide (x.f0 = s)) || decide ((l9[i]'c2).f0 = s))) := ⟨fun s => by
        rw [List.take_add_one, List.getElem?_eq_getElem c2, List.any_append]
        simp⟩
      have HZI := Aside0.mk (HZ9.out _ (List.getElem_mem c2))
      have HUB := Aside0.mk (fun s => used_bound s l3)
      clear hrd
      have hw : IntKind.i64.wrap ((i : Int) + 1) = ((i + 1 : Nat) : Int) := by
        rw [i64_w]
        unfold wrap64
        omega
      generalize l9[i]'c2 = x at *
      replace p1 := eq_true p1
      replace q1 := eq_true q1
      have HLT := Aside0.mk (show mb + 1 ≤ wr.heap.size from HM.out.lt)
      have HLW := Aside0.mk (show w1.heap.size ≤ wr.heap.size from HBL.out.size)
      have HNI := Aside0.mk (show l3.length + i < maxLen by have := HL3.out; unfold maxLen; omega)
      have HWB := Aside0.mk (wrap_lit (used x.f0 l3) (by have := HUB.out x.f0; omega) (by have := HUB.out x.f0; have := HL3.out; omega))
      have HW := Aside0.mk HWB.out.2
      have hws : wrap64 (used x.f0 l3) = used x.f0 l3 := HWB.out.1
      have hws2 : IntKind.i64.wrap (used x.f0 l3) = used x.f0 l3 := by rw [i64_w, hws]
      have hws3 : IntKind.i64.wrap (used x.f0 l3 + 0) = used x.f0 l3 := by rw [Int.add_zero, i64_w, hws]
      have HC2 := Aside0.mk c2
      clear c2
      go_wp2_with (first | ((with_reducible refine gate_dst (N := 5) rfl ?_); (try (refine gate_guard (by rfl) ?_; dsimp only)); refine box_event ?hg (N := 5) ?hd (cs := #[.string ⟨#[]⟩, .int .i64 0]) (t := 55) ?hr ?_; (case hd => rfl); (case hg => rfl); (case hr => first | (go_simp; done) | (go_simp; rfl)); intro gx hg w8 hbox hb; have HB8 := Aside0.mk hb; have BK8 := Aside0.mk hbox; have GE := Aside0.mk (show mb + 1 ≤ gx by rw [hg]; exact HLT.out); have GW := Aside0.mk (show w1.heap.size ≤ gx by rw [hg]; exact HLW.out); clear hb hbox hg; have hcz_0 : w8.cell? ⟨gx, 0, none⟩ = some (.string ⟨#[]⟩) := (blk_cell BK8.out 0).trans rfl; have hfz_0 := blk_frozen BK8.out 0; have hcz_1 : w8.cell? ⟨gx, 1, none⟩ = some (.int .i64 0) := (blk_cell BK8.out 1).trans rfl; have hfz_1 := blk_frozen BK8.out 1) | ((with_reducible refine gate_dst (N := 22) rfl ?_); refine wp_look ?hg (Operand.tmp 19) (Operand.tmp 21) ?hop mb (l3.length + i) (fun s => used s l3) (fun s => named s l3 || (l9.take i).any fun x => decide (x.f0 = s)) ?hm ?own x.f0 HZI.out ?hx ?_; (case hop => rfl); (case hm => first | (go_simp; done) | (go_simp; rfl)); (case own => exact HM.out.below (by repeat (with_reducible first | exact HB8.out.mono HLT.out | refine below_setG ?_ GE.out))); (case hx => first | (go_simp; done) | (go_simp; rfl)); (case hg => rfl)) | (at_mapUpdate; refine wpMap_put _ ?hg (Operand.tmp 19) (Operand.tmp 21) (Operand.tmp 23) ?hop mb (l3.length + i) (fun s => used s l3) (fun s => named s l3 || (l9.take i).any fun x => decide (x.f0 = s)) ?hm ?own HNI.out x.f0 HZI.out (used x.f0 l3) ?hx ?hv HW.out ?_; (case hg => rfl); (case hop => rfl); (case hm => first | (go_simp; done) | (go_simp; rfl)); (case own => exact HM.out.below (by repeat (with_reducible first | exact HB8.out.mono HLT.out | refine below_setG ?_ GE.out))); (case hx => first | (go_simp; done) | (go_simp; rfl)); (case hv => first | (go_simp; done) | (go_simp; rfl)); intro w9 hm9 hg9; have HM9 := Aside0.mk hm9; have HG9 := Aside0.mk hg9; clear hm9 hg9))
      go_roundw
      case measure => have := HC2.out; simp [Proofs.intOf]; omega
      case rel =>
        refine ⟨i + 1, by simp, by have := HC2.out; omega, ⟨?_⟩, ⟨?_⟩⟩
        · refine mapIs_ext (HM9.out.below (Below.refl _ _)) (fun s => ?_) (fun s => ?_)
          · by_cases e : s = x.f0
            · subst e; rw [if_pos rfl]
            · rw [if_neg e]
          · rw [HST.out s]
            show (decide (s = x.f0) || _) = _
            rw [show decide (s = x.f0) = decide (x.f0 = s) from decide_eq_decide.2 ⟨Eq.symm, Eq.symm⟩]
            generalize decide (x.f0 = s) = p
            generalize named s l3 = q
            generalize ((l9.take i).any fun x => decide (x.f0 = s)) = r
            cases p <;> cases q <;> cases r <;> rfl
        · refine Below.grown ?_ HG9.out ?_ (fun k hk => by cases hk; exact HMB.out)
          · refine HBL.out.trans ?_
            repeat (with_reducible first | exact HB8.out.mono HLW.out | refine below_setG ?_ GW.out)
          · have h8 : w1.heap.size ≤ w8.heap.size := Nat.le_trans HLW.out HB8.out.size
            repeat rw [size_setCell'2]
            exact h8
    · obtain rfl : i = l9.length := by omega
      have HMF : Aside0 (MapIs wr mb (l3.length + l9.length) (fun s => used s l3) (fun s => named s l3 || l9.any fun x => decide (x.f0 = s))) := ⟨mapIs_ext HM.out (fun _ => rfl) (fun s => by rw [List.take_length])⟩
      clear HM c2
      go_wp2_with (first | (go_at_call 42; refine (HKEYS.out _ _).mono ?_; rintro e w5 ⟨rfl, hw5⟩; subst w5) | (go_at_call 41; refine (keys_call HSORT.out HMF.out (by have := HL3.out; have := HL9.out; omega)).mono ?_; rintro e w6 ⟨Ak, ck, ss, rfl, hss, hCK, hb6⟩; have HSS := Aside0.mk hss; have HCK := Aside0.mk hCK; have HB6 := Aside0.mk hb6; clear hss hCK hb6))
      have HBZ := Aside0.mk (HBW.out.trans (HB6.out.mono HBW.out.size))
      have HB1Z := Aside0.mk (HBL.out.trans (HB6.out.mono HBL.out.size))
      have HMZ : Aside0 (MapIs w6 mb (l3.length + l9.length) (fun s => used s l3) (fun s => named s l3 || l9.any fun x => decide (x.f0 = s))) := ⟨HMF.out.below (HB6.out.mono HMF.out.lt)⟩
      have HFIN := Aside0.mk (over_filter l3 l9 HSS.out.1 (fun s hx => (HSS.out.2.2 s).2 (by
        obtain ⟨x, hx1, hx2⟩ := hx
        have : (l9.any fun x => decide (x.f0 = s)) = true := List.any_eq_true.2 ⟨x, hx1, decide_eq_true hx2⟩
        rw [this, Bool.or_true])))
      have HKZ : Aside0 (∀ o ∈ kb ss, o.size ≤ 140737488351232) := ⟨fun o ho => by
        have h1 := (HSS.out.2.2 o).1 ((mem_kb o).1 ho)
        rcases Bool.or_eq_true_iff.1 h1 with h | h
        · obtain ⟨x, hx, e⟩ := List.any_eq_true.1 h
          have e2 : x.f3 = o := of_decide_eq_true (Bool.and_eq_true_iff.1 e).1
          exact e2 ▸ HU.out.2 x hx
        · obtain ⟨x, hx, e⟩ := List.any_eq_true.1 h
          have e2 : x.f0 = o := of_decide_eq_true e
          exact e2 ▸ HZ9.out x hx⟩
      have hkl : (kb ss).length ≤ 2000 := by rw [kb_length]; have := HSS.out.2.1; have := HL3.out; have := HL9.out; omega
      clear HSS HBW HBL HMF HB6
      generalize kb ss = ks at *
      go_loopw [6, 29] (fun v6 v29 wq => ∃ (j : Nat), v29 = .int .i64 j ∧ j ≤ ks.length ∧ Aside0 (Kd.R Kd.string 9 wq w6.heap.size (fun _ => True) v6 ((ks.take j).filter (exO l3 l9))) ∧ Aside0 (Below w6.heap.size w6 wq)) (fun _ v29 _ => ks.length - (Proofs.intOf v29).toNat)
      case atStart => exact ⟨0, rfl, by omega, ⟨Kd.R_nil _ _ _ _ _⟩, ⟨Below.refl _ _⟩⟩
      case round =>
        obtain ⟨j, rfl, hj, HO, HBQ⟩ := hrel
        have HBX := Aside0.mk (HBZ.out.trans (HBQ.out.mono HBZ.out.size))
        have HB1X := Aside0.mk (HB1Z.out.trans (HBQ.out.mono HB1Z.out.size))
        have HMR := Aside0.mk (HMZ.out.below (HBQ.out.mono HMZ.out.lt))
        have BKR := Aside0.mk ((HB1X.out.block gb GL.out).trans BK.out)
        by_cases c2 : j < ks.length
        · have c2b0 : decide ((j : Int) < (ks.length : Int)) = true := decide_eq_true (by omega)
          have c2b1 : decide (j < ks.length) = true := decide_eq_true c2
          have p1 : 0 ≤ (j : Int) := by omega
          have q1 : (j : Int) < (ks.length : Int) := by omega
          obtain ⟨ad1, e1, hx1⟩ := Kd.at_string (Kd.C_below HCK.out HBQ.out) (j : Int) p1 q1
          cases e1
          rw [Int.toNat_natCast] at hx1
          have hrd1 : rdOf ByteArray.empty ks (j : Int) = ks[j]'c2 := by
            unfold rdOf
            rw [Int.toNat_natCast, List.getD_eq_getElem?_getD, List.getElem?_eq_getElem c2]
            rfl
          rw [hrd1] at hx1
          have hcz_9 : wr.cell? ⟨gb, 9, none⟩ = some (.slice A9 l9.length c9) := (blk_cell BKR.out 9).trans rfl
          have HZO : Aside0 ((ks[j]'c2).size ≤ 140737488351232) := ⟨HKZ.out _ (List.getElem_mem c2)⟩
          have HTK : Aside0 ((ks.take (j + 1)).filter (exO l3 l9) = (ks.take j).filter (exO l3 l9) ++ if exO l3 l9 (ks[j]'c2) = true then [ks[j]'c2] else []) := ⟨by
            rw [List.take_succ_eq_append_getElem c2, List.filter_append]
            congr 1
            rw [List.filter_cons]
            split <;> rfl⟩
          have HLN : Aside0 (((ks.take j).filter (exO l3 l9)).length ≤ 2000) := ⟨by
            have h1 := List.length_filter_le (exO l3 l9) (ks.take j)
            rw [List.length_take] at h1
            omega⟩
          have hw : IntKind.i64.wrap ((j : Int) + 1) = ((j + 1 : Nat) : Int) := by
            rw [i64_w]
            unfold wrap64
            omega
          have HC2 := Aside0.mk c2
          clear hrd1
          generalize ks[j]'c2 = o at *
          generalize (ks.take j).filter (exO l3 l9) = fl at *
          replace p1 := eq_true p1
          replace q1 := eq_true q1
          clear c2
          have HEX := Aside0.mk (exc_f l9 HL91.out o (used o l3))
          by_cases c3 : exc l9 o (used o l3) = true
          · rw [c3] at HEX
            have H3 : Aside0 (exO l3 l9 o = true) := ⟨c3⟩
            clear c3
            go_wp2_with (first | ((with_reducible refine gate_dst (N := 38) rfl ?_); refine wp_look ?hg (Operand.tmp 36) (Operand.tmp 37) ?hop mb (l3.length + l9.length) (fun s => used s l3) (fun s => named s l3 || l9.any fun x => decide (x.f0 = s)) ?hm ?own o HZO.out ?hx ?_; (case hop => rfl); (case hm => first | (go_simp; done) | (go_simp; rfl)); (case own => exact HMR.out); (case hx => first | (go_simp; done) | (go_simp; rfl)); (case hg => rfl)) | (go_at_call 30; refine (quota_exceeds.calls A9 c9 l9 o _ _ _ (Kd.C_below HR9.out HBX.out) HC9.out HEX.out).mono ?_; rintro e w7 ⟨rfl, hb7⟩; have HB7 := Aside0.mk hb7; have HO7 := Aside0.mk (Kd.R_below HO.out hb7); have HBQ7 := Aside0.mk (HBQ.out.trans (hb7.mono HBQ.out.size)); clear hb7) | ((with_reducible refine gate_builtin (b := .append) (xs := #[.tmp 40, .tmp 42]) rfl ?_); at_builtin; refine Kd.R_append Kd.string (w0 := w6) w6.heap.size rfl (.tmp 40) (.tmp 42) 32 9 (.string ⟨#[]⟩) 16 rfl Try.underlying32 info9 rfl (by decide) (by omega) u6 fl o [.string o] (fun _ => True) (fun _ => False) rfl rfl ?aP (fun _ hk => hk.elim) ?aF ?aO ?aB ?aS ?aL ?_; (case aP => exact rfl); (case aB => exact HBQ7.out); (case aF => exact fun _ _ => trivial); (case aO => exact HO7.out); (case aS => exact HBQ7.out.size); (case aL => have := HLN.out; omega); intro v8 w8 ho hb hg hat; have HO8 := Aside0.mk ho; have HBQ8 := Aside0.mk hb; clear ho hb hg hat))
            go_roundw
            case measure => have := HC2.out; simp [Proofs.intOf]; omega
            case rel => exact ⟨j + 1, by simp, by have := HC2.out; omega, ⟨by rw [HTK.out, if_pos H3.out]; exact HO8.out⟩, HBQ8⟩
          · have H3 : Aside0 (¬ exO l3 l9 o = true) := ⟨c3⟩
            rw [Bool.eq_false_iff.mpr c3] at HEX
            clear c3
            go_wp2_with (first | ((with_reducible refine gate_dst (N := 38) rfl ?_); refine wp_look ?hg (Operand.tmp 36) (Operand.tmp 37) ?hop mb (l3.length + l9.length) (fun s => used s l3) (fun s => named s l3 || l9.any fun x => decide (x.f0 = s)) ?hm ?own o HZO.out ?hx ?_; (case hop => rfl); (case hm => first | (go_simp; done) | (go_simp; rfl)); (case own => exact HMR.out); (case hx => first | (go_simp; done) | (go_simp; rfl)); (case hg => rfl)) | (go_at_call 30; refine (quota_exceeds.calls A9 c9 l9 o _ _ _ (Kd.C_below HR9.out HBX.out) HC9.out HEX.out).mono ?_; rintro e w7 ⟨rfl, hb7⟩; have HB7 := Aside0.mk hb7; have HO7 := Aside0.mk (Kd.R_below HO.out hb7); have HBQ7 := Aside0.mk (HBQ.out.trans (hb7.mono HBQ.out.size)); clear hb7))
            go_roundw
            case measure => have := HC2.out; simp [Proofs.intOf]; omega
            case rel => exact ⟨j + 1, by simp, by have := HC2.out; omega, ⟨by rw [HTK.out, if_neg H3.out, List.append_nil]; exact HO7.out⟩, HBQ7⟩
        · obtain rfl : j = ks.length := by omega
          have HO2 := HO.out
          rw [List.take_length, HFIN.out] at HO2
          have HO3 := Aside0.mk HO2
          clear HO2 HO c2
          go_wp2
          go_ret
          exact ⟨_, rfl, Kd.R_lower HO3.out HBZ.out.size, HBX.out⟩
end Go.Proofs.Ytbadelcnaeijkaa.Q
end
section
namespace Go.Proofs
open Go.Shelf
def Try.keys42_ren : Go.Shelf.Ren := ⟨fun | 7 => 42 | 10 => 49 | n => n, fun | 23 => 59 | 26 => 9 | 3 => 3 | 28 => 82 | 0 => 0 | 27 => 81 | 33 => 92 | 4 => 4 | n => n, fun | n => n⟩
theorem Try.keys42 : Go.Proofs.SlLaysZ.n7 Try.prog Try.keys42_ren := {
  mixed := by kernel_rfl
  f7 := ⟨Try.f42.name, by decide, Try.func42.trans (congrArg some (by kernel_rfl))⟩
  f10 := ⟨Try.f49.name, by decide, Try.func49.trans (congrArg some (by kernel_rfl))⟩
  t0 := Try.underlying0
  a0 := Try.isAgg0
  z0 := Try.sizeOf0
  v0 := Try.zeroValue0
  t4 := Try.underlying4
  a4 := Try.isAgg4
  z4 := Try.sizeOf4
  v4 := Try.zeroValue4
  t23 := Try.underlying59
  a23 := Try.isAgg59
  z23 := Try.sizeOf59
  v23 := Try.zeroValue59
  t26 := Try.underlying9
  a26 := Try.isAgg9
  z26 := Try.sizeOf9
  v26 := Try.zeroValue9
  t27 := Try.underlying81
  a27 := Try.isAgg81
  z27 := Try.sizeOf81
  v27 := Try.zeroValue81
  t28 := Try.underlying82
  a28 := Try.isAgg82
  z28 := Try.sizeOf82
  v28 := Try.zeroValue82
  t33 := Try.underlying92
  a33 := Try.isAgg92
  z33 := Try.sizeOf92
  v33 := Try.zeroValue92 }
def Try.sorted41_ren : Go.Shelf.Ren := ⟨fun | 6 => 41 | 8 => 47 | 9 => 48 | 11 => 53 | 13 => 55 | 12 => 54 | 23 => 66 | 24 => 50 | 14 => 57 | 15 => 58 | 16 => 59 | 17 => 60 | 18 => 61 | 19 => 62 | 20 => 63 | 21 => 64 | 22 => 65 | 25 => 68 | 26 => 69 | 27 => 70 | 28 => 71 | 29 => 72 | 30 => 73 | 31 => 74 | n => n, fun | 26 => 9 | 28 => 82 | 24 => 32 | 0 => 0 | 3 => 3 | 37 => 85 | 48 => 62 | 50 => 63 | 4 => 4 | 40 => 100 | 39 => 99 | 45 => 46 | 5 => 5 | 9 => 9 | 51 => 107 | 55 => 111 | 57 => 113 | 58 => 75 | 33 => 92 | n => n, fun | n => n⟩
theorem Try.sorted41 : Go.Proofs.SlLaysZ.n6 Try.prog Try.sorted41_ren := {
  mixed := by kernel_rfl
  f6 := ⟨Try.f41.name, by decide, Try.func41.trans (congrArg some (by kernel_rfl))⟩
  f8 := ⟨Try.f47.name, by decide, Try.func47.trans (congrArg some (by kernel_rfl))⟩
  f11 := ⟨Try.f53.name, by decide, Try.func53.trans (congrArg some (by kernel_rfl))⟩
  t0 := Try.underlying0
  a0 := Try.isAgg0
  z0 := Try.sizeOf0
  v0 := Try.zeroValue0
  t24 := Try.underlying32
  a24 := Try.isAgg32
  z24 := Try.sizeOf32
  v24 := Try.zeroValue32
  t26 := Try.underlying9
  a26 := Try.isAgg9
  z26 := Try.sizeOf9
  v26 := Try.zeroValue9
  t28 := Try.underlying82
  a28 := Try.isAgg82
  z28 := Try.sizeOf82
  v28 := Try.zeroValue82
  i26 := by kernel_rfl }
def Try.sort48_ren : Go.Shelf.Ren := ⟨fun | 6 => 48 | 8 => 55 | 9 => 54 | 19 => 66 | 20 => 50 | 21 => 57 | 22 => 58 | 23 => 59 | 24 => 60 | 25 => 61 | 26 => 62 | 27 => 63 | 28 => 64 | 29 => 65 | 36 => 68 | 31 => 69 | 32 => 70 | 37 => 71 | 38 => 72 | 39 => 73 | 41 => 74 | n => n, fun | 27 => 32 | 29 => 9 | 3 => 3 | 32 => 85 | 26 => 32 | 0 => 0 | 44 => 62 | 46 => 63 | 4 => 4 | 36 => 100 | 35 => 99 | 41 => 46 | 5 => 5 | 9 => 9 | 53 => 107 | 57 => 111 | 63 => 113 | 64 => 75 | n => n, fun | n => n⟩
theorem Try.sort48 : Go.Proofs.SlLaysM.n6 Try.prog Try.sort48_ren := {
  mixed := by kernel_rfl
  f6 := ⟨Try.f48.name, by decide, Try.func48.trans (congrArg some (by kernel_rfl))⟩
  f8 := Try.func55.trans (congrArg some (by kernel_rfl))
  f9 := ⟨Try.f54.name, by decide, Try.func54.trans (congrArg some (by kernel_rfl))⟩
  f19 := Try.func66.trans (congrArg some (by kernel_rfl))
  f20 := Try.func50.trans (congrArg some (by kernel_rfl))
  f21 := ⟨Try.f57.name, by decide, Try.func57.trans (congrArg some (by kernel_rfl))⟩
  f22 := ⟨Try.f58.name, by decide, Try.func58.trans (congrArg some (by kernel_rfl))⟩
  f23 := ⟨Try.f59.name, by decide, Try.func59.trans (congrArg some (by kernel_rfl))⟩
  f24 := ⟨Try.f60.name, by decide, Try.func60.trans (congrArg some (by kernel_rfl))⟩
  f25 := ⟨Try.f61.name, by decide, Try.func61.trans (congrArg some (by kernel_rfl))⟩
  f26 := ⟨Try.f62.name, by decide, Try.func62.trans (congrArg some (by kernel_rfl))⟩
  f27 := ⟨Try.f63.name, by decide, Try.func63.trans (congrArg some (by kernel_rfl))⟩
  f28 := ⟨Try.f64.name, by decide, Try.func64.trans (congrArg some (by kernel_rfl))⟩
  f29 := ⟨Try.f65.name, by decide, Try.func65.trans (congrArg some (by kernel_rfl))⟩
  f31 := Try.func69.trans (congrArg some (by kernel_rfl))
  f32 := Try.func70.trans (congrArg some (by kernel_rfl))
  f36 := ⟨Try.f68.name, by decide, Try.func68.trans (congrArg some (by kernel_rfl))⟩
  f37 := ⟨Try.f71.name, by decide, Try.func71.trans (congrArg some (by kernel_rfl))⟩
  f38 := ⟨Try.f72.name, by decide, Try.func72.trans (congrArg some (by kernel_rfl))⟩
  f39 := ⟨Try.f73.name, by decide, Try.func73.trans (congrArg some (by kernel_rfl))⟩
  f41 := ⟨Try.f74.name, by decide, Try.func74.trans (congrArg some (by kernel_rfl))⟩
  t0 := Try.underlying0
  a0 := Try.isAgg0
  z0 := Try.sizeOf0
  v0 := Try.zeroValue0
  t3 := Try.underlying3
  a3 := Try.isAgg3
  z3 := Try.sizeOf3
  v3 := Try.zeroValue3
  t4 := Try.underlying4
  a4 := Try.isAgg4
  z4 := Try.sizeOf4
  v4 := Try.zeroValue4
  t5 := Try.underlying5
  a5 := Try.isAgg5
  z5 := Try.sizeOf5
  v5 := Try.zeroValue5
  t9 := Try.underlying9
  a9 := Try.isAgg9
  z9 := Try.sizeOf9
  v9 := Try.zeroValue9
  t26 := Try.underlying32
  a26 := Try.isAgg32
  z26 := Try.sizeOf32
  v26 := Try.zeroValue32
  t27 := Try.underlying32
  a27 := Try.isAgg32
  z27 := Try.sizeOf32
  v27 := Try.zeroValue32
  t29 := Try.underlying9
  a29 := Try.isAgg9
  z29 := Try.sizeOf9
  v29 := Try.zeroValue9
  t32 := Try.underlying85
  a32 := Try.isAgg85
  z32 := Try.sizeOf85
  v32 := Try.zeroValue85
  t35 := Try.underlying99
  a35 := Try.isAgg99
  z35 := Try.sizeOf99
  v35 := Try.zeroValue99
  t36 := Try.underlying100
  a36 := Try.isAgg100
  z36 := Try.sizeOf100
  v36 := Try.zeroValue100
  t41 := Try.underlying46
  a41 := Try.isAgg46
  z41 := Try.sizeOf46
  v41 := Try.zeroValue46
  t44 := Try.underlying62
  a44 := Try.isAgg62
  z44 := Try.sizeOf62
  v44 := Try.zeroValue62
  t46 := Try.underlying63
  a46 := Try.isAgg63
  z46 := Try.sizeOf63
  v46 := Try.zeroValue63
  t53 := Try.underlying107
  a53 := Try.isAgg107
  z53 := Try.sizeOf107
  v53 := Try.zeroValue107
  t57 := Try.underlying111
  a57 := Try.isAgg111
  z57 := Try.sizeOf111
  v57 := Try.zeroValue111
  t63 := Try.underlying113
  a63 := Try.isAgg113
  z63 := Try.sizeOf113
  v63 := Try.zeroValue113
  t64 := Try.underlying75
  a64 := Try.isAgg75
  z64 := Try.sizeOf75
  v64 := Try.zeroValue75 }
open Go.RowKit Go.Maps Go.Sort in
theorem Try.sorts41 (m : Nat) : AnyZ.SortsIn Try.prog Try.sorted41_ren Fence.wide m :=
  ⟨fun blk off cap ss W hH hblk hsz => callsIn_wide.2 (AnyM.slices_Sort_string Try.sort48 blk off cap ss W hH hblk hsz),
   fun p cap W => callsIn_wide.2 (AnyM.slices_Sort_string_none Try.sort48 p cap W)⟩
open Go.RowKit Go.Maps Go.Sort in
theorem Try.maps_Keys_42 (mb : Option Nat) (W : World) : CallsIn Fence.wide 5 Try.prog 42 #[.map mb] W fun e w' => e = .returned (.func (.func 49) #[] #[.pointer (some ⟨W.heap.size, 0, none⟩)]) ∧ w' = W.alloc (.cells #[.map mb] 59) :=
  AnyZ.keys_in Try.keys42 Fence.wide 5 trivial rfl mb W
open Go.RowKit Go.Maps Go.Sort in
theorem Try.slices_Sorted_keys_41_42 {H : Type} (b nn : Nat) (D0 : DataW H) (R : Value → Option (DataW H × List MemPlace)) (w : World) (hown : w.ownsMap Try.prog 9 R b nn D0) (hmax : Maps.size D0 ≤ maxLen) (hbytes : Maps.size D0 * 16 ≤ 140737488355328) :
    CallsIn Fence.wide 5 Try.prog 41 #[.func (.func 49) #[] #[.pointer (some ⟨w.heap.size, 0, none⟩)]] (w.alloc (.cells #[.map (some b)] 59)) fun e w' => ∃ (v : Value) (ss : List (List UInt8)), e = .returned v ∧ ss.Perm (strKeys D0) ∧
      w'.ownsRow (w.alloc (.cells #[.map (some b)] 59)).heap.size 9 1 v ss.length ((ss.mergeSort (fun x y => decide (x ≤ y))).map encStr) ∧ (v = .slice none 0 0 ↔ ss = []) ∧ Below (w.alloc (.cells #[.map (some b)] 59)).heap.size (w.alloc (.cells #[.map (some b)] 59)) w' := by
  have hbl := hown.lt
  have hseq : SeqGives Fence.wide 2 Try.prog 49 #[.pointer (some ⟨w.heap.size, 0, none⟩)] encStr (fun ss => ss.Perm (strKeys D0)) (Maps.size D0) (w.alloc (.cells #[.map (some b)] 59)) :=
    AnyZ.keys_gives (ρ := Try.keys42_ren) { Try.keys42 with } Fence.wide _ trivial rfl (by omega) w.heap.size b nn D0 _ (by simp) (by simp) (by
      obtain ⟨es, clock, hb, Ft, hs, hD⟩ := hown
      exact ⟨es, clock, (Below.heap_alloc _ _ b hbl).trans hb, Ft, hs, hD⟩)
  exact AnyZ.sorted_in Try.sorted41 Fence.wide 5 trivial trivial trivial trivial rfl (by omega) (Try.sorts41 _) (enters_of Try.func48 (by kernel_rfl) rfl) 49 #[.pointer (some ⟨w.heap.size, 0, none⟩)] trivial (enters_of Try.func49 (by kernel_rfl) rfl) _ _ hmax hbytes _ hseq
end Go.Proofs
end
section
namespace Go.Proofs.Ytbadelcnaeijkaa.Q
open Go.RowKit Go.Proofs.YtbadelcnaeijkaaW.PrintWords Go.Proofs.YtbadelcnaeijkaaW.PrintLast Go.Proofs.YtbadelcnaeijkaaW.PrintMore
attribute [local go_sem] max2_int min2_int max_two min_two max_three min_three max_four min_four
attribute [local go_sem ↓] isSome_setCell
attribute [local go_sem] string_gtr
set_option linter.unusedVariables false
set_option linter.unusedSimpArgs false
theorem keysOk : KeysOk := fun mb W => callsIn_wide.1 (Try.maps_Keys_42 mb W)
theorem sortedOk : SortedOk := fun b nn D0 w h hs => (callsIn_wide.1 (Try.slices_Sorted_keys_41_42 b nn D0 _ w h (by unfold maxLen; omega) (by omega))).mono fun e w' ⟨v, ss, h1, h2, h3, _, h5⟩ => ⟨v, ss, h1, h2, h3, h5⟩
end Go.Proofs.Ytbadelcnaeijkaa.Q
end
section
namespace Go.Proofs.Ytbadelcnaeijkaa.Q
open Go.RowKit Go.Proofs.YtbadelcnaeijkaaW.PrintWords Go.Proofs.YtbadelcnaeijkaaW.PrintLast Go.Proofs.YtbadelcnaeijkaaW.PrintMore
attribute [local go_sem] max2_int min2_int max_two min_two max_three min_three max_four min_four
attribute [local go_sem ↓] isSome_setCell
attribute [local go_sem] string_gtr
set_option linter.unusedVariables false
set_option linter.unusedSimpArgs false
instance (l3 : List S66) (l9 : List S55) : Decidable (overOk l3 l9) := inferInstanceAs (Decidable (_ ∧ _))
def quota_Over.f (_a0 _a1 _a2 : Int) (l3 : List S66) (_l4 : List S133) (_l5 : List S135) (_l6 : List S137) (_l7 : List S139) (_l8 : List S141) (l9 : List S55) (_l10 : List S143) : Option (List ByteArray) := if overOk l3 l9 then some (overS l3 l9) else none
theorem quota_Over.calls (a0 a1 a2 : Int) (A3 : Option Addr) (c3 : Nat) (l3 : List S66) (A4 : Option Addr) (c4 : Nat) (l4 : List S133) (A5 : Option Addr) (c5 : Nat) (l5 : List S135) (A6 : Option Addr) (c6 : Nat) (l6 : List S137) (A7 : Option Addr) (c7 : Nat) (l7 : List S139) (A8 : Option Addr) (c8 : Nat) (l8 : List S141) (A9 : Option Addr) (c9 : Nat) (l9 : List S55) (A10 : Option Addr) (c10 : Nat) (l10 : List S143) (r : List ByteArray) (w : World) (hr3 : Kd.C k66 w A3 l3.length l3) (_hc3 : l3.length ≤ c3) (_hr4 : Kd.C k133 w A4 l4.length l4) (_hc4 : l4.length ≤ c4) (_hr5 : Kd.C k135 w A5 l5.length l5) (_hc5 : l5.length ≤ c5) (_hr6 : Kd.C k137 w A6 l6.length l6) (_hc6 : l6.length ≤ c6) (_hr7 : Kd.C k139 w A7 l7.length l7) (_hc7 : l7.length ≤ c7) (_hr8 : Kd.C k141 w A8 l8.length l8) (_hc8 : l8.length ≤ c8) (hr9 : Kd.C k55 w A9 l9.length l9) (hc9 : l9.length ≤ c9) (_hr10 : Kd.C k143 w A10 l10.length l10) (_hc10 : l10.length ≤ c10)
  (h : quota_Over.f a0 a1 a2 l3 l4 l5 l6 l7 l8 l9 l10 = some r) :
  Calls Try.prog 22 #[.agg #[.int .i64 a0, .int .i64 a1, .int .i64 a2, .slice A3 l3.length c3, .slice A4 l4.length c4, .slice A5 l5.length c5, .slice A6 l6.length c6, .slice A7 l7.length c7, .slice A8 l8.length c8, .slice A9 l9.length c9, .slice A10 l10.length c10]] w fun e w' => ∃ v, e = .returned v ∧ Kd.R Kd.string 9 w' w.heap.size (fun _ => True) v r ∧ Below w.heap.size w w' := by
 unfold quota_Over.f at h
 by_cases hl : overOk l3 l9
 ·
  rw [if_pos hl] at h; obtain rfl := si_ h; exact over_walk keysOk sortedOk a0 a1 a2 A3 c3 l3 A4 c4 l4 A5 c5 l5 A6 c6 l6 A7 c7 l7 A8 c8 l8 A9 c9 l9 A10 c10 l10 w hr3 hr9 hc9 hl
 ·
  rw [if_neg hl] at h; cases h
end Go.Proofs.Ytbadelcnaeijkaa.Q
end
