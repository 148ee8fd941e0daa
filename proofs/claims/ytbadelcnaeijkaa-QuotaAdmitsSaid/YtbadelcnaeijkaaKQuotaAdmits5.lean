import Derived.Test.YtbadelcnaeijkaaKQuotaAdmits4
set_option linter.unusedVariables false
set_option linter.unusedSimpArgs false
section
namespace Go.Proofs.Ytbadelcnaeijkaa.Q
open Go.RowKit Go.Proofs.YtbadelcnaeijkaaW.PrintWords Go.Proofs.YtbadelcnaeijkaaW.PrintLast Go.Proofs.YtbadelcnaeijkaaW.PrintMore
attribute [local go_sem] max2_int min2_int max_two min_two max_three min_three max_four min_four
attribute [local go_sem ↓] isSome_setCell
attribute [local go_sem] string_gtr
set_option linter.unusedVariables false
set_option linter.unusedSimpArgs false
mutual
def tapearchiveref32_Admit.l0 : Nat → List ByteArray → List Int → Int → Int → Int → Int → List (S66) → List (S133) → List (S135) → List (S137) → List (S139) → List (S141) → List (S55) → List (S143) → Option (Int × Int)
 | 0, _, _, _, _, _, _, _, _, _, _, _, _, _, _ => none
 | k + 1, x1, x2, x8, x141000, x141001, x141002, x141003, x141004, x141005, x141006, x141007, x141008, x141009, x141010 => if x8 < (x2.length : Int) then (if 0 ≤ x8 then (if (rd x2 x8) < 0 then (some (0, 8)) else (if (rd x2 x8) > 1125899906842624 then (some (0, 8)) else (tapearchiveref32_Admit.l0 k x1 x2 (wrap64 (x8 + 1)) x141000 x141001 x141002 x141003 x141004 x141005 x141006 x141007 x141008 x141009 x141010))) else (none)) else (tapearchiveref32_Admit.l1 k x1 x2 0 x141000 x141001 x141002 x141003 x141004 x141005 x141006 x141007 x141008 x141009 x141010)
def tapearchiveref32_Admit.l1 : Nat → List ByteArray → List Int → Int → Int → Int → Int → List (S66) → List (S133) → List (S135) → List (S137) → List (S139) → List (S141) → List (S55) → List (S143) → Option (Int × Int)
 | 0, _, _, _, _, _, _, _, _, _, _, _, _, _, _ => none
 | k + 1, x1, x2, x9, x141000, x141001, x141002, x141003, x141004, x141005, x141006, x141007, x141008, x141009, x141010 => if x9 < (x1.length : Int) then (if 0 ≤ x9 then ((tapearchiveref32_Used.f k x141003 (rdOf ByteArray.empty x1 x9)).bind fun t144 => (tapearchiveref32_Admit.l2 k x1 x2 x9 t144 0 x141000 x141001 x141002 x141003 x141004 x141005 x141006 x141007 x141008 x141009 x141010)) else (none)) else (some (0, 0))
def tapearchiveref32_Admit.l2 : Nat → List ByteArray → List Int → Int → Int → Int → Int → Int → Int → List (S66) → List (S133) → List (S135) → List (S137) → List (S139) → List (S141) → List (S55) → List (S143) → Option (Int × Int)
 | 0, _, _, _, _, _, _, _, _, _, _, _, _, _, _, _, _ => none
 | k + 1, x1, x2, x9, x10, x11, x141000, x141001, x141002, x141003, x141004, x141005, x141006, x141007, x141008, x141009, x141010 => if x11 < (x1.length : Int) then (if 0 ≤ x11 then (if 0 ≤ x9 then (if x9 < (x1.length : Int) then (if (rdOf ByteArray.empty x1 x11).toList = (rdOf ByteArray.empty x1 x9).toList then (if x11 < (x2.length : Int) then (tapearchiveref32_Admit.l2 k x1 x2 x9 (wrap64 (x10 + (rd x2 x11))) (wrap64 (x11 + 1)) x141000 x141001 x141002 x141003 x141004 x141005 x141006 x141007 x141008 x141009 x141010) else (none)) else (tapearchiveref32_Admit.l2 k x1 x2 x9 x10 (wrap64 (x11 + 1)) x141000 x141001 x141002 x141003 x141004 x141005 x141006 x141007 x141008 x141009 x141010)) else (none)) else (none)) else (none)) else (if 0 ≤ x9 then (if x9 < (x1.length : Int) then ((tapearchiveref32_Limit.f k x141009 (rdOf ByteArray.empty x1 x9)).bind fun bt149 => (if bt149.2 = true then (if x10 > bt149.1 then (some (x9, 20)) else (tapearchiveref32_Admit.l1 k x1 x2 (wrap64 (x9 + 1)) x141000 x141001 x141002 x141003 x141004 x141005 x141006 x141007 x141008 x141009 x141010)) else (tapearchiveref32_Admit.l1 k x1 x2 (wrap64 (x9 + 1)) x141000 x141001 x141002 x141003 x141004 x141005 x141006 x141007 x141008 x141009 x141010))) else (none)) else (none))
end
def tapearchiveref32_Admit.f (k : Nat) (a0_0 : Int) (a0_1 : Int) (a0_2 : Int) (l0_3 : List (S66)) (l0_4 : List (S133)) (l0_5 : List (S135)) (l0_6 : List (S137)) (l0_7 : List (S139)) (l0_8 : List (S141)) (l0_9 : List (S55)) (l0_10 : List (S143)) (l1 : List ByteArray) (l2 : List Int) : Option (Int × Int) := if (l1.length : Int) = (l2.length : Int) then (tapearchiveref32_Admit.l0 k l1 l2 0 a0_0 a0_1 a0_2 l0_3 l0_4 l0_5 l0_6 l0_7 l0_8 l0_9 l0_10) else (some (0, 8))
set_option maxHeartbeats 8000000 in
set_option maxRecDepth 100000 in
theorem tapearchiveref32_Admit.calls (k : Nat) (a0_0 : Int) (a0_1 : Int) (a0_2 : Int) (A0_3 : Option Addr) (c0_3 : Nat) (l0_3 : List (S66)) (A0_4 : Option Addr) (c0_4 : Nat) (l0_4 : List (S133)) (A0_5 : Option Addr) (c0_5 : Nat) (l0_5 : List (S135)) (A0_6 : Option Addr) (c0_6 : Nat) (l0_6 : List (S137)) (A0_7 : Option Addr) (c0_7 : Nat) (l0_7 : List (S139)) (A0_8 : Option Addr) (c0_8 : Nat) (l0_8 : List (S141)) (A0_9 : Option Addr) (c0_9 : Nat) (l0_9 : List (S55)) (A0_10 : Option Addr) (c0_10 : Nat) (l0_10 : List (S143)) (A1 : Option Addr) (c1 : Nat) (l1 : List ByteArray) (A2 : Option Addr) (c2 : Nat) (l2 : List Int) (r1 : Int) (r2 : Int) (w : World) (hr0_3 : Kd.C k66 w A0_3 l0_3.length l0_3) (hc0_3 : l0_3.length ≤ c0_3) (hr0_4 : Kd.C k133 w A0_4 l0_4.length l0_4) (hc0_4 : l0_4.length ≤ c0_4) (hr0_5 : Kd.C k135 w A0_5 l0_5.length l0_5) (hc0_5 : l0_5.length ≤ c0_5) (hr0_6 : Kd.C k137 w A0_6 l0_6.length l0_6) (hc0_6 : l0_6.length ≤ c0_6) (hr0_7 : Kd.C k139 w A0_7 l0_7.length l0_7) (hc0_7 : l0_7.length ≤ c0_7) (hr0_8 : Kd.C k141 w A0_8 l0_8.length l0_8) (hc0_8 : l0_8.length ≤ c0_8) (hr0_9 : Kd.C k55 w A0_9 l0_9.length l0_9) (hc0_9 : l0_9.length ≤ c0_9) (hr0_10 : Kd.C k143 w A0_10 l0_10.length l0_10) (hc0_10 : l0_10.length ≤ c0_10) (hr1 : Kd.C Kd.string w A1 l1.length l1) (hc1 : l1.length ≤ c1) (hr2 : Kd.C (Kd.int .i64) w A2 l2.length l2) (hc2 : l2.length ≤ c2) (h : tapearchiveref32_Admit.f k a0_0 a0_1 a0_2 l0_3 l0_4 l0_5 l0_6 l0_7 l0_8 l0_9 l0_10 l1 l2 = some (r1, r2)) :
  Calls Try.prog 12 #[.agg #[.int .i64 a0_0, .int .i64 a0_1, .int .i64 a0_2, .slice A0_3 l0_3.length c0_3, .slice A0_4 l0_4.length c0_4, .slice A0_5 l0_5.length c0_5, .slice A0_6 l0_6.length c0_6, .slice A0_7 l0_7.length c0_7, .slice A0_8 l0_8.length c0_8, .slice A0_9 l0_9.length c0_9, .slice A0_10 l0_10.length c0_10], .slice A1 l1.length c1, .slice A2 l2.length c2] w fun e w' => e = .returned (.tuple #[.int .i64 r1, .int .i64 r2]) ∧ Below w.heap.size w w' := by
 have hu31 := Try.underlying31; have HR0_3 := am_ hr0_3; have HC0_3 := am_ hc0_3; clear hr0_3 hc0_3; have HR0_4 := am_ hr0_4; have HC0_4 := am_ hc0_4; clear hr0_4 hc0_4; have HR0_5 := am_ hr0_5; have HC0_5 := am_ hc0_5; clear hr0_5 hc0_5; have HR0_6 := am_ hr0_6; have HC0_6 := am_ hc0_6; clear hr0_6 hc0_6; have HR0_7 := am_ hr0_7; have HC0_7 := am_ hc0_7; clear hr0_7 hc0_7; have HR0_8 := am_ hr0_8; have HC0_8 := am_ hc0_8; clear hr0_8 hc0_8; have HR0_9 := am_ hr0_9; have HC0_9 := am_ hc0_9; clear hr0_9 hc0_9; have HR0_10 := am_ hr0_10; have HC0_10 := am_ hc0_10; clear hr0_10 hc0_10; have HR1 := am_ hr1; have HC1 := am_ hc1; clear hr1 hc1; have HR2 := am_ hr2; have HC2 := am_ hc2; clear hr2 hc2; have HB := am_ (Below.refl w.heap.size w); have H : (if (l1.length : Int) = (l2.length : Int) then (tapearchiveref32_Admit.l0 k l1 l2 0 a0_0 a0_1 a0_2 l0_3 l0_4 l0_5 l0_6 l0_7 l0_8 l0_9 l0_10) else (some (0, 8))) = some (r1, r2) := h; clear h
 by_cases c4 : (l1.length : Int) = (l2.length : Int)
 ·
  rw [if_pos c4] at H; have c4b0 : ((l1.length : Int) == (l2.length : Int)) = true := beq_iff_eq.mpr c4; have c4b1 : ((l1.length : Int) != (l2.length : Int)) = false := bne_eq_false_iff_eq.mpr c4; have c4b2 : (l1.length == l2.length) = true := by first | simpa using c4 | (simp at c4 ⊢; omega)
  clear c4; have H' := am_ H; clear H; go_enter Try.func12, Try.ntmps12
  go_wp2_with (first | ((with_reducible refine gate_dst (N := 3) rfl ?_); refine box_event ?hg (N := 3) ?hd (cs := #[.int .i64 a0_0, .int .i64 a0_1, .int .i64 a0_2, .slice A0_3 l0_3.length c0_3, .slice A0_4 l0_4.length c0_4, .slice A0_5 l0_5.length c0_5, .slice A0_6 l0_6.length c0_6, .slice A0_7 l0_7.length c0_7, .slice A0_8 l0_8.length c0_8, .slice A0_9 l0_9.length c0_9, .slice A0_10 l0_10.length c0_10]) (t := 31) ?hr ?_; (case hd => rfl); (case hg => rfl); (case hr => first | (go_simp; done) | (go_simp; rfl)); intro gb140 hg w5 hbox hb; have n0_ := am_ (sp_ (pb0_ HB.out) hb); have n1_ := am_ (hbox); have n2_ := am_ ((by rw [hg]; exact (bz_ (pb0_ HB.out)) : w.heap.size ≤ gb140)); have n3_ := am_ ((by rw [hg]; exact (bz_ (pb0_ HB.out)) : w.heap.size ≤ gb140)); clear HB; have HB := n0_; have BK140 := n1_; have GW140 := n2_; have GE140 := n3_; clear n0_ n1_ n2_ n3_; clear hb hbox hg))
  repeat (go_quiet (first | ((with_reducible refine gate_dst (N := 3) rfl ?_); refine box_event ?hg (N := 3) ?hd (cs := #[.int .i64 a0_0, .int .i64 a0_1, .int .i64 a0_2, .slice A0_3 l0_3.length c0_3, .slice A0_4 l0_4.length c0_4, .slice A0_5 l0_5.length c0_5, .slice A0_6 l0_6.length c0_6, .slice A0_7 l0_7.length c0_7, .slice A0_8 l0_8.length c0_8, .slice A0_9 l0_9.length c0_9, .slice A0_10 l0_10.length c0_10]) (t := 31) ?hr ?_; (case hd => rfl); (case hg => rfl); (case hr => first | (go_simp; done) | (go_simp; rfl)); intro gb140 hg w5 hbox hb; have n0_ := am_ (sp_ (pb0_ HB.out) hb); have n1_ := am_ (hbox); have n2_ := am_ ((by rw [hg]; exact (bz_ (pb0_ HB.out)) : w.heap.size ≤ gb140)); have n3_ := am_ ((by rw [hg]; exact (bz_ (pb0_ HB.out)) : w.heap.size ≤ gb140)); clear HB; have HB := n0_; have BK140 := n1_; have GW140 := n2_; have GE140 := n3_; clear n0_ n1_ n2_ n3_; clear hb hbox hg)); try go_wp2_with (first | ((with_reducible refine gate_dst (N := 3) rfl ?_); refine box_event ?hg (N := 3) ?hd (cs := #[.int .i64 a0_0, .int .i64 a0_1, .int .i64 a0_2, .slice A0_3 l0_3.length c0_3, .slice A0_4 l0_4.length c0_4, .slice A0_5 l0_5.length c0_5, .slice A0_6 l0_6.length c0_6, .slice A0_7 l0_7.length c0_7, .slice A0_8 l0_8.length c0_8, .slice A0_9 l0_9.length c0_9, .slice A0_10 l0_10.length c0_10]) (t := 31) ?hr ?_; (case hd => rfl); (case hg => rfl); (case hr => first | (go_simp; done) | (go_simp; rfl)); intro gb140 hg w5 hbox hb; have n0_ := am_ (sp_ (pb0_ HB.out) hb); have n1_ := am_ (hbox); have n2_ := am_ ((by rw [hg]; exact (bz_ (pb0_ HB.out)) : w.heap.size ≤ gb140)); have n3_ := am_ ((by rw [hg]; exact (bz_ (pb0_ HB.out)) : w.heap.size ≤ gb140)); clear HB; have HB := n0_; have BK140 := n1_; have GW140 := n2_; have GE140 := n3_; clear n0_ n1_ n2_ n3_; clear hb hbox hg)))
  go_loopg [8] k (fun kq v8 w' => ∃ (x8_1 : Int), v8 = .int .i64 x8_1 ∧ Aside0 (tapearchiveref32_Admit.l0 kq l1 l2 x8_1 a0_0 a0_1 a0_2 l0_3 l0_4 l0_5 l0_6 l0_7 l0_8 l0_9 l0_10 = some (r1, r2)) ∧ Aside0 (kq ≤ k) ∧ Aside0 (w'.heap[gb140]? = some (.cells #[.int .i64 a0_0, .int .i64 a0_1, .int .i64 a0_2, (.slice A0_3 l0_3.length c0_3), (.slice A0_4 l0_4.length c0_4), (.slice A0_5 l0_5.length c0_5), (.slice A0_6 l0_6.length c0_6), (.slice A0_7 l0_7.length c0_7), (.slice A0_8 l0_8.length c0_8), (.slice A0_9 l0_9.length c0_9), (.slice A0_10 l0_10.length c0_10)] 31 (0, 0))) ∧ Aside0 (Below w.heap.size w w'))
  case atStart => exact ⟨(0), (by first | rfl | (simp; done) | (simp [*]; done)), H', ⟨Nat.le_refl _⟩, ⟨by (with_reducible repeat (first | refine bn_ ?_ _ | refine bd_ ?_ | refine ba_ ?_ _)); exact BK140.out⟩, ⟨pb1_ HB.out GE140.out⟩⟩
  case round =>
   clear H'
   try clear c1
   try clear c2
   try clear p2
   try clear c4
   try clear c4b0
   try clear c4b1
   try clear c4b2
   obtain ⟨x8_1, rfl, HA, HK1, BK140, HB⟩ := hrel; cases gk with
   | zero => exact absurd HA.out (by simp [tapearchiveref32_Admit.l0])
   | succ k1 =>
    have H := HA.out; clear HA; simp only [tapearchiveref32_Admit.l0] at H
    by_cases c6 : x8_1 < (l2.length : Int)
    ·
     rw [if_pos c6] at H; have c6b0 : decide (x8_1 < (l2.length : Int)) = true := de_ c6; clear c6
     by_cases c7 : 0 ≤ x8_1
     ·
      rw [if_pos c7] at H; have c7b0 : decide (0 ≤ x8_1) = true := de_ c7; clear c7
      by_cases c8 : (rd l2 x8_1) < 0
      ·
       rw [if_pos c8] at H; have c8b0 : decide ((rd l2 x8_1) < 0) = true := de_ c8; clear c8; simp only [Option.some.injEq, Prod.mk.injEq] at H; obtain ⟨rfl, rfl⟩ := H; have p141 : 0 ≤ (x8_1 : Int) := ot_ (by first | (with_reducible assumption) | assumption); have q141 : x8_1 < (l2.length : Int) := ot_ (by first | (with_reducible assumption) | assumption); obtain ⟨ad141, e141, hx141_0⟩ := Kd.at_int HR2.out x8_1 p141 q141; cases e141; replace hx141_0 := (HB.out.cell (bk_ w _ hx141_0)).trans hx141_0; replace p141 := eq_true p141; replace q141 := eq_true q141; go_wp2
       repeat (go_quiet (fail); try go_wp2)
       go_ret2; exact ⟨by first | rfl | (simp [errW_none, errW_some] <;> rfl) | (simp [*, errW_none, errW_some] <;> rfl), pb1_ HB.out GE140.out⟩
      ·
       rw [if_neg c8] at H; have c8b0 : decide ((rd l2 x8_1) < 0) = false := df_ c8; clear c8
       by_cases c9 : (rd l2 x8_1) > 1125899906842624
       ·
        rw [if_pos c9] at H; have c9b0 : decide (1125899906842624 < (rd l2 x8_1)) = true := de_ c9; clear c9; simp only [Option.some.injEq, Prod.mk.injEq] at H; obtain ⟨rfl, rfl⟩ := H; have p141 : 0 ≤ (x8_1 : Int) := ot_ (by first | (with_reducible assumption) | assumption); have q141 : x8_1 < (l2.length : Int) := ot_ (by first | (with_reducible assumption) | assumption); obtain ⟨ad141, e141, hx141_0⟩ := Kd.at_int HR2.out x8_1 p141 q141; cases e141; replace hx141_0 := (HB.out.cell (bk_ w _ hx141_0)).trans hx141_0; replace p141 := eq_true p141; replace q141 := eq_true q141; have p142 : 0 ≤ (x8_1 : Int) := ot_ (by first | (with_reducible assumption) | assumption); have q142 : x8_1 < (l2.length : Int) := ot_ (by first | (with_reducible assumption) | assumption); obtain ⟨ad142, e142, hx142_0⟩ := Kd.at_int HR2.out x8_1 p142 q142; obtain rfl : ad141 = ad142 := (by injection e142); replace hx142_0 := (HB.out.cell (bk_ w _ hx142_0)).trans hx142_0; replace p142 := eq_true p142; replace q142 := eq_true q142; go_wp2
        repeat (go_quiet (fail); try go_wp2)
        go_ret2; exact ⟨by first | rfl | (simp [errW_none, errW_some] <;> rfl) | (simp [*, errW_none, errW_some] <;> rfl), pb1_ HB.out GE140.out⟩
       ·
        rw [if_neg c9] at H; have c9b0 : decide (1125899906842624 < (rd l2 x8_1)) = false := df_ c9; clear c9; have H' := am_ H; clear H; have p141 : 0 ≤ (x8_1 : Int) := ot_ (by first | (with_reducible assumption) | assumption); have q141 : x8_1 < (l2.length : Int) := ot_ (by first | (with_reducible assumption) | assumption); obtain ⟨ad141, e141, hx141_0⟩ := Kd.at_int HR2.out x8_1 p141 q141; cases e141; replace hx141_0 := (HB.out.cell (bk_ w _ hx141_0)).trans hx141_0; replace p141 := eq_true p141; replace q141 := eq_true q141; have p142 : 0 ≤ (x8_1 : Int) := ot_ (by first | (with_reducible assumption) | assumption); have q142 : x8_1 < (l2.length : Int) := ot_ (by first | (with_reducible assumption) | assumption); obtain ⟨ad142, e142, hx142_0⟩ := Kd.at_int HR2.out x8_1 p142 q142; obtain rfl : ad141 = ad142 := (by injection e142); replace hx142_0 := (HB.out.cell (bk_ w _ hx142_0)).trans hx142_0; replace p142 := eq_true p142; replace q142 := eq_true q142; go_wp2
        repeat (go_quiet (fail); try go_wp2)
        go_roundg k1
        case measure => have := HK1.out; omega
        case rel => exact ⟨(wrap64 (x8_1 + 1)), (by first | rfl | (simp; done) | (simp [*]; done)), H', ⟨by have := HK1.out; omega⟩, ⟨by (with_reducible repeat (first | refine bn_ ?_ _ | refine bd_ ?_ | refine ba_ ?_ _)); exact BK140.out⟩, ⟨pb1_ HB.out GE140.out⟩⟩
     ·
      rw [if_neg c7] at H; exact absurd H (by simp)
    ·
     rw [if_neg c6] at H; have c6b0 : decide (x8_1 < (l2.length : Int)) = false := df_ c6; clear c6; have H' := am_ H; clear H; go_wp2
     repeat (go_quiet (fail); try go_wp2)
     go_loopg [9] k1 (fun kq v9 w' => ∃ (x9_2 : Int), v9 = .int .i64 x9_2 ∧ Aside0 (tapearchiveref32_Admit.l1 kq l1 l2 x9_2 a0_0 a0_1 a0_2 l0_3 l0_4 l0_5 l0_6 l0_7 l0_8 l0_9 l0_10 = some (r1, r2)) ∧ Aside0 (kq ≤ k1) ∧ Aside0 (w'.heap[gb140]? = some (.cells #[.int .i64 a0_0, .int .i64 a0_1, .int .i64 a0_2, (.slice A0_3 l0_3.length c0_3), (.slice A0_4 l0_4.length c0_4), (.slice A0_5 l0_5.length c0_5), (.slice A0_6 l0_6.length c0_6), (.slice A0_7 l0_7.length c0_7), (.slice A0_8 l0_8.length c0_8), (.slice A0_9 l0_9.length c0_9), (.slice A0_10 l0_10.length c0_10)] 31 (0, 0))) ∧ Aside0 (Below w.heap.size w w'))
     case atStart => exact ⟨(0), (by first | rfl | (simp; done) | (simp [*]; done)), H', ⟨Nat.le_refl _⟩, ⟨by (with_reducible repeat (first | refine bn_ ?_ _ | refine bd_ ?_ | refine ba_ ?_ _)); exact BK140.out⟩, ⟨pb1_ HB.out GE140.out⟩⟩
     case round =>
      clear H'
      try clear c1
      try clear p1
      try clear q1
      try clear hx1
      try clear c2
      try clear p2
      try clear c4
      try clear c4b0
      try clear c4b1
      try clear c4b2
      try clear c6
      try clear c6b0
      try clear p6
      try clear c7
      try clear c7b0
      try clear c8
      try clear c8b0
      try clear c9
      try clear c9b0
      try clear hx141_0
      try clear hx142_0
      try clear p141
      try clear p142
      try clear p2
      try clear q141
      try clear q142
      obtain ⟨x9_2, rfl, HA, HK2, BK140, HB⟩ := hrel; cases gk with
      | zero => exact absurd HA.out (by simp [tapearchiveref32_Admit.l1])
      | succ k2 =>
       have H := HA.out; clear HA; simp only [tapearchiveref32_Admit.l1] at H
       by_cases c10 : x9_2 < (l1.length : Int)
       ·
        rw [if_pos c10] at H; have c10b0 : decide (x9_2 < (l1.length : Int)) = true := de_ c10; clear c10
        by_cases c11 : 0 ≤ x9_2
        ·
         rw [if_pos c11] at H; have c11b0 : decide (0 ≤ x9_2) = true := de_ c11; clear c11; replace H := Option.bind_eq_some_iff.mp H; obtain ⟨t144, A120, H⟩ := H; replace H : (tapearchiveref32_Admit.l2 k2 l1 l2 x9_2 t144 0 a0_0 a0_1 a0_2 l0_3 l0_4 l0_5 l0_6 l0_7 l0_8 l0_9 l0_10) = some (r1, r2) := H; have A12 := am_ A120; clear A120; have H' := am_ H; clear H; have hcz13_0 : wr.cell? ⟨gb140, 0, none⟩ = some (.int .i64 a0_0) := (bc_ BK140.out 0).trans rfl; have hcz13_1 : wr.cell? ⟨gb140, 1, none⟩ = some (.int .i64 a0_1) := (bc_ BK140.out 1).trans rfl; have hcz13_2 : wr.cell? ⟨gb140, 2, none⟩ = some (.int .i64 a0_2) := (bc_ BK140.out 2).trans rfl; have hcz13_3 : wr.cell? ⟨gb140, 3, none⟩ = some (.slice A0_3 l0_3.length c0_3) := (bc_ BK140.out 3).trans rfl; have hcz13_4 : wr.cell? ⟨gb140, 4, none⟩ = some (.slice A0_4 l0_4.length c0_4) := (bc_ BK140.out 4).trans rfl; have hcz13_5 : wr.cell? ⟨gb140, 5, none⟩ = some (.slice A0_5 l0_5.length c0_5) := (bc_ BK140.out 5).trans rfl; have hcz13_6 : wr.cell? ⟨gb140, 6, none⟩ = some (.slice A0_6 l0_6.length c0_6) := (bc_ BK140.out 6).trans rfl; have hcz13_7 : wr.cell? ⟨gb140, 7, none⟩ = some (.slice A0_7 l0_7.length c0_7) := (bc_ BK140.out 7).trans rfl; have hcz13_8 : wr.cell? ⟨gb140, 8, none⟩ = some (.slice A0_8 l0_8.length c0_8) := (bc_ BK140.out 8).trans rfl; have hcz13_9 : wr.cell? ⟨gb140, 9, none⟩ = some (.slice A0_9 l0_9.length c0_9) := (bc_ BK140.out 9).trans rfl; have hcz13_10 : wr.cell? ⟨gb140, 10, none⟩ = some (.slice A0_10 l0_10.length c0_10) := (bc_ BK140.out 10).trans rfl; have hfz13_0 := bf_ BK140.out 0; have hfz13_1 := bf_ BK140.out 1; have hfz13_2 := bf_ BK140.out 2; have hfz13_3 := bf_ BK140.out 3; have hfz13_4 := bf_ BK140.out 4; have hfz13_5 := bf_ BK140.out 5; have hfz13_6 := bf_ BK140.out 6; have hfz13_7 := bf_ BK140.out 7; have hfz13_8 := bf_ BK140.out 8; have hfz13_9 := bf_ BK140.out 9; have hfz13_10 := bf_ BK140.out 10; have p143 : 0 ≤ (x9_2 : Int) := ot_ (by first | (with_reducible assumption) | assumption); have q143 : x9_2 < (l1.length : Int) := ot_ (by first | (with_reducible assumption) | assumption); obtain ⟨ad143, e143, hx143_0⟩ := Kd.at_string HR1.out x9_2 p143 q143; cases e143; replace hx143_0 := (HB.out.cell (bk_ w _ hx143_0)).trans hx143_0; replace p143 := eq_true p143; replace q143 := eq_true q143
         go_wp2_with (first | (go_at_call 20; (with_reducible refine (tapearchiveref32_Used.calls k2 _ _ l0_3 (rdOf ByteArray.empty l1 x9_2) t144 _ ?side1 ?side2 A12.out).mono ?_); (case side1 => repeat (first | exact (Kd.C_below HR0_3.out HB.out) | (with_reducible refine Kd.C_alloc ?_ _) | (with_reducible refine Kd.C_drewN ?_ _) | (with_reducible refine Kd.C_drew ?_))); (case side2 => exact HC0_3.out); rintro e w' ⟨rfl, ⟨nd, rfl⟩⟩; (try first | exact ⟨rfl, _, World.drewN_drewN _ _ _⟩ | exact ⟨rfl, _, Eq.trans (World.drewN_drewN _ _ _) (congrArg (World.drewN _) (Nat.add_assoc _ _ _))⟩)))
         repeat (go_quiet (first | (go_at_call 20; (with_reducible refine (tapearchiveref32_Used.calls k2 _ _ l0_3 (rdOf ByteArray.empty l1 x9_2) t144 _ ?side1 ?side2 A12.out).mono ?_); (case side1 => repeat (first | exact (Kd.C_below HR0_3.out HB.out) | (with_reducible refine Kd.C_alloc ?_ _) | (with_reducible refine Kd.C_drewN ?_ _) | (with_reducible refine Kd.C_drew ?_))); (case side2 => exact HC0_3.out); rintro e w' ⟨rfl, ⟨nd, rfl⟩⟩; (try first | exact ⟨rfl, _, World.drewN_drewN _ _ _⟩ | exact ⟨rfl, _, Eq.trans (World.drewN_drewN _ _ _) (congrArg (World.drewN _) (Nat.add_assoc _ _ _))⟩))); try go_wp2_with (first | (go_at_call 20; (with_reducible refine (tapearchiveref32_Used.calls k2 _ _ l0_3 (rdOf ByteArray.empty l1 x9_2) t144 _ ?side1 ?side2 A12.out).mono ?_); (case side1 => repeat (first | exact (Kd.C_below HR0_3.out HB.out) | (with_reducible refine Kd.C_alloc ?_ _) | (with_reducible refine Kd.C_drewN ?_ _) | (with_reducible refine Kd.C_drew ?_))); (case side2 => exact HC0_3.out); rintro e w' ⟨rfl, ⟨nd, rfl⟩⟩; (try first | exact ⟨rfl, _, World.drewN_drewN _ _ _⟩ | exact ⟨rfl, _, Eq.trans (World.drewN_drewN _ _ _) (congrArg (World.drewN _) (Nat.add_assoc _ _ _))⟩))))
         go_loopg [10, 11] k2 (fun kq v10 v11 w' => ∃ (x10_3 : Int) (x11_3 : Int), v10 = .int .i64 x10_3 ∧ v11 = .int .i64 x11_3 ∧ Aside0 (tapearchiveref32_Admit.l2 kq l1 l2 x9_2 x10_3 x11_3 a0_0 a0_1 a0_2 l0_3 l0_4 l0_5 l0_6 l0_7 l0_8 l0_9 l0_10 = some (r1, r2)) ∧ Aside0 (kq ≤ k2) ∧ Aside0 (w'.heap[gb140]? = some (.cells #[.int .i64 a0_0, .int .i64 a0_1, .int .i64 a0_2, (.slice A0_3 l0_3.length c0_3), (.slice A0_4 l0_4.length c0_4), (.slice A0_5 l0_5.length c0_5), (.slice A0_6 l0_6.length c0_6), (.slice A0_7 l0_7.length c0_7), (.slice A0_8 l0_8.length c0_8), (.slice A0_9 l0_9.length c0_9), (.slice A0_10 l0_10.length c0_10)] 31 (0, 0))) ∧ Aside0 (Below w.heap.size w w'))
         case atStart => exact ⟨(t144), (0), (by first | rfl | (simp; done) | (simp [*]; done)), (by first | rfl | (simp; done) | (simp [*]; done)), H', ⟨Nat.le_refl _⟩, ⟨by (with_reducible repeat (first | refine bn_ ?_ _ | refine bd_ ?_ | refine ba_ ?_ _)); exact BK140.out⟩, ⟨pb1_ HB.out GE140.out⟩⟩
         case round =>
          clear H'
          try clear c1
          try clear p1
          try clear q1
          try clear hx1
          try clear c2
          try clear p2
          try clear c4
          try clear c4b0
          try clear c4b1
          try clear c4b2
          try clear c6
          try clear c6b0
          try clear p6
          try clear c7
          try clear c7b0
          try clear c8
          try clear c8b0
          try clear c9
          try clear c9b0
          try clear c10
          try clear c10b0
          try clear c11
          try clear c11b0
          try clear c12
          try clear hcz13_0
          try clear hcz13_1
          try clear hcz13_10
          try clear hcz13_2
          try clear hcz13_3
          try clear hcz13_4
          try clear hcz13_5
          try clear hcz13_6
          try clear hcz13_7
          try clear hcz13_8
          try clear hcz13_9
          try clear hfz13_0
          try clear hfz13_1
          try clear hfz13_10
          try clear hfz13_2
          try clear hfz13_3
          try clear hfz13_4
          try clear hfz13_5
          try clear hfz13_6
          try clear hfz13_7
          try clear hfz13_8
          try clear hfz13_9
          try clear hx141_0
          try clear hx142_0
          try clear hx143_0
          try clear p1
          try clear p141
          try clear p142
          try clear p143
          try clear p2
          try clear p6
          try clear q1
          try clear q141
          try clear q142
          try clear q143
          obtain ⟨x10_3, x11_3, rfl, rfl, HA, HK3, BK140, HB⟩ := hrel; cases gk with
          | zero => exact absurd HA.out (by simp [tapearchiveref32_Admit.l2])
          | succ k3 =>
           have H := HA.out; clear HA; simp only [tapearchiveref32_Admit.l2] at H
           by_cases c14 : x11_3 < (l1.length : Int)
           ·
            rw [if_pos c14] at H; have c14b0 : decide (x11_3 < (l1.length : Int)) = true := de_ c14; clear c14
            by_cases c15 : 0 ≤ x11_3
            ·
             rw [if_pos c15] at H; have c15b0 : decide (0 ≤ x11_3) = true := de_ c15; clear c15
             by_cases c16 : 0 ≤ x9_2
             ·
              rw [if_pos c16] at H; have c16b0 : decide (0 ≤ x9_2) = true := de_ c16; clear c16
              by_cases c17 : x9_2 < (l1.length : Int)
              ·
               rw [if_pos c17] at H; have c17b0 : decide (x9_2 < (l1.length : Int)) = true := de_ c17; clear c17
               by_cases c18 : (rdOf ByteArray.empty l1 x11_3).toList = (rdOf ByteArray.empty l1 x9_2).toList
               ·
                rw [if_pos c18] at H; have c18b0 : ((rdOf ByteArray.empty l1 x11_3).toList == (rdOf ByteArray.empty l1 x9_2).toList) = true := beq_iff_eq.mpr c18; have c18b1 : ((rdOf ByteArray.empty l1 x11_3).toList != (rdOf ByteArray.empty l1 x9_2).toList) = false := bne_eq_false_iff_eq.mpr c18; clear c18
                by_cases c19 : x11_3 < (l2.length : Int)
                ·
                 rw [if_pos c19] at H; have c19b0 : decide (x11_3 < (l2.length : Int)) = true := de_ c19; clear c19; have H' := am_ H; clear H; have p145 : 0 ≤ (x11_3 : Int) := ot_ (by first | (with_reducible assumption) | assumption); have q145 : x11_3 < (l1.length : Int) := ot_ (by first | (with_reducible assumption) | assumption); obtain ⟨ad145, e145, hx145_0⟩ := Kd.at_string HR1.out x11_3 p145 q145; obtain rfl : ad143 = ad145 := (by injection e145); replace hx145_0 := (HB.out.cell (bk_ w _ hx145_0)).trans hx145_0; replace p145 := eq_true p145; replace q145 := eq_true q145; have p146 : 0 ≤ (x9_2 : Int) := ot_ (by first | (with_reducible assumption) | assumption); have q146 : x9_2 < (l1.length : Int) := ot_ (by first | (with_reducible assumption) | assumption); obtain ⟨ad146, e146, hx146_0⟩ := Kd.at_string HR1.out x9_2 p146 q146; obtain rfl : ad143 = ad146 := (by injection e146); replace hx146_0 := (HB.out.cell (bk_ w _ hx146_0)).trans hx146_0; replace p146 := eq_true p146; replace q146 := eq_true q146; have p147 : 0 ≤ (x11_3 : Int) := ot_ (by first | (with_reducible assumption) | assumption); have q147 : x11_3 < (l2.length : Int) := ot_ (by first | (with_reducible assumption) | assumption); obtain ⟨ad147, e147, hx147_0⟩ := Kd.at_int HR2.out x11_3 p147 q147; cases e147; replace hx147_0 := (HB.out.cell (bk_ w _ hx147_0)).trans hx147_0; replace p147 := eq_true p147; replace q147 := eq_true q147; go_wp2
                 repeat (go_quiet (fail); try go_wp2)
                 go_roundg k3
                 case measure => have := HK1.out; have := HK2.out; have := HK3.out; omega
                 case rel => exact ⟨(wrap64 (x10_3 + (rd l2 x11_3))), (wrap64 (x11_3 + 1)), (by first | rfl | (simp; done) | (simp [*]; done)), (by first | rfl | (simp; done) | (simp [*]; done)), H', ⟨by have := HK1.out; have := HK2.out; have := HK3.out; omega⟩, ⟨by (with_reducible repeat (first | refine bn_ ?_ _ | refine bd_ ?_ | refine ba_ ?_ _)); exact BK140.out⟩, ⟨pb1_ HB.out GE140.out⟩⟩
                ·
                 rw [if_neg c19] at H; exact absurd H (by simp)
               ·
                rw [if_neg c18] at H; have c18b0 : ((rdOf ByteArray.empty l1 x11_3).toList == (rdOf ByteArray.empty l1 x9_2).toList) = false := beq_eq_false_iff_ne.mpr c18; have c18b1 : ((rdOf ByteArray.empty l1 x11_3).toList != (rdOf ByteArray.empty l1 x9_2).toList) = true := bne_iff_ne.mpr c18; have H' := am_ H; clear H; have p145 : 0 ≤ (x11_3 : Int) := ot_ (by first | (with_reducible assumption) | assumption); have q145 : x11_3 < (l1.length : Int) := ot_ (by first | (with_reducible assumption) | assumption); obtain ⟨ad145, e145, hx145_0⟩ := Kd.at_string HR1.out x11_3 p145 q145; obtain rfl : ad143 = ad145 := (by injection e145); replace hx145_0 := (HB.out.cell (bk_ w _ hx145_0)).trans hx145_0; replace p145 := eq_true p145; replace q145 := eq_true q145; have p146 : 0 ≤ (x9_2 : Int) := ot_ (by first | (with_reducible assumption) | assumption); have q146 : x9_2 < (l1.length : Int) := ot_ (by first | (with_reducible assumption) | assumption); obtain ⟨ad146, e146, hx146_0⟩ := Kd.at_string HR1.out x9_2 p146 q146; obtain rfl : ad143 = ad146 := (by injection e146); replace hx146_0 := (HB.out.cell (bk_ w _ hx146_0)).trans hx146_0; replace p146 := eq_true p146; replace q146 := eq_true q146; go_wp2
                repeat (go_quiet (fail); try go_wp2)
                go_roundg k3
                case measure => have := HK1.out; have := HK2.out; have := HK3.out; omega
                case rel => exact ⟨(x10_3), (wrap64 (x11_3 + 1)), (by first | rfl | (simp; done) | (simp [*]; done)), (by first | rfl | (simp; done) | (simp [*]; done)), H', ⟨by have := HK1.out; have := HK2.out; have := HK3.out; omega⟩, ⟨by (with_reducible repeat (first | refine bn_ ?_ _ | refine bd_ ?_ | refine ba_ ?_ _)); exact BK140.out⟩, ⟨pb1_ HB.out GE140.out⟩⟩
              ·
               rw [if_neg c17] at H; exact absurd H (by simp)
             ·
              rw [if_neg c16] at H; exact absurd H (by simp)
            ·
             rw [if_neg c15] at H; exact absurd H (by simp)
           ·
            rw [if_neg c14] at H; have c14b0 : decide (x11_3 < (l1.length : Int)) = false := df_ c14; clear c14
            by_cases c20 : 0 ≤ x9_2
            ·
             rw [if_pos c20] at H; have c20b0 : decide (0 ≤ x9_2) = true := de_ c20; clear c20
             by_cases c21 : x9_2 < (l1.length : Int)
             ·
              rw [if_pos c21] at H; have c21b0 : decide (x9_2 < (l1.length : Int)) = true := de_ c21; clear c21; replace H := Option.bind_eq_some_iff.mp H; obtain ⟨⟨t149, t150⟩, A220, H⟩ := H; replace H : (if t150 = true then (if x10_3 > t149 then (some (x9_2, 20)) else (tapearchiveref32_Admit.l1 k3 l1 l2 (wrap64 (x9_2 + 1)) a0_0 a0_1 a0_2 l0_3 l0_4 l0_5 l0_6 l0_7 l0_8 l0_9 l0_10)) else (tapearchiveref32_Admit.l1 k3 l1 l2 (wrap64 (x9_2 + 1)) a0_0 a0_1 a0_2 l0_3 l0_4 l0_5 l0_6 l0_7 l0_8 l0_9 l0_10)) = some (r1, r2) := H; have A22 := am_ A220; clear A220
              by_cases c23 : t150 = true
              ·
               subst c23; have H1 : (if x10_3 > t149 then (some (x9_2, 20)) else (tapearchiveref32_Admit.l1 k3 l1 l2 (wrap64 (x9_2 + 1)) a0_0 a0_1 a0_2 l0_3 l0_4 l0_5 l0_6 l0_7 l0_8 l0_9 l0_10)) = some (r1, r2) := by rw [if_pos rfl] at H; exact H
               clear H; have H := H1; clear H1
               by_cases c24 : x10_3 > t149
               ·
                rw [if_pos c24] at H; have c24b0 : decide (t149 < x10_3) = true := de_ c24; clear c24; simp only [Option.some.injEq, Prod.mk.injEq] at H; obtain ⟨rfl, rfl⟩ := H; have hcz25_0 : wr.cell? ⟨gb140, 0, none⟩ = some (.int .i64 a0_0) := (bc_ BK140.out 0).trans rfl; have hcz25_1 : wr.cell? ⟨gb140, 1, none⟩ = some (.int .i64 a0_1) := (bc_ BK140.out 1).trans rfl; have hcz25_2 : wr.cell? ⟨gb140, 2, none⟩ = some (.int .i64 a0_2) := (bc_ BK140.out 2).trans rfl; have hcz25_3 : wr.cell? ⟨gb140, 3, none⟩ = some (.slice A0_3 l0_3.length c0_3) := (bc_ BK140.out 3).trans rfl; have hcz25_4 : wr.cell? ⟨gb140, 4, none⟩ = some (.slice A0_4 l0_4.length c0_4) := (bc_ BK140.out 4).trans rfl; have hcz25_5 : wr.cell? ⟨gb140, 5, none⟩ = some (.slice A0_5 l0_5.length c0_5) := (bc_ BK140.out 5).trans rfl; have hcz25_6 : wr.cell? ⟨gb140, 6, none⟩ = some (.slice A0_6 l0_6.length c0_6) := (bc_ BK140.out 6).trans rfl; have hcz25_7 : wr.cell? ⟨gb140, 7, none⟩ = some (.slice A0_7 l0_7.length c0_7) := (bc_ BK140.out 7).trans rfl; have hcz25_8 : wr.cell? ⟨gb140, 8, none⟩ = some (.slice A0_8 l0_8.length c0_8) := (bc_ BK140.out 8).trans rfl; have hcz25_9 : wr.cell? ⟨gb140, 9, none⟩ = some (.slice A0_9 l0_9.length c0_9) := (bc_ BK140.out 9).trans rfl; have hcz25_10 : wr.cell? ⟨gb140, 10, none⟩ = some (.slice A0_10 l0_10.length c0_10) := (bc_ BK140.out 10).trans rfl; have hfz25_0 := bf_ BK140.out 0; have hfz25_1 := bf_ BK140.out 1; have hfz25_2 := bf_ BK140.out 2; have hfz25_3 := bf_ BK140.out 3; have hfz25_4 := bf_ BK140.out 4; have hfz25_5 := bf_ BK140.out 5; have hfz25_6 := bf_ BK140.out 6; have hfz25_7 := bf_ BK140.out 7; have hfz25_8 := bf_ BK140.out 8; have hfz25_9 := bf_ BK140.out 9; have hfz25_10 := bf_ BK140.out 10; have p148 : 0 ≤ (x9_2 : Int) := ot_ (by first | (with_reducible assumption) | assumption); have q148 : x9_2 < (l1.length : Int) := ot_ (by first | (with_reducible assumption) | assumption); obtain ⟨ad148, e148, hx148_0⟩ := Kd.at_string HR1.out x9_2 p148 q148; obtain rfl : ad143 = ad148 := (by injection e148); replace hx148_0 := (HB.out.cell (bk_ w _ hx148_0)).trans hx148_0; replace p148 := eq_true p148; replace q148 := eq_true q148
                go_wp2_with (first | (go_at_call 18; (with_reducible refine (tapearchiveref32_Limit.calls k3 _ _ l0_9 (rdOf ByteArray.empty l1 x9_2) t149 true _ ?side1 ?side2 A22.out).mono ?_); (case side1 => repeat (first | exact (Kd.C_below HR0_9.out HB.out) | (with_reducible refine Kd.C_alloc ?_ _) | (with_reducible refine Kd.C_drewN ?_ _) | (with_reducible refine Kd.C_drew ?_))); (case side2 => exact HC0_9.out); rintro e w' ⟨rfl, ⟨nd, rfl⟩⟩; (try first | exact ⟨rfl, _, World.drewN_drewN _ _ _⟩ | exact ⟨rfl, _, Eq.trans (World.drewN_drewN _ _ _) (congrArg (World.drewN _) (Nat.add_assoc _ _ _))⟩)))
                repeat (go_quiet (first | (go_at_call 18; (with_reducible refine (tapearchiveref32_Limit.calls k3 _ _ l0_9 (rdOf ByteArray.empty l1 x9_2) t149 true _ ?side1 ?side2 A22.out).mono ?_); (case side1 => repeat (first | exact (Kd.C_below HR0_9.out HB.out) | (with_reducible refine Kd.C_alloc ?_ _) | (with_reducible refine Kd.C_drewN ?_ _) | (with_reducible refine Kd.C_drew ?_))); (case side2 => exact HC0_9.out); rintro e w' ⟨rfl, ⟨nd, rfl⟩⟩; (try first | exact ⟨rfl, _, World.drewN_drewN _ _ _⟩ | exact ⟨rfl, _, Eq.trans (World.drewN_drewN _ _ _) (congrArg (World.drewN _) (Nat.add_assoc _ _ _))⟩))); try go_wp2_with (first | (go_at_call 18; (with_reducible refine (tapearchiveref32_Limit.calls k3 _ _ l0_9 (rdOf ByteArray.empty l1 x9_2) t149 true _ ?side1 ?side2 A22.out).mono ?_); (case side1 => repeat (first | exact (Kd.C_below HR0_9.out HB.out) | (with_reducible refine Kd.C_alloc ?_ _) | (with_reducible refine Kd.C_drewN ?_ _) | (with_reducible refine Kd.C_drew ?_))); (case side2 => exact HC0_9.out); rintro e w' ⟨rfl, ⟨nd, rfl⟩⟩; (try first | exact ⟨rfl, _, World.drewN_drewN _ _ _⟩ | exact ⟨rfl, _, Eq.trans (World.drewN_drewN _ _ _) (congrArg (World.drewN _) (Nat.add_assoc _ _ _))⟩))))
                go_ret2; exact ⟨by first | rfl | (simp [errW_none, errW_some] <;> rfl) | (simp [*, errW_none, errW_some] <;> rfl), pb1_ HB.out GE140.out⟩
               ·
                rw [if_neg c24] at H; have c24b0 : decide (t149 < x10_3) = false := df_ c24; clear c24; have H' := am_ H; clear H; have hcz26_0 : wr.cell? ⟨gb140, 0, none⟩ = some (.int .i64 a0_0) := (bc_ BK140.out 0).trans rfl; have hcz26_1 : wr.cell? ⟨gb140, 1, none⟩ = some (.int .i64 a0_1) := (bc_ BK140.out 1).trans rfl; have hcz26_2 : wr.cell? ⟨gb140, 2, none⟩ = some (.int .i64 a0_2) := (bc_ BK140.out 2).trans rfl; have hcz26_3 : wr.cell? ⟨gb140, 3, none⟩ = some (.slice A0_3 l0_3.length c0_3) := (bc_ BK140.out 3).trans rfl; have hcz26_4 : wr.cell? ⟨gb140, 4, none⟩ = some (.slice A0_4 l0_4.length c0_4) := (bc_ BK140.out 4).trans rfl; have hcz26_5 : wr.cell? ⟨gb140, 5, none⟩ = some (.slice A0_5 l0_5.length c0_5) := (bc_ BK140.out 5).trans rfl; have hcz26_6 : wr.cell? ⟨gb140, 6, none⟩ = some (.slice A0_6 l0_6.length c0_6) := (bc_ BK140.out 6).trans rfl; have hcz26_7 : wr.cell? ⟨gb140, 7, none⟩ = some (.slice A0_7 l0_7.length c0_7) := (bc_ BK140.out 7).trans rfl; have hcz26_8 : wr.cell? ⟨gb140, 8, none⟩ = some (.slice A0_8 l0_8.length c0_8) := (bc_ BK140.out 8).trans rfl; have hcz26_9 : wr.cell? ⟨gb140, 9, none⟩ = some (.slice A0_9 l0_9.length c0_9) := (bc_ BK140.out 9).trans rfl; have hcz26_10 : wr.cell? ⟨gb140, 10, none⟩ = some (.slice A0_10 l0_10.length c0_10) := (bc_ BK140.out 10).trans rfl; have hfz26_0 := bf_ BK140.out 0; have hfz26_1 := bf_ BK140.out 1; have hfz26_2 := bf_ BK140.out 2; have hfz26_3 := bf_ BK140.out 3; have hfz26_4 := bf_ BK140.out 4; have hfz26_5 := bf_ BK140.out 5; have hfz26_6 := bf_ BK140.out 6; have hfz26_7 := bf_ BK140.out 7; have hfz26_8 := bf_ BK140.out 8; have hfz26_9 := bf_ BK140.out 9; have hfz26_10 := bf_ BK140.out 10; have p148 : 0 ≤ (x9_2 : Int) := ot_ (by first | (with_reducible assumption) | assumption); have q148 : x9_2 < (l1.length : Int) := ot_ (by first | (with_reducible assumption) | assumption); obtain ⟨ad148, e148, hx148_0⟩ := Kd.at_string HR1.out x9_2 p148 q148; obtain rfl : ad143 = ad148 := (by injection e148); replace hx148_0 := (HB.out.cell (bk_ w _ hx148_0)).trans hx148_0; replace p148 := eq_true p148; replace q148 := eq_true q148
                go_wp2_with (first | (go_at_call 18; (with_reducible refine (tapearchiveref32_Limit.calls k3 _ _ l0_9 (rdOf ByteArray.empty l1 x9_2) t149 true _ ?side1 ?side2 A22.out).mono ?_); (case side1 => repeat (first | exact (Kd.C_below HR0_9.out HB.out) | (with_reducible refine Kd.C_alloc ?_ _) | (with_reducible refine Kd.C_drewN ?_ _) | (with_reducible refine Kd.C_drew ?_))); (case side2 => exact HC0_9.out); rintro e w' ⟨rfl, ⟨nd, rfl⟩⟩; (try first | exact ⟨rfl, _, World.drewN_drewN _ _ _⟩ | exact ⟨rfl, _, Eq.trans (World.drewN_drewN _ _ _) (congrArg (World.drewN _) (Nat.add_assoc _ _ _))⟩)))
                repeat (go_quiet (first | (go_at_call 18; (with_reducible refine (tapearchiveref32_Limit.calls k3 _ _ l0_9 (rdOf ByteArray.empty l1 x9_2) t149 true _ ?side1 ?side2 A22.out).mono ?_); (case side1 => repeat (first | exact (Kd.C_below HR0_9.out HB.out) | (with_reducible refine Kd.C_alloc ?_ _) | (with_reducible refine Kd.C_drewN ?_ _) | (with_reducible refine Kd.C_drew ?_))); (case side2 => exact HC0_9.out); rintro e w' ⟨rfl, ⟨nd, rfl⟩⟩; (try first | exact ⟨rfl, _, World.drewN_drewN _ _ _⟩ | exact ⟨rfl, _, Eq.trans (World.drewN_drewN _ _ _) (congrArg (World.drewN _) (Nat.add_assoc _ _ _))⟩))); try go_wp2_with (first | (go_at_call 18; (with_reducible refine (tapearchiveref32_Limit.calls k3 _ _ l0_9 (rdOf ByteArray.empty l1 x9_2) t149 true _ ?side1 ?side2 A22.out).mono ?_); (case side1 => repeat (first | exact (Kd.C_below HR0_9.out HB.out) | (with_reducible refine Kd.C_alloc ?_ _) | (with_reducible refine Kd.C_drewN ?_ _) | (with_reducible refine Kd.C_drew ?_))); (case side2 => exact HC0_9.out); rintro e w' ⟨rfl, ⟨nd, rfl⟩⟩; (try first | exact ⟨rfl, _, World.drewN_drewN _ _ _⟩ | exact ⟨rfl, _, Eq.trans (World.drewN_drewN _ _ _) (congrArg (World.drewN _) (Nat.add_assoc _ _ _))⟩))))
                go_roundg k3
                case measure => have := HK1.out; have := HK2.out; have := HK3.out; omega
                case rel => exact ⟨(wrap64 (x9_2 + 1)), (by first | rfl | (simp; done) | (simp [*]; done)), H', ⟨by have := HK1.out; have := HK2.out; have := HK3.out; omega⟩, ⟨by (with_reducible repeat (first | refine bn_ ?_ _ | refine bd_ ?_ | refine ba_ ?_ _)); exact BK140.out⟩, ⟨pb1_ HB.out GE140.out⟩⟩
              ·
               replace c23 := Bool.eq_false_iff.mpr c23; subst c23; have H1 : (tapearchiveref32_Admit.l1 k3 l1 l2 (wrap64 (x9_2 + 1)) a0_0 a0_1 a0_2 l0_3 l0_4 l0_5 l0_6 l0_7 l0_8 l0_9 l0_10) = some (r1, r2) := by rw [if_neg (show ¬ (false = true) by decide)] at H; exact H
               clear H; have H := H1; clear H1; have H' := am_ H; clear H; have hcz27_0 : wr.cell? ⟨gb140, 0, none⟩ = some (.int .i64 a0_0) := (bc_ BK140.out 0).trans rfl; have hcz27_1 : wr.cell? ⟨gb140, 1, none⟩ = some (.int .i64 a0_1) := (bc_ BK140.out 1).trans rfl; have hcz27_2 : wr.cell? ⟨gb140, 2, none⟩ = some (.int .i64 a0_2) := (bc_ BK140.out 2).trans rfl; have hcz27_3 : wr.cell? ⟨gb140, 3, none⟩ = some (.slice A0_3 l0_3.length c0_3) := (bc_ BK140.out 3).trans rfl; have hcz27_4 : wr.cell? ⟨gb140, 4, none⟩ = some (.slice A0_4 l0_4.length c0_4) := (bc_ BK140.out 4).trans rfl; have hcz27_5 : wr.cell? ⟨gb140, 5, none⟩ = some (.slice A0_5 l0_5.length c0_5) := (bc_ BK140.out 5).trans rfl; have hcz27_6 : wr.cell? ⟨gb140, 6, none⟩ = some (.slice A0_6 l0_6.length c0_6) := (bc_ BK140.out 6).trans rfl; have hcz27_7 : wr.cell? ⟨gb140, 7, none⟩ = some (.slice A0_7 l0_7.length c0_7) := (bc_ BK140.out 7).trans rfl; have hcz27_8 : wr.cell? ⟨gb140, 8, none⟩ = some (.slice A0_8 l0_8.length c0_8) := (bc_ BK140.out 8).trans rfl; have hcz27_9 : wr.cell? ⟨gb140, 9, none⟩ = some (.slice A0_9 l0_9.length c0_9) := (bc_ BK140.out 9).trans rfl; have hcz27_10 : wr.cell? ⟨gb140, 10, none⟩ = some (.slice A0_10 l0_10.length c0_10) := (bc_ BK140.out 10).trans rfl; have hfz27_0 := bf_ BK140.out 0; have hfz27_1 := bf_ BK140.out 1; have hfz27_2 := bf_ BK140.out 2; have hfz27_3 := bf_ BK140.out 3; have hfz27_4 := bf_ BK140.out 4; have hfz27_5 := bf_ BK140.out 5; have hfz27_6 := bf_ BK140.out 6; have hfz27_7 := bf_ BK140.out 7; have hfz27_8 := bf_ BK140.out 8; have hfz27_9 := bf_ BK140.out 9; have hfz27_10 := bf_ BK140.out 10; have p148 : 0 ≤ (x9_2 : Int) := ot_ (by first | (with_reducible assumption) | assumption); have q148 : x9_2 < (l1.length : Int) := ot_ (by first | (with_reducible assumption) | assumption); obtain ⟨ad148, e148, hx148_0⟩ := Kd.at_string HR1.out x9_2 p148 q148; obtain rfl : ad143 = ad148 := (by injection e148); replace hx148_0 := (HB.out.cell (bk_ w _ hx148_0)).trans hx148_0; replace p148 := eq_true p148; replace q148 := eq_true q148
               go_wp2_with (first | (go_at_call 18; (with_reducible refine (tapearchiveref32_Limit.calls k3 _ _ l0_9 (rdOf ByteArray.empty l1 x9_2) t149 false _ ?side1 ?side2 A22.out).mono ?_); (case side1 => repeat (first | exact (Kd.C_below HR0_9.out HB.out) | (with_reducible refine Kd.C_alloc ?_ _) | (with_reducible refine Kd.C_drewN ?_ _) | (with_reducible refine Kd.C_drew ?_))); (case side2 => exact HC0_9.out); rintro e w' ⟨rfl, ⟨nd, rfl⟩⟩; (try first | exact ⟨rfl, _, World.drewN_drewN _ _ _⟩ | exact ⟨rfl, _, Eq.trans (World.drewN_drewN _ _ _) (congrArg (World.drewN _) (Nat.add_assoc _ _ _))⟩)))
               repeat (go_quiet (first | (go_at_call 18; (with_reducible refine (tapearchiveref32_Limit.calls k3 _ _ l0_9 (rdOf ByteArray.empty l1 x9_2) t149 false _ ?side1 ?side2 A22.out).mono ?_); (case side1 => repeat (first | exact (Kd.C_below HR0_9.out HB.out) | (with_reducible refine Kd.C_alloc ?_ _) | (with_reducible refine Kd.C_drewN ?_ _) | (with_reducible refine Kd.C_drew ?_))); (case side2 => exact HC0_9.out); rintro e w' ⟨rfl, ⟨nd, rfl⟩⟩; (try first | exact ⟨rfl, _, World.drewN_drewN _ _ _⟩ | exact ⟨rfl, _, Eq.trans (World.drewN_drewN _ _ _) (congrArg (World.drewN _) (Nat.add_assoc _ _ _))⟩))); try go_wp2_with (first | (go_at_call 18; (with_reducible refine (tapearchiveref32_Limit.calls k3 _ _ l0_9 (rdOf ByteArray.empty l1 x9_2) t149 false _ ?side1 ?side2 A22.out).mono ?_); (case side1 => repeat (first | exact (Kd.C_below HR0_9.out HB.out) | (with_reducible refine Kd.C_alloc ?_ _) | (with_reducible refine Kd.C_drewN ?_ _) | (with_reducible refine Kd.C_drew ?_))); (case side2 => exact HC0_9.out); rintro e w' ⟨rfl, ⟨nd, rfl⟩⟩; (try first | exact ⟨rfl, _, World.drewN_drewN _ _ _⟩ | exact ⟨rfl, _, Eq.trans (World.drewN_drewN _ _ _) (congrArg (World.drewN _) (Nat.add_assoc _ _ _))⟩))))
               go_roundg k3
               case measure => have := HK1.out; have := HK2.out; have := HK3.out; omega
               case rel => exact ⟨(wrap64 (x9_2 + 1)), (by first | rfl | (simp; done) | (simp [*]; done)), H', ⟨by have := HK1.out; have := HK2.out; have := HK3.out; omega⟩, ⟨by (with_reducible repeat (first | refine bn_ ?_ _ | refine bd_ ?_ | refine ba_ ?_ _)); exact BK140.out⟩, ⟨pb1_ HB.out GE140.out⟩⟩
             ·
              rw [if_neg c21] at H; exact absurd H (by simp)
            ·
             rw [if_neg c20] at H; exact absurd H (by simp)
        ·
         rw [if_neg c11] at H; exact absurd H (by simp)
       ·
        rw [if_neg c10] at H; have c10b0 : decide (x9_2 < (l1.length : Int)) = false := df_ c10; clear c10; simp only [Option.some.injEq, Prod.mk.injEq] at H; obtain ⟨rfl, rfl⟩ := H; go_wp2
        repeat (go_quiet (fail); try go_wp2)
        go_ret2; exact ⟨by first | rfl | (simp [errW_none, errW_some] <;> rfl) | (simp [*, errW_none, errW_some] <;> rfl), pb1_ HB.out GE140.out⟩
 ·
  rw [if_neg c4] at H; have c4b0 : ((l1.length : Int) == (l2.length : Int)) = false := beq_eq_false_iff_ne.mpr c4; have c4b1 : ((l1.length : Int) != (l2.length : Int)) = true := bne_iff_ne.mpr c4; have c4b2 : (l1.length == l2.length) = false := by first | simpa using c4 | (simp at c4 ⊢; omega)
  simp only [Option.some.injEq, Prod.mk.injEq] at H; obtain ⟨rfl, rfl⟩ := H; go_enter Try.func12, Try.ntmps12
  go_wp2_with (first | ((with_reducible refine gate_dst (N := 3) rfl ?_); refine box_event ?hg (N := 3) ?hd (cs := #[.int .i64 a0_0, .int .i64 a0_1, .int .i64 a0_2, .slice A0_3 l0_3.length c0_3, .slice A0_4 l0_4.length c0_4, .slice A0_5 l0_5.length c0_5, .slice A0_6 l0_6.length c0_6, .slice A0_7 l0_7.length c0_7, .slice A0_8 l0_8.length c0_8, .slice A0_9 l0_9.length c0_9, .slice A0_10 l0_10.length c0_10]) (t := 31) ?hr ?_; (case hd => rfl); (case hg => rfl); (case hr => first | (go_simp; done) | (go_simp; rfl)); intro gb140 hg w28 hbox hb; have n0_ := am_ (sp_ (pb0_ HB.out) hb); have n1_ := am_ (hbox); have n2_ := am_ ((by rw [hg]; exact (bz_ (pb0_ HB.out)) : w.heap.size ≤ gb140)); have n3_ := am_ ((by rw [hg]; exact (bz_ (pb0_ HB.out)) : w.heap.size ≤ gb140)); clear HB; have HB := n0_; have BK140 := n1_; have GW140 := n2_; have GE140 := n3_; clear n0_ n1_ n2_ n3_; clear hb hbox hg))
  repeat (go_quiet (first | ((with_reducible refine gate_dst (N := 3) rfl ?_); refine box_event ?hg (N := 3) ?hd (cs := #[.int .i64 a0_0, .int .i64 a0_1, .int .i64 a0_2, .slice A0_3 l0_3.length c0_3, .slice A0_4 l0_4.length c0_4, .slice A0_5 l0_5.length c0_5, .slice A0_6 l0_6.length c0_6, .slice A0_7 l0_7.length c0_7, .slice A0_8 l0_8.length c0_8, .slice A0_9 l0_9.length c0_9, .slice A0_10 l0_10.length c0_10]) (t := 31) ?hr ?_; (case hd => rfl); (case hg => rfl); (case hr => first | (go_simp; done) | (go_simp; rfl)); intro gb140 hg w28 hbox hb; have n0_ := am_ (sp_ (pb0_ HB.out) hb); have n1_ := am_ (hbox); have n2_ := am_ ((by rw [hg]; exact (bz_ (pb0_ HB.out)) : w.heap.size ≤ gb140)); have n3_ := am_ ((by rw [hg]; exact (bz_ (pb0_ HB.out)) : w.heap.size ≤ gb140)); clear HB; have HB := n0_; have BK140 := n1_; have GW140 := n2_; have GE140 := n3_; clear n0_ n1_ n2_ n3_; clear hb hbox hg)); try go_wp2_with (first | ((with_reducible refine gate_dst (N := 3) rfl ?_); refine box_event ?hg (N := 3) ?hd (cs := #[.int .i64 a0_0, .int .i64 a0_1, .int .i64 a0_2, .slice A0_3 l0_3.length c0_3, .slice A0_4 l0_4.length c0_4, .slice A0_5 l0_5.length c0_5, .slice A0_6 l0_6.length c0_6, .slice A0_7 l0_7.length c0_7, .slice A0_8 l0_8.length c0_8, .slice A0_9 l0_9.length c0_9, .slice A0_10 l0_10.length c0_10]) (t := 31) ?hr ?_; (case hd => rfl); (case hg => rfl); (case hr => first | (go_simp; done) | (go_simp; rfl)); intro gb140 hg w28 hbox hb; have n0_ := am_ (sp_ (pb0_ HB.out) hb); have n1_ := am_ (hbox); have n2_ := am_ ((by rw [hg]; exact (bz_ (pb0_ HB.out)) : w.heap.size ≤ gb140)); have n3_ := am_ ((by rw [hg]; exact (bz_ (pb0_ HB.out)) : w.heap.size ≤ gb140)); clear HB; have HB := n0_; have BK140 := n1_; have GW140 := n2_; have GE140 := n3_; clear n0_ n1_ n2_ n3_; clear hb hbox hg)))
  go_ret2; exact ⟨by first | rfl | (simp [errW_none, errW_some] <;> rfl) | (simp [*, errW_none, errW_some] <;> rfl), pb1_ HB.out GE140.out⟩
def quota_number.f (a0 : Int) : Option (Bool) := if a0 ≥ 0 then (some (decide (a0 ≤ 1125899906842624))) else (some false)
set_option maxHeartbeats 8000000 in
set_option maxRecDepth 100000 in
theorem quota_number.calls (a0 : Int) (r : Bool) (w : World) (h : quota_number.f a0 = some r) :
  Calls Try.prog 27 #[.int .i64 a0] w fun e w' => e = .returned (.bool r) ∧ Drawn0 w w' := by
 have H : (if a0 ≥ 0 then (some (decide (a0 ≤ 1125899906842624))) else (some false)) = some r := h; clear h
 by_cases c2 : a0 ≥ 0
 ·
  rw [if_pos c2] at H; have c2b0 : decide (0 ≤ a0) = true := de_ c2; clear c2; obtain rfl := si_ H; go_enter Try.func27, Try.ntmps27; go_wp2; go_ret; exact ⟨by first | rfl | (simp; done) | (simp [*]; done), by repeat (first | exact Drawn0.refl _ | apply Drawn0.step)⟩
 ·
  rw [if_neg c2] at H; have c2b0 : decide (0 ≤ a0) = false := df_ c2; clear c2; obtain rfl := si_ H; go_enter Try.func27, Try.ntmps27; go_wp2; go_ret; exact ⟨by first | rfl | (simp; done) | (simp [*]; done), by repeat (first | exact Drawn0.refl _ | apply Drawn0.step)⟩
def quota_sum.l0 : Nat → Int → List Int → Int → Int → Option (Int × Bool)
 | 0, _, _, _, _ => none
 | k + 1, x4, x7, x8, x9 => if x9 < x8 then (if 0 ≤ x9 then (if x9 < (x7.length : Int) then ((quota_number.f (rd x7 x9)).bind fun t152 => (if t152 = true then ((quota_number.f (wrap64 (x4 + (rd x7 x9)))).bind fun t153 => (if t153 = true then (quota_sum.l0 k (wrap64 (x4 + (rd x7 x9))) x7 x8 (wrap64 (x9 + 1))) else (some (0, false)))) else (some (0, false)))) else (none)) else (none)) else (some (x4, true))
def quota_sum.f (k : Nat) (l0 : List Int) : Option (Int × Bool) := quota_sum.l0 k 0 l0 (l0.length : Int) 0
set_option maxHeartbeats 8000000 in
set_option maxRecDepth 100000 in
theorem quota_sum.calls (k : Nat) (A0 : Option Addr) (c0 : Nat) (l0 : List Int) (r1 : Int) (r2 : Bool) (w : World) (hr0 : Kd.C (Kd.int .i64) w A0 l0.length l0) (hc0 : l0.length ≤ c0) (h : quota_sum.f k l0 = some (r1, r2)) :
  Calls Try.prog 31 #[.slice A0 l0.length c0] w fun e w' => e = .returned (.tuple #[.int .i64 r1, .bool r2]) ∧ Drawn0 w w' := by
 have HR0 := am_ hr0; have HC0 := am_ hc0; clear hr0 hc0; have H : (quota_sum.l0 k 0 l0 (l0.length : Int) 0) = some (r1, r2) := h; clear h; have H' := am_ H; clear H; go_enter Try.func31, Try.ntmps31; go_wp2
 go_loopg [4, 9] k (fun kq v4 v9 w' => ∃ (x4_1 : Int) (x9_1 : Int), v4 = .int .i64 x4_1 ∧ v9 = .int .i64 x9_1 ∧ Aside0 (quota_sum.l0 kq x4_1 l0 (l0.length : Int) x9_1 = some (r1, r2)) ∧ Aside0 (kq ≤ k) ∧ Drawn0 w w')
 case atStart => exact ⟨(0), (0), (by first | rfl | (simp; done) | (simp [*]; done)), (by first | rfl | (simp; done) | (simp [*]; done)), H', ⟨Nat.le_refl _⟩, by repeat (first | exact Drawn0.refl _ | apply Drawn0.step)⟩
 case round =>
  clear H'; obtain ⟨x4_1, x9_1, rfl, rfl, HA, HK1, ⟨m1, rfl⟩⟩ := hrel; cases gk with
  | zero => exact absurd HA.out (by simp [quota_sum.l0])
  | succ k1 =>
   have H := HA.out; clear HA; simp only [quota_sum.l0] at H
   by_cases c2 : x9_1 < (l0.length : Int)
   ·
    rw [if_pos c2] at H; have c2b0 : decide (x9_1 < (l0.length : Int)) = true := de_ c2; clear c2
    by_cases c3 : 0 ≤ x9_1
    ·
     rw [if_pos c3] at H; have c3b0 : decide (0 ≤ x9_1) = true := de_ c3; clear c3
     by_cases c4 : x9_1 < (l0.length : Int)
     ·
      rw [if_pos c4] at H; have c4b0 : decide (x9_1 < (l0.length : Int)) = true := de_ c4; clear c4; replace H := Option.bind_eq_some_iff.mp H; obtain ⟨t152, A50, H⟩ := H; replace H : (if t152 = true then ((quota_number.f (wrap64 (x4_1 + (rd l0 x9_1)))).bind fun t153 => (if t153 = true then (quota_sum.l0 k1 (wrap64 (x4_1 + (rd l0 x9_1))) l0 (l0.length : Int) (wrap64 (x9_1 + 1))) else (some (0, false)))) else (some (0, false))) = some (r1, r2) := H; have A5 := am_ A50; clear A50
      by_cases c6 : t152 = true
      ·
       subst c6; have H1 : ((quota_number.f (wrap64 (x4_1 + (rd l0 x9_1)))).bind fun t153 => (if t153 = true then (quota_sum.l0 k1 (wrap64 (x4_1 + (rd l0 x9_1))) l0 (l0.length : Int) (wrap64 (x9_1 + 1))) else (some (0, false)))) = some (r1, r2) := by rw [if_pos rfl] at H; exact H
       clear H; have H := H1; clear H1; replace H := Option.bind_eq_some_iff.mp H; obtain ⟨t153, A70, H⟩ := H; replace H : (if t153 = true then (quota_sum.l0 k1 (wrap64 (x4_1 + (rd l0 x9_1))) l0 (l0.length : Int) (wrap64 (x9_1 + 1))) else (some (0, false))) = some (r1, r2) := H; have A7 := am_ A70; clear A70
       by_cases c8 : t153 = true
       ·
        subst c8; have H1 : (quota_sum.l0 k1 (wrap64 (x4_1 + (rd l0 x9_1))) l0 (l0.length : Int) (wrap64 (x9_1 + 1))) = some (r1, r2) := by rw [if_pos rfl] at H; exact H
        clear H; have H := H1; clear H1; have H' := am_ H; clear H; have p151 : 0 ≤ (x9_1 : Int) := ot_ (by first | (with_reducible assumption) | assumption); have q151 : x9_1 < (l0.length : Int) := ot_ (by first | (with_reducible assumption) | assumption); obtain ⟨ad151, e151, hx151_0⟩ := Kd.at_int HR0.out x9_1 p151 q151; cases e151; replace p151 := eq_true p151; replace q151 := eq_true q151
        go_wp2_with (first | ((with_reducible refine gate_callee (f := 27) rfl ?_); refine goesL_ (some 14) rfl rfl Try.func27 (by kernel_rfl) rfl #[.int .i64 (rd l0 x9_1)] rfl au_ ?_; (with_reducible refine (quota_number.calls (rd l0 x9_1) true _ A5.out).mono ?_); rintro e w' ⟨rfl, ⟨nd, rfl⟩⟩; refine ⟨_, rfl, ?_⟩) | (go_at_call 27; (with_reducible refine (quota_number.calls (wrap64 (x4_1 + (rd l0 x9_1))) true _ A7.out).mono ?_); rintro e w' ⟨rfl, ⟨nd, rfl⟩⟩))
        go_roundg k1
        case measure => have := HK1.out; omega
        case rel => exact ⟨(wrap64 (x4_1 + (rd l0 x9_1))), (wrap64 (x9_1 + 1)), (by first | rfl | (simp; done) | (simp [*]; done)), (by first | rfl | (simp; done) | (simp [*]; done)), H', ⟨by have := HK1.out; omega⟩, by repeat (first | exact Drawn0.refl _ | apply Drawn0.step)⟩
       ·
        replace c8 := Bool.eq_false_iff.mpr c8; subst c8; have H1 : (some (0, false)) = some (r1, r2) := by rw [if_neg (show ¬ (false = true) by decide)] at H; exact H
        clear H; have H := H1; clear H1; simp only [Option.some.injEq, Prod.mk.injEq] at H; obtain ⟨rfl, rfl⟩ := H; have p151 : 0 ≤ (x9_1 : Int) := ot_ (by first | (with_reducible assumption) | assumption); have q151 : x9_1 < (l0.length : Int) := ot_ (by first | (with_reducible assumption) | assumption); obtain ⟨ad151, e151, hx151_0⟩ := Kd.at_int HR0.out x9_1 p151 q151; cases e151; replace p151 := eq_true p151; replace q151 := eq_true q151
        go_wp2_with (first | ((with_reducible refine gate_callee (f := 27) rfl ?_); refine goesL_ (some 14) rfl rfl Try.func27 (by kernel_rfl) rfl #[.int .i64 (rd l0 x9_1)] rfl au_ ?_; (with_reducible refine (quota_number.calls (rd l0 x9_1) true _ A5.out).mono ?_); rintro e w' ⟨rfl, ⟨nd, rfl⟩⟩; refine ⟨_, rfl, ?_⟩) | (go_at_call 27; (with_reducible refine (quota_number.calls (wrap64 (x4_1 + (rd l0 x9_1))) false _ A7.out).mono ?_); rintro e w' ⟨rfl, ⟨nd, rfl⟩⟩))
        go_ret2; exact ⟨by first | rfl | (simp; done) | (simp [*]; done), by repeat (first | exact Drawn0.refl _ | apply Drawn0.step)⟩
      ·
       replace c6 := Bool.eq_false_iff.mpr c6; subst c6; have H1 : (some (0, false)) = some (r1, r2) := by rw [if_neg (show ¬ (false = true) by decide)] at H; exact H
       clear H; have H := H1; clear H1; simp only [Option.some.injEq, Prod.mk.injEq] at H; obtain ⟨rfl, rfl⟩ := H; have p151 : 0 ≤ (x9_1 : Int) := ot_ (by first | (with_reducible assumption) | assumption); have q151 : x9_1 < (l0.length : Int) := ot_ (by first | (with_reducible assumption) | assumption); obtain ⟨ad151, e151, hx151_0⟩ := Kd.at_int HR0.out x9_1 p151 q151; cases e151; replace p151 := eq_true p151; replace q151 := eq_true q151
       go_wp2_with (first | ((with_reducible refine gate_callee (f := 27) rfl ?_); refine goesL_ (some 14) rfl rfl Try.func27 (by kernel_rfl) rfl #[.int .i64 (rd l0 x9_1)] rfl au_ ?_; (with_reducible refine (quota_number.calls (rd l0 x9_1) false _ A5.out).mono ?_); rintro e w' ⟨rfl, ⟨nd, rfl⟩⟩; refine ⟨_, rfl, ?_⟩))
       go_ret2; exact ⟨by first | rfl | (simp; done) | (simp [*]; done), by repeat (first | exact Drawn0.refl _ | apply Drawn0.step)⟩
     ·
      rw [if_neg c4] at H; exact absurd H (by simp)
    ·
     rw [if_neg c3] at H; exact absurd H (by simp)
   ·
    rw [if_neg c2] at H; have c2b0 : decide (x9_1 < (l0.length : Int)) = false := df_ c2; clear c2; simp only [Option.some.injEq, Prod.mk.injEq] at H; obtain ⟨rfl, rfl⟩ := H; go_wp2; go_ret2; exact ⟨by first | rfl | (simp; done) | (simp [*]; done), by repeat (first | exact Drawn0.refl _ | apply Drawn0.step)⟩
end Go.Proofs.Ytbadelcnaeijkaa.Q
end
section
namespace Go.Proofs.Ytbadelcnaeijkaa.Q
open Go.RowKit Go.Proofs.YtbadelcnaeijkaaW.PrintWords Go.Proofs.YtbadelcnaeijkaaW.PrintLast Go.Proofs.YtbadelcnaeijkaaW.PrintMore
attribute [local go_sem] max2_int min2_int max_two min_two max_three min_three max_four min_four
attribute [local go_sem ↓] isSome_setCell
attribute [local go_sem] string_gtr
set_option linter.unusedVariables false
set_option linter.unusedSimpArgs false
def RowAt (W : World) (b n t : Nat) (f : Nat → Value) : Prop := ∃ cs, W.heap[b]? = some (.cells cs t (0, 0)) ∧ cs.size = n ∧ ∀ j, j < n → cs[j]? = some (f j)
section
variable {W W' : World} {b n t : Nat} {f g : Nat → Value}
theorem RowAt.cell (h : RowAt W b n t f) (j : Nat) (hj : j < n) : W.cell? ⟨b, j, none⟩ = some (f j) := by
  obtain ⟨cs, h1, h2, h3⟩ := h
  unfold World.cell?
  rw [h1]
  exact h3 j hj
theorem RowAt.frozen (h : RowAt W b n t f) (j : Nat) : W.frozen? ⟨b, j, none⟩ = false := by
  obtain ⟨cs, h1, h2, h3⟩ := h
  unfold World.frozen?
  rw [h1]
  simp
theorem RowAt.congr (h : RowAt W b n t f) (e : ∀ j, j < n → f j = g j) : RowAt W b n t g := by
  obtain ⟨cs, h1, h2, h3⟩ := h
  exact ⟨cs, h1, h2, fun j hj => by rw [h3 j hj, e j hj]⟩
theorem RowAt.heap (h : RowAt W b n t f) (e : W'.heap[b]? = W.heap[b]?) : RowAt W' b n t f := by
  obtain ⟨cs, h1, h2, h3⟩ := h
  exact ⟨cs, e.trans h1, h2, h3⟩
theorem RowAt.set (h : RowAt W b n t f) (i : Nat) (v : Value) : RowAt (W.setCell ⟨b, i, none⟩ v) b n t (fun j => if j = i then v else f j) := by
  obtain ⟨cs, h1, h2, h3⟩ := h
  refine ⟨cs.setIfInBounds i v, ?_, by rw [Array.size_setIfInBounds, h2], fun j hj => ?_⟩
  · show (W.heap.modify b _)[b]? = _
    rw [Array.getElem?_modify, if_pos rfl, h1]
    rfl
  · rw [Array.getElem?_setIfInBounds]
    by_cases e : i = j
    · subst e
      rw [if_pos rfl, if_pos (by omega)]
      show some v = some (if i = i then v else f i)
      rw [if_pos rfl]
    · rw [if_neg e]
      show _ = some (if j = i then v else f j)
      rw [if_neg (fun x => e x.symm)]
      exact h3 j hj
theorem RowAt.other (h : RowAt W b n t f) (p : Nat) (i : Nat) (v : Value) (hp : b ≠ p) : RowAt (W.setCell ⟨p, i, none⟩ v) b n t f := h.heap (Below.heap_setCell W ⟨p, i, none⟩ v b hp)
theorem RowAt.draw (h : RowAt W b n t f) (m : Nat) : RowAt (W.drewN m) b n t f := h.heap rfl
theorem RowAt.alloc (h : RowAt W b n t f) (o : Obj) : RowAt (W.alloc o) b n t f := h.heap (Below.heap_alloc W o b (by obtain ⟨cs, h1, _⟩ := h; exact (Array.getElem?_eq_some_iff.1 h1).1))
end
set_option maxRecDepth 100000 in
theorem wp_make {W : World} {ops : Array Oper} {rest : List Oper} {o : Oper} {a : Act} {Q : Exit → Act → World → Prop}
    (hg : o.guard = none) (x : Operand) (t e : Nat) (hop : o.op = .makeSlice t x x) (n : Nat) (hx : a.eval x = .int .i64 n) (hn : n ≤ 1000000000)
    (ht : Try.prog.underlying t = some (.slice e)) (z : Value) (hinfo : (Try.prog.info? e).map (fun i => (i.zero, i.size, i.bytes)) = some (some z, 1, 8)) (hz : z.cells = #[z])
    (h : ∀ s W', s = W.heap.size → RowAt W' s n e (fun _ => z) → W'.heap.size = s + 1 → Below s W W' → wpList Try.prog ops Q rest (a.put o.dst (.slice (some ⟨s, 0, none⟩) n n)) W') :
    wpList Try.prog ops Q (o :: rest) a W := by
  obtain ⟨i0, hi, hzz⟩ := Option.map_eq_some_iff.1 hinfo
  simp only [Prod.mk.injEq] at hzz
  obtain ⟨hz0, hz1, hz2⟩ := hzz
  have hr := run_make (P := Try.prog) W t e i0 z ht hi hz0 .i64 .i64 (n : Int) (n : Int) (by omega) (by omega) (by rw [hz2]; omega) (by omega)
  simp only [Int.toNat_natCast] at hr
  rw [hz1, Nat.mul_one] at hr
  refine Kd.event_run hg (by simp [execOp, hop, hx, hr]) (h _ _ rfl ⟨madeCells z.cells n, blk_new W _, ?_, ?_⟩ ?_ (below_alloc (Below.refl _ _) _))
  · simp [madeCells]
  · intro j hj
    simp [madeCells, hz, hj, Nat.mod_one]
  · show (W.heap.push _).size = _
    rw [Array.size_push]
end Go.Proofs.Ytbadelcnaeijkaa.Q
end
