import Derived.Test.YtbigcpjlahkggaaKReplicaElects13
set_option linter.unusedVariables false
set_option linter.unusedSimpArgs false
namespace Go.Proofs.Ytbigcpjlahkggaa.Q
open Go.RowKit Go.Proofs.YtbigcpjlahkggaaW.PrintWords Go.Proofs.YtbigcpjlahkggaaW.PrintLast Go.Proofs.YtbigcpjlahkggaaW.PrintMore
attribute [local go_sem] max2_int min2_int max_two min_two max_three min_three max_four min_four
attribute [local go_sem ↓] isSome_setCell
attribute [local go_sem] string_gtr
set_option linter.unusedVariables false
set_option linter.unusedSimpArgs false
mutual
def tapearchiveref26_Elect.j0 : Nat → List (S24) → List Bool → Bool → Option (Int × Int × Int × (List (S79)) × Int)
 | 0, _, _, _ => none
 | k + 1, x0, x1, x20 => if x20 = true then (some (0, 0, 0, ([] : List (S79)), 8)) else (tapearchiveref26_Elect.l0 k x0 x1 0 (-1) 0 0)
def tapearchiveref26_Elect.l0 : Nat → List (S24) → List Bool → Int → Int → Int → Int → Option (Int × Int × Int × (List (S79)) × Int)
 | 0, _, _, _, _, _, _ => none
 | k + 1, x0, x1, x7, x8, x9, x10 => if x10 < (x0.length : Int) then (if 0 ≤ x10 then ((tapearchiveref26_valid.f k ((rd_T24 x0 x10).f0) ((rd_T24 x0 x10).f1) ((rd_T24 x0 x10).f2)).bind fun t471 => (if t471 = true then (if x10 < (x1.length : Int) then (if rdOf false x1 x10 = true then (if x8 < 0 then (tapearchiveref26_Elect.l0 k x0 x1 (wrap64 (x7 + 1)) x10 (mx x9 ((rd_T24 x0 x10).f0)) (wrap64 (x10 + 1))) else (if 0 ≤ x8 then (if x8 < (x0.length : Int) then ((tapearchiveref26_before.f ((rd_T24 x0 x10).f0) ((rd_T24 x0 x10).f1) ((rd_T24 x0 x10).f2) ((rd_T24 x0 x8).f0) ((rd_T24 x0 x8).f1) ((rd_T24 x0 x8).f2)).bind fun t476 => (if t476 = true then (tapearchiveref26_Elect.l0 k x0 x1 (wrap64 (x7 + 1)) x10 (mx x9 ((rd_T24 x0 x10).f0)) (wrap64 (x10 + 1))) else (tapearchiveref26_Elect.l0 k x0 x1 (wrap64 (x7 + 1)) x8 (mx x9 ((rd_T24 x0 x10).f0)) (wrap64 (x10 + 1))))) else (none)) else (none))) else (tapearchiveref26_Elect.l0 k x0 x1 x7 x8 x9 (wrap64 (x10 + 1)))) else (none)) else (some (0, 0, 0, ([] : List (S79)), 8)))) else (none)) else (if x7 ≤ (wrap64 ((x0.length : Int) / 2)) then (some (0, 0, 0, ([] : List (S79)), 13)) else (if x9 = 1125899906842624 then (some (0, 0, 0, ([] : List (S79)), 7)) else (if 0 ≤ x8 then (if x8 < (x0.length : Int) then ((tapearchiveref26_copied.f k ((rd_T24 x0 x8).f2)).bind fun t479 => (some (x8, wrap64 (x9 + 1), (rd_T24 x0 x8).f1, t479, 0))) else (none)) else (none))))
end
def tapearchiveref26_Elect.f (k : Nat) (l0 : List (S24)) (l1 : List Bool) : Option (Int × Int × Int × (List (S79)) × Int) := if (l0.length : Int) = 0 then (tapearchiveref26_Elect.j0 k l0 l1 true) else (tapearchiveref26_Elect.j0 k l0 l1 ((l1.length : Int) != (l0.length : Int)))
def tapearchiveref26_Elect.T12 : Bool × List (List Nat × List Nat) := (true, [([], []), ([0], [0]), ([1], [1]), ([2], [2]), ([2], [2]), ([3, 4, 2], [2, 3, 4]), ([5, 2], [2, 5]), ([2], [2]), ([2], [2]), ([7, 8, 2], [2, 7, 8]), ([9, 2], [2, 9]), ([6, 10, 2, 2], [2, 6, 10]), ([2, 11], [2, 11])])
def tapearchiveref26_Elect.B12 : List Nat := [0, 1, 3, 7, 7, 31, 63, 7, 7, 391, 903, 2047, 4095]
theorem tapearchiveref26_Elect.tab12 : rtab .any (opsOf Try.f22 12) = tapearchiveref26_Elect.T12 := by kernel_rfl
theorem tapearchiveref26_Elect.bits12 : waitsOk tapearchiveref26_Elect.T12.2 tapearchiveref26_Elect.B12 = true := by kernel_rfl
def tapearchiveref26_Elect.T18 : Bool × List (List Nat × List Nat) := (true, [([], []), ([], []), ([1], [1]), ([], []), ([], []), ([3, 4], [3, 4]), ([5], [5]), ([6], [6]), ([], []), ([], []), ([8, 9], [8, 9]), ([10], [10]), ([11], [11]), ([12], [12]), ([2, 7, 13], [2, 7, 13]), ([0, 13, 0], [0]), ([14, 15, 0, 1, 2, 3, 4, 5, 6, 7, 8, 9, 10, 11, 12, 13, 14, 15], [14]), ([16, 0, 1, 2, 3, 4, 5, 6, 7, 8, 9, 10, 11, 12, 13, 14, 15, 16], [])])
def tapearchiveref26_Elect.B18 : List Nat := [0, 0, 2, 0, 0, 24, 56, 120, 0, 0, 768, 1792, 3840, 7936, 16382, 16129, 65535, 131071]
theorem tapearchiveref26_Elect.tab18 : rtab .any (opsOf Try.f22 18) = tapearchiveref26_Elect.T18 := by kernel_rfl
theorem tapearchiveref26_Elect.bits18 : waitsOk tapearchiveref26_Elect.T18.2 tapearchiveref26_Elect.B18 = true := by kernel_rfl
set_option maxHeartbeats 8000000 in
set_option maxRecDepth 100000 in
theorem tapearchiveref26_Elect.calls (k : Nat) (A0 : Option Addr) (c0 : Nat) (l0 : List (S24)) (A1 : Option Addr) (c1 : Nat) (l1 : List Bool) (r1 : Int) (r2 : Int) (r3 : Int) (r4 : List (S79)) (r5 : Int) (w : World) (hr0 : Kd.C k24 w A0 l0.length l0) (hc0 : l0.length ≤ c0) (hr1 : Kd.C Kd.bool w A1 l1.length l1) (hc1 : l1.length ≤ c1) (h : tapearchiveref26_Elect.f k l0 l1 = some (r1, r2, r3, r4, r5)) :
  Calls Try.prog 22 #[.slice A0 l0.length c0, .slice A1 l1.length c1] w fun e w' => ∃ v3_ : Value, e = .returned (.tuple #[.int .i64 r1, .agg #[.int .i64 r2, .int .i64 r3, v3_], .int .i64 r5]) ∧ Kd.S k79 79 w' w.heap.size (fun _ => True) v3_ r4 ∧ Below w.heap.size w w' := by
 have hu24 := Try.underlying24
 have HR0 := am_ hr0
 have HC0 := am_ hc0
 clear hr0 hc0
 have HR1 := am_ hr1
 have HC1 := am_ hc1
 clear hr1 hc1
 have HB := am_ (Below.refl w.heap.size w)
 have H : (if (l0.length : Int) = 0 then (tapearchiveref26_Elect.j0 k l0 l1 true) else (tapearchiveref26_Elect.j0 k l0 l1 ((l1.length : Int) != (l0.length : Int)))) = some (r1, r2, r3, r4, r5) := h
 clear h
 have HC3 := am_ H
 clear H
 go_enter Try.func22, Try.ntmps22
 go_upto_region 1 with (first | ((with_reducible refine gate_dst (N := 5) rfl ?_); (try (refine gate_guard (by rfl) ?_; dsimp only)); refine box_event ?hg (N := 5) ?hd (cs := #[.int .i64 0, .int .i64 0, .slice none 0 0]) (t := 24) ?hr ?_; (case hd => rfl); (case hg => rfl); (case hr => first | (go_simp; done) | (go_simp; rfl)); intro gb469 hg w4 hbox hb; have n0_ := am_ (sp_ (pb0_ HB.out) hb); have n1_ := am_ (hbox); have n2_ := am_ ((by rw [hg]; exact (bz_ (pb0_ HB.out)) : w.heap.size ≤ gb469)); have n3_ := am_ ((by rw [hg]; exact (bz_ (pb0_ HB.out)) : w.heap.size ≤ gb469)); clear HB; have HB := n0_; have BK469 := n1_; have GW469 := n2_; have GE469 := n3_; clear n0_ n1_ n2_ n3_; clear hb hbox hg))
 (try simp only [Act.put, lt1_, lt2_, lt3_])
 go_cut [20] (fun v20 wc => ∃ (kq : Nat) (x20_2 : Bool), v20 = .bool x20_2 ∧ Aside0 (tapearchiveref26_Elect.j0 kq l0 l1 x20_2 = some (r1, r2, r3, r4, r5)) ∧ Aside0 (kq ≤ k) ∧ Aside0 (wc.heap[gb469]? = some (.cells #[.int .i64 0, .int .i64 0, (.slice none 0 0)] 24 (0, 0))) ∧ Aside0 (Below w.heap.size w wc))
 case first =>
  have H := HC3.out
  clear HC3
  by_cases c5 : (l0.length : Int) = 0
  ·
   rw [if_pos c5] at H
   have c5b0 : ((l0.length : Int) == 0) = true := beq_iff_eq.mpr c5
   have c5b1 : ((l0.length : Int) != 0) = false := bne_eq_false_iff_eq.mpr c5
   clear c5
   (first | rw [c5b0] | (simp only [i64_w, i32_w]; rw [c5b0]) | rw [c5b2] | skip)
   have H' := am_ H
   clear H
   go_wp2
   go_meet
   case rel => exact ⟨_, (true), (by first | rfl | (simp; done) | (simp [*]; done)), H', ⟨by first | omega | exact Nat.le_refl _⟩, ⟨by (with_reducible repeat (first | refine bn_ ?_ _ | refine bd_ ?_ | refine ba_ ?_ _)); exact BK469.out⟩, ⟨pb1_ HB.out GE469.out⟩⟩
  ·
   rw [if_neg c5] at H
   have c5b0 : ((l0.length : Int) == 0) = false := beq_eq_false_iff_ne.mpr c5
   have c5b1 : ((l0.length : Int) != 0) = true := bne_iff_ne.mpr c5
   have c5b2 : ¬ (l0 = []) := fun h_ => c5 (by rw [h_]; rfl)
   (first | rw [c5b0] | (simp only [i64_w, i32_w]; rw [c5b0]) | rw [c5b2] | skip)
   have H' := am_ H
   clear H
   go_wp2
   go_meet
   case rel => exact ⟨_, (((l1.length : Int) != (l0.length : Int))), (by first | rfl | (simp; done) | (simp [*]; done)), H', ⟨by first | omega | exact Nat.le_refl _⟩, ⟨by (with_reducible repeat (first | refine bn_ ?_ _ | refine bd_ ?_ | refine ba_ ?_ _)); exact BK469.out⟩, ⟨pb1_ HB.out GE469.out⟩⟩
 case rest =>
  clear HC3
  try clear c1
  try clear c2
  try clear p2
  try clear c5
  try clear c5b0
  try clear c5b1
  try clear c5b2
  obtain ⟨kq, x20_2, rfl, HA, HJ2, BK469, HB⟩ := hcut
  cases kq with
  | zero => exact absurd HA.out (by simp [tapearchiveref26_Elect.j0])
  | succ kj2 =>
   have H := HA.out
   clear HA
   simp only [tapearchiveref26_Elect.j0] at H
   by_cases c6 : x20_2 = true
   ·
    subst c6
    have H1 : (some (0, 0, 0, ([] : List (S79)), 8)) = some (r1, r2, r3, r4, r5) := by rw [if_pos rfl] at H; exact H
    clear H
    have H := H1
    clear H1
    simp only [Option.some.injEq, Prod.mk.injEq] at H
    obtain ⟨rfl, rfl, rfl, rfl, rfl⟩ := H
    have hcz7_0 : wc.cell? ⟨gb469, 0, none⟩ = some (.int .i64 0) := (bc_ BK469.out 0).trans rfl
    have hcz7_1 : wc.cell? ⟨gb469, 1, none⟩ = some (.int .i64 0) := (bc_ BK469.out 1).trans rfl
    have hcz7_2 : wc.cell? ⟨gb469, 2, none⟩ = some (.slice none 0 0) := (bc_ BK469.out 2).trans rfl
    have hfz7_0 := bf_ BK469.out 0
    have hfz7_1 := bf_ BK469.out 1
    have hfz7_2 := bf_ BK469.out 2
    go_wp2
    refine bodyPost_ret (results_list (rs := [.tmp 4, .cell 5 24, .tmp 6]) rfl (by simp) (.tmp (.cell gb469 24 #[.int .i64 0, .int .i64 0, .slice none 0 0] (0, 0) _ rfl (by (with_reducible repeat (first | refine bn_ ?_ _ | refine bd_ ?_ | refine ba_ ?_ _)); refine blk_put (cs := #[.int .i64 0, .int .i64 0, .slice none 0 0]) ?_ 2 _ rfl; (with_reducible repeat (first | refine bn_ ?_ _ | refine bd_ ?_ | refine ba_ ?_ _)); refine blk_put (cs := #[.int .i64 0, .int .i64 0, .slice none 0 0]) ?_ 1 _ rfl; (with_reducible repeat (first | refine bn_ ?_ _ | refine bd_ ?_ | refine ba_ ?_ _)); refine blk_put (cs := #[.int .i64 0, .int .i64 0, .slice none 0 0]) ?_ 0 _ rfl; (with_reducible repeat (first | refine bn_ ?_ _ | refine bd_ ?_ | refine ba_ ?_ _)); exact BK469.out) Try.underlying24 rfl (by kernel_rfl) (.tmp .nil)))) rfl ?_
    exact ⟨_, by first | rfl | (simp [errW_none, errW_some] <;> rfl) | (simp [*, errW_none, errW_some] <;> rfl), by first | exact Kd.S_nil _ _ _ _ _ | exact Kd.N_nil _ _ _ _ _ | exact Kd.V_nil _ _ _ _ _ | exact Kd.Q_nil _ _ _ _ _ | exact Kd.R_nil _ _ _ _ _, pb1_ HB.out GE469.out⟩
   ·
    replace c6 := Bool.eq_false_iff.mpr c6
    subst c6
    have H1 : (tapearchiveref26_Elect.l0 kj2 l0 l1 0 (-1) 0 0) = some (r1, r2, r3, r4, r5) := by rw [if_neg (show ¬ (false = true) by decide)] at H; exact H
    clear H
    have H := H1
    clear H1
    have H' := am_ H
    clear H
    go_wp2
    go_loopg [7, 8, 9, 10] kj2 (fun kq v7 v8 v9 v10 w' => ∃ (x7_2 : Int) (x8_2 : Int) (x9_2 : Int) (x10_2 : Int) (x470000_2 : Int) (x470001_2 : Int), v7 = .int .i64 x7_2 ∧ v8 = .int .i64 x8_2 ∧ v9 = .int .i64 x9_2 ∧ v10 = .int .i64 x10_2 ∧ Aside0 (tapearchiveref26_Elect.l0 kq l0 l1 x7_2 x8_2 x9_2 x10_2 = some (r1, r2, r3, r4, r5)) ∧ Aside0 (kq ≤ kj2) ∧ Aside0 (w'.heap[gb469]? = some (.cells #[.int .i64 x470000_2, .int .i64 x470001_2, (.slice none 0 0)] 24 (0, 0))) ∧ Aside0 (Below w.heap.size w w'))
    case atStart => exact ⟨(0), ((-1)), (0), (0), (0), (0), (by first | rfl | (simp; done) | (simp [*]; done)), (by first | rfl | (simp; done) | (simp [*]; done)), (by first | rfl | (simp; done) | (simp [*]; done)), (by first | rfl | (simp; done) | (simp [*]; done)), H', ⟨Nat.le_refl _⟩, ⟨by (with_reducible repeat (first | refine bn_ ?_ _ | refine bd_ ?_ | refine ba_ ?_ _)); exact BK469.out⟩, ⟨pb1_ HB.out GE469.out⟩⟩
    case round =>
     clear H'
     try clear c1
     try clear c2
     try clear p2
     try clear c5
     try clear c5b0
     try clear c5b1
     try clear c5b2
     try clear c6
     try clear hcz7_0
     try clear hcz7_1
     try clear hcz7_2
     try clear hfz7_0
     try clear hfz7_1
     try clear hfz7_2
     try clear p2
     obtain ⟨x7_2, x8_2, x9_2, x10_2, x470000_2, x470001_2, rfl, rfl, rfl, rfl, HA, HK2, BK469, HB⟩ := hrel
     cases gk with
     | zero => exact absurd HA.out (by simp [tapearchiveref26_Elect.l0])
     | succ k2 =>
      have H := HA.out
      clear HA
      simp only [tapearchiveref26_Elect.l0] at H
      by_cases c8 : x10_2 < (l0.length : Int)
      ·
       rw [if_pos c8] at H
       have c8b0 : decide (x10_2 < (l0.length : Int)) = true := de_ c8
       clear c8
       by_cases c9 : 0 ≤ x10_2
       ·
        rw [if_pos c9] at H
        have c9b0 : decide (0 ≤ x10_2) = true := de_ c9
        clear c9
        replace H := Option.bind_eq_some_iff.mp H
        obtain ⟨t471, A100, H⟩ := H
        replace H : (if t471 = true then (if x10_2 < (l1.length : Int) then (if rdOf false l1 x10_2 = true then (if x8_2 < 0 then (tapearchiveref26_Elect.l0 k2 l0 l1 (wrap64 (x7_2 + 1)) x10_2 (mx x9_2 ((rd_T24 l0 x10_2).f0)) (wrap64 (x10_2 + 1))) else (if 0 ≤ x8_2 then (if x8_2 < (l0.length : Int) then ((tapearchiveref26_before.f ((rd_T24 l0 x10_2).f0) ((rd_T24 l0 x10_2).f1) ((rd_T24 l0 x10_2).f2) ((rd_T24 l0 x8_2).f0) ((rd_T24 l0 x8_2).f1) ((rd_T24 l0 x8_2).f2)).bind fun t476 => (if t476 = true then (tapearchiveref26_Elect.l0 k2 l0 l1 (wrap64 (x7_2 + 1)) x10_2 (mx x9_2 ((rd_T24 l0 x10_2).f0)) (wrap64 (x10_2 + 1))) else (tapearchiveref26_Elect.l0 k2 l0 l1 (wrap64 (x7_2 + 1)) x8_2 (mx x9_2 ((rd_T24 l0 x10_2).f0)) (wrap64 (x10_2 + 1))))) else (none)) else (none))) else (tapearchiveref26_Elect.l0 k2 l0 l1 x7_2 x8_2 x9_2 (wrap64 (x10_2 + 1)))) else (none)) else (some (0, 0, 0, ([] : List (S79)), 8))) = some (r1, r2, r3, r4, r5) := H
        have A10 := am_ A100
        clear A100
        by_cases c11 : t471 = true
        ·
         subst c11
         have H1 : (if x10_2 < (l1.length : Int) then (if rdOf false l1 x10_2 = true then (if x8_2 < 0 then (tapearchiveref26_Elect.l0 k2 l0 l1 (wrap64 (x7_2 + 1)) x10_2 (mx x9_2 ((rd_T24 l0 x10_2).f0)) (wrap64 (x10_2 + 1))) else (if 0 ≤ x8_2 then (if x8_2 < (l0.length : Int) then ((tapearchiveref26_before.f ((rd_T24 l0 x10_2).f0) ((rd_T24 l0 x10_2).f1) ((rd_T24 l0 x10_2).f2) ((rd_T24 l0 x8_2).f0) ((rd_T24 l0 x8_2).f1) ((rd_T24 l0 x8_2).f2)).bind fun t476 => (if t476 = true then (tapearchiveref26_Elect.l0 k2 l0 l1 (wrap64 (x7_2 + 1)) x10_2 (mx x9_2 ((rd_T24 l0 x10_2).f0)) (wrap64 (x10_2 + 1))) else (tapearchiveref26_Elect.l0 k2 l0 l1 (wrap64 (x7_2 + 1)) x8_2 (mx x9_2 ((rd_T24 l0 x10_2).f0)) (wrap64 (x10_2 + 1))))) else (none)) else (none))) else (tapearchiveref26_Elect.l0 k2 l0 l1 x7_2 x8_2 x9_2 (wrap64 (x10_2 + 1)))) else (none)) = some (r1, r2, r3, r4, r5) := by rw [if_pos rfl] at H; exact H
         clear H
         have H := H1
         clear H1
         by_cases c12 : x10_2 < (l1.length : Int)
         ·
          rw [if_pos c12] at H
          have c12b0 : decide (x10_2 < (l1.length : Int)) = true := de_ c12
          clear c12
          obtain ⟨bq13, hbq13⟩ : ∃ b_ : Bool, b_ = (rdOf false l1 x10_2) := ⟨_, rfl⟩
          replace H : (if bq13 = true then (if x8_2 < 0 then (tapearchiveref26_Elect.l0 k2 l0 l1 (wrap64 (x7_2 + 1)) x10_2 (mx x9_2 ((rd_T24 l0 x10_2).f0)) (wrap64 (x10_2 + 1))) else (if 0 ≤ x8_2 then (if x8_2 < (l0.length : Int) then ((tapearchiveref26_before.f ((rd_T24 l0 x10_2).f0) ((rd_T24 l0 x10_2).f1) ((rd_T24 l0 x10_2).f2) ((rd_T24 l0 x8_2).f0) ((rd_T24 l0 x8_2).f1) ((rd_T24 l0 x8_2).f2)).bind fun t476 => (if t476 = true then (tapearchiveref26_Elect.l0 k2 l0 l1 (wrap64 (x7_2 + 1)) x10_2 (mx x9_2 ((rd_T24 l0 x10_2).f0)) (wrap64 (x10_2 + 1))) else (tapearchiveref26_Elect.l0 k2 l0 l1 (wrap64 (x7_2 + 1)) x8_2 (mx x9_2 ((rd_T24 l0 x10_2).f0)) (wrap64 (x10_2 + 1))))) else (none)) else (none))) else (tapearchiveref26_Elect.l0 k2 l0 l1 x7_2 x8_2 x9_2 (wrap64 (x10_2 + 1)))) = some (r1, r2, r3, r4, r5) := by rw [← hbq13] at H; exact H
          have Nbq13 := am_ hbq13
          clear hbq13
          by_cases c14 : bq13 = true
          ·
           subst c14
           have H1 : (if x8_2 < 0 then (tapearchiveref26_Elect.l0 k2 l0 l1 (wrap64 (x7_2 + 1)) x10_2 (mx x9_2 ((rd_T24 l0 x10_2).f0)) (wrap64 (x10_2 + 1))) else (if 0 ≤ x8_2 then (if x8_2 < (l0.length : Int) then ((tapearchiveref26_before.f ((rd_T24 l0 x10_2).f0) ((rd_T24 l0 x10_2).f1) ((rd_T24 l0 x10_2).f2) ((rd_T24 l0 x8_2).f0) ((rd_T24 l0 x8_2).f1) ((rd_T24 l0 x8_2).f2)).bind fun t476 => (if t476 = true then (tapearchiveref26_Elect.l0 k2 l0 l1 (wrap64 (x7_2 + 1)) x10_2 (mx x9_2 ((rd_T24 l0 x10_2).f0)) (wrap64 (x10_2 + 1))) else (tapearchiveref26_Elect.l0 k2 l0 l1 (wrap64 (x7_2 + 1)) x8_2 (mx x9_2 ((rd_T24 l0 x10_2).f0)) (wrap64 (x10_2 + 1))))) else (none)) else (none))) = some (r1, r2, r3, r4, r5) := by rw [if_pos rfl] at H; exact H
           clear H
           have H := H1
           clear H1
           obtain ⟨ji15, hji15⟩ : ∃ j_ : Int, (mx x9_2 ((rd_T24 l0 x10_2).f0)) = j_ := ⟨_, rfl⟩
           replace H : (if x8_2 < 0 then (tapearchiveref26_Elect.l0 k2 l0 l1 (wrap64 (x7_2 + 1)) x10_2 ji15 (wrap64 (x10_2 + 1))) else (if 0 ≤ x8_2 then (if x8_2 < (l0.length : Int) then ((tapearchiveref26_before.f ((rd_T24 l0 x10_2).f0) ((rd_T24 l0 x10_2).f1) ((rd_T24 l0 x10_2).f2) ((rd_T24 l0 x8_2).f0) ((rd_T24 l0 x8_2).f1) ((rd_T24 l0 x8_2).f2)).bind fun t476 => (if t476 = true then (tapearchiveref26_Elect.l0 k2 l0 l1 (wrap64 (x7_2 + 1)) x10_2 ji15 (wrap64 (x10_2 + 1))) else (tapearchiveref26_Elect.l0 k2 l0 l1 (wrap64 (x7_2 + 1)) x8_2 ji15 (wrap64 (x10_2 + 1))))) else (none)) else (none))) = some (r1, r2, r3, r4, r5) := by first | (rw [hji15] at H; exact H) | (simp only [hji15] at H ⊢; exact H)
           (try rw [hji15] at A10)
           have hji15_ : (if x9_2 < ((rd_T24 l0 x10_2).f0) then ((rd_T24 l0 x10_2).f0) else x9_2) = ji15 := hji15
           by_cases c16 : x8_2 < 0
           ·
            rw [if_pos c16] at H
            have c16b0 : decide (x8_2 < 0) = true := de_ c16
            clear c16
            have H' := am_ H
            clear H
            have p470 : 0 ≤ (x10_2 : Int) := ot_ (by first | (with_reducible assumption) | assumption)
            have q470 : x10_2 < (l0.length : Int) := ot_ (by first | (with_reducible assumption) | assumption)
            obtain ⟨ad470, A470_2, c470_2, e470, hx470_0, hx470_1, hx470_2, hl470_2, hi470_2⟩ := at_T24 HR0.out x10_2 p470 q470
            cases e470
            replace hx470_0 := (HB.out.cell (bk_ w _ hx470_0)).trans hx470_0
            replace hx470_1 := (HB.out.cell (bk_ w _ hx470_1)).trans hx470_1
            replace hx470_2 := (HB.out.cell (bk_ w _ hx470_2)).trans hx470_2
            have HR470_2 := am_ hi470_2
            have HC470_2 := am_ hl470_2
            clear hi470_2 hl470_2
            replace p470 := eq_true p470
            replace q470 := eq_true q470
            try go_wp2_with (first | ((with_reducible refine gate_callee (f := 31) rfl ?_); refine goesL_ (some 32) rfl rfl Try.func31 (by kernel_rfl) rfl #[.agg #[.int .i64 ((rd_T24 l0 x10_2).f0), .int .i64 ((rd_T24 l0 x10_2).f1), .slice A470_2 ((rd_T24 l0 x10_2).f2).length c470_2]] rfl au_ ?_; (with_reducible refine (tapearchiveref26_valid.calls k2 ((rd_T24 l0 x10_2).f0) ((rd_T24 l0 x10_2).f1) _ _ ((rd_T24 l0 x10_2).f2) true _ ?side1 ?side2 A10.out).mono ?_); (case side1 => repeat (first | exact (Kd.C_below HR470_2.out HB.out) | (with_reducible refine Kd.C_alloc ?_ _) | (with_reducible refine Kd.C_drewN ?_ _) | (with_reducible refine Kd.C_drew ?_))); (case side2 => exact HC470_2.out); rintro e w17 ⟨rfl, hb⟩; refine ⟨_, rfl, ?_⟩; have n0_ := am_ (bw_ (g := gb469) (o := .cells #[.int .i64 x470000_2, .int .i64 x470001_2, .slice none 0 0] 24 (0, 0)) (pk_ BK469.out) hb); have n1_ := am_ (sp_ (pb1_ HB.out GE469.out) hb); clear BK469; clear HB; have BK469 := n0_; have HB := n1_; clear n0_ n1_; (try clear hb); (try clear hb2); (try clear hk); (try clear hi); have p472 : 0 ≤ (x10_2 : Int) := ot_ (by first | (with_reducible assumption) | assumption); have q472 : x10_2 < (l1.length : Int) := ot_ (by first | (with_reducible assumption) | assumption); obtain ⟨ad472, e472, hx472_0⟩ := Kd.at_bool HR1.out x10_2 p472 q472; (try rw [← Nbq13.out] at hx472_0); cases e472; replace hx472_0 := (HB.out.cell (bk_ w _ hx472_0)).trans hx472_0; replace p472 := eq_true p472; replace q472 := eq_true q472; have p473 : 0 ≤ (x10_2 : Int) := ot_ (by first | (with_reducible assumption) | assumption); have q473 : x10_2 < (l0.length : Int) := ot_ (by first | (with_reducible assumption) | assumption); obtain ⟨ad473, A473_2, c473_2, e473, hx473_0, hx473_1, hx473_2, hl473_2, hi473_2⟩ := at_T24 HR0.out x10_2 p473 q473; obtain rfl : ad470 = ad473 := (by injection e473); replace hx473_0 := (HB.out.cell (bk_ w _ hx473_0)).trans hx473_0; replace hx473_1 := (HB.out.cell (bk_ w _ hx473_1)).trans hx473_1; replace hx473_2 := (HB.out.cell (bk_ w _ hx473_2)).trans hx473_2; have HR473_2 := am_ hi473_2; have HC473_2 := am_ hl473_2; clear hi473_2 hl473_2; replace p473 := eq_true p473; replace q473 := eq_true q473))
            have n0_ := am_ (bd_ BK469.out)
            have n1_ := am_ (b1_ HB.out)
            clear BK469
            clear HB
            have BK469 := n0_
            have HB := n1_
            clear n0_ n1_
            refine start_ (n := 13) (S := fun w' => True) (ds := []) #[false, false, false, false, false, false, false, false, false, false, false, false, false] (by kernel_rfl) rfl rfl trivial (fun hHeld => ?_); refine with_tabW tapearchiveref26_Elect.tab12 tapearchiveref26_Elect.bits12 (fun HT_ HW_ => ?_)
            generalize w17.drew = w18 at BK469 HB hHeld ⊢
            refine pure_ (i := 0) (N := some 49) (v := ?_) (a' := ?_) #[true, false, false, false, false, false, false, false, false, false, false, false, false] rfl rfl (any_of HT_.out (by kernel_rfl)) (fun _ _ _ h => h) (Or.inl ⟨by rfl, ?_⟩) ?_ ?_
            rotate_left
            ·
             intro w'
             go_simp
             with_reducible rfl
            rotate_left
            ·
             simp only [Act.put, lt1_, lt2_, lt3_, i64_w, i32_w]
             rfl
            refine pure_ (i := 1) (N := some 50) (v := ?_) (a' := ?_) #[true, true, false, false, false, false, false, false, false, false, false, false, false] rfl rfl (any_of HT_.out (by kernel_rfl)) (fun _ _ _ h => h) (Or.inl ⟨by rfl, ?_⟩) ?_ ?_
            rotate_left
            ·
             intro w'
             go_simp
             with_reducible rfl
            rotate_left
            ·
             simp only [Act.put, lt1_, lt2_, lt3_, i64_w, i32_w]
             rfl
            refine pure_ (i := 2) (N := some 51) (v := ?_) (a' := ?_) #[true, true, true, false, false, false, false, false, false, false, false, false, false] rfl rfl (any_of HT_.out (by kernel_rfl)) (fun _ _ _ h => h) (Or.inl ⟨by rfl, ?_⟩) ?_ ?_
            rotate_left
            ·
             intro w'
             go_simp
             with_reducible rfl
            rotate_left
            ·
             simp only [Act.put, lt1_, lt2_, lt3_, i64_w, i32_w]
             rfl
            refine pure_ (i := 3) (N := some 52) (v := undef) (a' := ?_) #[true, true, true, true, false, false, false, false, false, false, false, false, false] rfl rfl (any_of HT_.out (by kernel_rfl)) (fun _ _ _ h => h) (Or.inr ⟨by rfl, rfl⟩) ?_ ?_
            rotate_left
            ·
             simp only [Act.put, lt1_, lt2_, lt3_, i64_w, i32_w]
             rfl
            refine pure_ (i := 4) (N := some 53) (v := undef) (a' := ?_) #[true, true, true, true, true, false, false, false, false, false, false, false, false] rfl rfl (any_of HT_.out (by kernel_rfl)) (fun _ _ _ h => h) (Or.inr ⟨by rfl, rfl⟩) ?_ ?_
            rotate_left
            ·
             simp only [Act.put, lt1_, lt2_, lt3_, i64_w, i32_w]
             rfl
            refine pure_ (i := 5) (N := some 54) (v := undef) (a' := ?_) #[true, true, true, true, true, true, false, false, false, false, false, false, false] rfl rfl (any_of HT_.out (by kernel_rfl)) (fun _ _ _ h => h) (Or.inr ⟨by rfl, rfl⟩) ?_ ?_
            rotate_left
            ·
             simp only [Act.put, lt1_, lt2_, lt3_, i64_w, i32_w]
             rfl
            refine pure_ (i := 6) (N := some 55) (v := undef) (a' := ?_) #[true, true, true, true, true, true, true, false, false, false, false, false, false] rfl rfl (any_of HT_.out (by kernel_rfl)) (fun _ _ _ h => h) (Or.inr ⟨by rfl, rfl⟩) ?_ ?_
            rotate_left
            ·
             simp only [Act.put, lt1_, lt2_, lt3_, i64_w, i32_w]
             rfl
            refine pure_ (i := 7) (N := some 56) (v := undef) (a' := ?_) #[true, true, true, true, true, true, true, true, false, false, false, false, false] rfl rfl (any_of HT_.out (by kernel_rfl)) (fun _ _ _ h => h) (Or.inr ⟨by rfl, rfl⟩) ?_ ?_
            rotate_left
            ·
             simp only [Act.put, lt1_, lt2_, lt3_, i64_w, i32_w]
             rfl
            refine pure_ (i := 8) (N := some 57) (v := undef) (a' := ?_) #[true, true, true, true, true, true, true, true, true, false, false, false, false] rfl rfl (any_of HT_.out (by kernel_rfl)) (fun _ _ _ h => h) (Or.inr ⟨by rfl, rfl⟩) ?_ ?_
            rotate_left
            ·
             simp only [Act.put, lt1_, lt2_, lt3_, i64_w, i32_w]
             rfl
            refine pure_ (i := 9) (N := some 58) (v := undef) (a' := ?_) #[true, true, true, true, true, true, true, true, true, true, false, false, false] rfl rfl (any_of HT_.out (by kernel_rfl)) (fun _ _ _ h => h) (Or.inr ⟨by rfl, rfl⟩) ?_ ?_
            rotate_left
            ·
             simp only [Act.put, lt1_, lt2_, lt3_, i64_w, i32_w]
             rfl
            refine pure_ (i := 10) (N := some 59) (v := undef) (a' := ?_) #[true, true, true, true, true, true, true, true, true, true, true, false, false] rfl rfl (any_of HT_.out (by kernel_rfl)) (fun _ _ _ h => h) (Or.inr ⟨by rfl, rfl⟩) ?_ ?_
            rotate_left
            ·
             simp only [Act.put, lt1_, lt2_, lt3_, i64_w, i32_w]
             rfl
            refine pure_ (i := 11) (N := some 60) (v := undef) (a' := ?_) #[true, true, true, true, true, true, true, true, true, true, true, true, false] rfl rfl (any_of HT_.out (by kernel_rfl)) (fun _ _ _ h => h) (Or.inr ⟨by rfl, rfl⟩) ?_ ?_
            rotate_left
            ·
             simp only [Act.put, lt1_, lt2_, lt3_, i64_w, i32_w]
             rfl
            refine pure_ (i := 12) (N := some 61) (v := ?_) (a' := ?_) #[true, true, true, true, true, true, true, true, true, true, true, true, true] rfl rfl (any_of HT_.out (by kernel_rfl)) (fun _ _ _ h => h) (Or.inl ⟨by rfl, ?_⟩) ?_ ?_
            rotate_left
            ·
             intro w'
             go_simp
             with_reducible rfl
            rotate_left
            ·
             simp only [Act.put, lt1_, lt2_, lt3_, i64_w, i32_w]
             rfl
            refine done_ (done_of HT_.out (by kernel_rfl)) ?_
            try go_wp2
            go_roundg k2
            case measure => have := HJ2.out; have := HK2.out; omega
            case rel => exact ⟨(wrap64 (x7_2 + 1)), (x10_2), (ji15), (wrap64 (x10_2 + 1)), (x470000_2), (x470001_2), (by first | rfl | (simp; done) | (simp [*]; done)), (by first | rfl | (simp; done) | (simp [*]; done)), (by first | rfl | (simp; done) | (simp only [← hji15] <;> (first | rfl | simp)) | (simp [*]; done)), (by first | rfl | (simp; done) | (simp [*]; done)), H', ⟨by have := HJ2.out; have := HK2.out; omega⟩, ⟨by (with_reducible repeat (first | refine bn_ ?_ _ | refine bd_ ?_ | refine ba_ ?_ _)); exact BK469.out⟩, ⟨pb1_ HB.out GE469.out⟩⟩
           ·
            rw [if_neg c16] at H
            have c16b0 : decide (x8_2 < 0) = false := df_ c16
            clear c16
            by_cases c19 : 0 ≤ x8_2
            ·
             rw [if_pos c19] at H
             have c19b0 : decide (0 ≤ x8_2) = true := de_ c19
             clear c19
             by_cases c20 : x8_2 < (l0.length : Int)
             ·
              rw [if_pos c20] at H
              have c20b0 : decide (x8_2 < (l0.length : Int)) = true := de_ c20
              clear c20
              replace H := Option.bind_eq_some_iff.mp H
              obtain ⟨t476, A210, H⟩ := H
              replace H : (if t476 = true then (tapearchiveref26_Elect.l0 k2 l0 l1 (wrap64 (x7_2 + 1)) x10_2 ji15 (wrap64 (x10_2 + 1))) else (tapearchiveref26_Elect.l0 k2 l0 l1 (wrap64 (x7_2 + 1)) x8_2 ji15 (wrap64 (x10_2 + 1)))) = some (r1, r2, r3, r4, r5) := H
              have A21 := am_ A210
              clear A210
              by_cases c22 : t476 = true
              ·
               subst c22
               have H1 : (tapearchiveref26_Elect.l0 k2 l0 l1 (wrap64 (x7_2 + 1)) x10_2 ji15 (wrap64 (x10_2 + 1))) = some (r1, r2, r3, r4, r5) := by rw [if_pos rfl] at H; exact H
               clear H
               have H := H1
               clear H1
               have H' := am_ H
               clear H
               have p470 : 0 ≤ (x10_2 : Int) := ot_ (by first | (with_reducible assumption) | assumption)
               have q470 : x10_2 < (l0.length : Int) := ot_ (by first | (with_reducible assumption) | assumption)
               obtain ⟨ad470, A470_2, c470_2, e470, hx470_0, hx470_1, hx470_2, hl470_2, hi470_2⟩ := at_T24 HR0.out x10_2 p470 q470
               cases e470
               replace hx470_0 := (HB.out.cell (bk_ w _ hx470_0)).trans hx470_0
               replace hx470_1 := (HB.out.cell (bk_ w _ hx470_1)).trans hx470_1
               replace hx470_2 := (HB.out.cell (bk_ w _ hx470_2)).trans hx470_2
               have HR470_2 := am_ hi470_2
               have HC470_2 := am_ hl470_2
               clear hi470_2 hl470_2
               replace p470 := eq_true p470
               replace q470 := eq_true q470
               try go_wp2_with (first | ((with_reducible refine gate_callee (f := 31) rfl ?_); refine goesL_ (some 32) rfl rfl Try.func31 (by kernel_rfl) rfl #[.agg #[.int .i64 ((rd_T24 l0 x10_2).f0), .int .i64 ((rd_T24 l0 x10_2).f1), .slice A470_2 ((rd_T24 l0 x10_2).f2).length c470_2]] rfl au_ ?_; (with_reducible refine (tapearchiveref26_valid.calls k2 ((rd_T24 l0 x10_2).f0) ((rd_T24 l0 x10_2).f1) _ _ ((rd_T24 l0 x10_2).f2) true _ ?side1 ?side2 A10.out).mono ?_); (case side1 => repeat (first | exact (Kd.C_below HR470_2.out HB.out) | (with_reducible refine Kd.C_alloc ?_ _) | (with_reducible refine Kd.C_drewN ?_ _) | (with_reducible refine Kd.C_drew ?_))); (case side2 => exact HC470_2.out); rintro e w23 ⟨rfl, hb⟩; refine ⟨_, rfl, ?_⟩; have n0_ := am_ (bw_ (g := gb469) (o := .cells #[.int .i64 x470000_2, .int .i64 x470001_2, .slice none 0 0] 24 (0, 0)) (pk_ BK469.out) hb); have n1_ := am_ (sp_ (pb1_ HB.out GE469.out) hb); clear BK469; clear HB; have BK469 := n0_; have HB := n1_; clear n0_ n1_; (try clear hb); (try clear hb2); (try clear hk); (try clear hi); have p472 : 0 ≤ (x10_2 : Int) := ot_ (by first | (with_reducible assumption) | assumption); have q472 : x10_2 < (l1.length : Int) := ot_ (by first | (with_reducible assumption) | assumption); obtain ⟨ad472, e472, hx472_0⟩ := Kd.at_bool HR1.out x10_2 p472 q472; (try rw [← Nbq13.out] at hx472_0); cases e472; replace hx472_0 := (HB.out.cell (bk_ w _ hx472_0)).trans hx472_0; replace p472 := eq_true p472; replace q472 := eq_true q472; have p473 : 0 ≤ (x10_2 : Int) := ot_ (by first | (with_reducible assumption) | assumption); have q473 : x10_2 < (l0.length : Int) := ot_ (by first | (with_reducible assumption) | assumption); obtain ⟨ad473, A473_2, c473_2, e473, hx473_0, hx473_1, hx473_2, hl473_2, hi473_2⟩ := at_T24 HR0.out x10_2 p473 q473; obtain rfl : ad470 = ad473 := (by injection e473); replace hx473_0 := (HB.out.cell (bk_ w _ hx473_0)).trans hx473_0; replace hx473_1 := (HB.out.cell (bk_ w _ hx473_1)).trans hx473_1; replace hx473_2 := (HB.out.cell (bk_ w _ hx473_2)).trans hx473_2; have HR473_2 := am_ hi473_2; have HC473_2 := am_ hl473_2; clear hi473_2 hl473_2; replace p473 := eq_true p473; replace q473 := eq_true q473))
               have n0_ := am_ (bd_ BK469.out)
               have n1_ := am_ (b1_ HB.out)
               clear BK469
               clear HB
               have BK469 := n0_
               have HB := n1_
               clear n0_ n1_
               have p474 : 0 ≤ (x10_2 : Int) := ot_ (by first | (with_reducible assumption) | assumption)
               have q474 : x10_2 < (l0.length : Int) := ot_ (by first | (with_reducible assumption) | assumption)
               obtain ⟨ad474, A474_2, c474_2, e474, hx474_0, hx474_1, hx474_2, hl474_2, hi474_2⟩ := at_T24 HR0.out x10_2 p474 q474
               have hw474_2 := hx474_2
               have hw474_1 := hx474_1
               have hw474_0 := hx474_0
               obtain rfl : ad470 = ad474 := (by injection e474)
               replace hx474_0 := (HB.out.cell (bk_ w _ hx474_0)).trans hx474_0
               replace hx474_1 := (HB.out.cell (bk_ w _ hx474_1)).trans hx474_1
               replace hx474_2 := (HB.out.cell (bk_ w _ hx474_2)).trans hx474_2
               have HR474_2 := am_ hi474_2
               have HC474_2 := am_ hl474_2
               clear hi474_2 hl474_2
               replace p474 := eq_true p474
               replace q474 := eq_true q474
               have p475 : 0 ≤ (x8_2 : Int) := ot_ (by first | (with_reducible assumption) | assumption)
               have q475 : x8_2 < (l0.length : Int) := ot_ (by first | (with_reducible assumption) | assumption)
               obtain ⟨ad475, A475_2, c475_2, e475, hx475_0, hx475_1, hx475_2, hl475_2, hi475_2⟩ := at_T24 HR0.out x8_2 p475 q475
               have hw475_2 := hx475_2
               have hw475_1 := hx475_1
               have hw475_0 := hx475_0
               obtain rfl : ad470 = ad475 := (by injection e475)
               replace hx475_0 := (HB.out.cell (bk_ w _ hx475_0)).trans hx475_0
               replace hx475_1 := (HB.out.cell (bk_ w _ hx475_1)).trans hx475_1
               replace hx475_2 := (HB.out.cell (bk_ w _ hx475_2)).trans hx475_2
               have HR475_2 := am_ hi475_2
               have HC475_2 := am_ hl475_2
               clear hi475_2 hl475_2
               replace p475 := eq_true p475
               replace q475 := eq_true q475
               refine start_ (n := 13) (S := fun w' => w'.cell? (ad470.add ((x10_2).toNat * 3)) = some (.int .i64 ((rd_T24 l0 x10_2).f0)) ∧ w'.cell? ⟨(ad470.add ((x10_2).toNat * 3)).block, (ad470.add ((x10_2).toNat * 3)).off + 1, none⟩ = some (.int .i64 ((rd_T24 l0 x10_2).f1)) ∧ w'.cell? ⟨(ad470.add ((x10_2).toNat * 3)).block, (ad470.add ((x10_2).toNat * 3)).off + 2, none⟩ = some (.slice A474_2 ((rd_T24 l0 x10_2).f2).length c474_2) ∧ w'.cell? (ad470.add ((x8_2).toNat * 3)) = some (.int .i64 ((rd_T24 l0 x8_2).f0)) ∧ w'.cell? ⟨(ad470.add ((x8_2).toNat * 3)).block, (ad470.add ((x8_2).toNat * 3)).off + 1, none⟩ = some (.int .i64 ((rd_T24 l0 x8_2).f1)) ∧ w'.cell? ⟨(ad470.add ((x8_2).toNat * 3)).block, (ad470.add ((x8_2).toNat * 3)).off + 2, none⟩ = some (.slice A475_2 ((rd_T24 l0 x8_2).f2).length c475_2)) (ds := []) #[false, false, false, false, false, false, false, false, false, false, false, false, false] (by kernel_rfl) rfl rfl ⟨((HB.out.cell (bk_ w _ hw474_0)).trans hw474_0), ((HB.out.cell (bk_ w _ hw474_1)).trans hw474_1), ((HB.out.cell (bk_ w _ hw474_2)).trans hw474_2), ((HB.out.cell (bk_ w _ hw475_0)).trans hw475_0), ((HB.out.cell (bk_ w _ hw475_1)).trans hw475_1), ((HB.out.cell (bk_ w _ hw475_2)).trans hw475_2)⟩ (fun hHeld => ?_); refine with_tabW tapearchiveref26_Elect.tab12 tapearchiveref26_Elect.bits12 (fun HT_ HW_ => ?_)
               generalize w23.drew = w24 at BK469 HB HR474_2 HR475_2 hx474_0 hx474_1 hx474_2 hx475_0 hx475_1 hx475_2 hHeld ⊢
               refine pure_ (i := 0) (N := some 49) (v := ?_) (a' := ?_) #[true, false, false, false, false, false, false, false, false, false, false, false, false] rfl rfl (any_of HT_.out (by kernel_rfl)) (fun _ _ _ h => h) (Or.inl ⟨by rfl, ?_⟩) ?_ ?_
               rotate_left
               ·
                intro w'
                go_simp
                with_reducible rfl
               rotate_left
               ·
                simp only [Act.put, lt1_, lt2_, lt3_, i64_w, i32_w]
                rfl
               refine pure_ (i := 1) (N := some 50) (v := ?_) (a' := ?_) #[true, true, false, false, false, false, false, false, false, false, false, false, false] rfl rfl (any_of HT_.out (by kernel_rfl)) (fun _ _ _ h => h) (Or.inl ⟨by rfl, ?_⟩) ?_ ?_
               rotate_left
               ·
                intro w'
                go_simp
                with_reducible rfl
               rotate_left
               ·
                simp only [Act.put, lt1_, lt2_, lt3_, i64_w, i32_w]
                rfl
               refine pure_ (i := 2) (N := some 51) (v := ?_) (a' := ?_) #[true, true, true, false, false, false, false, false, false, false, false, false, false] rfl rfl (any_of HT_.out (by kernel_rfl)) (fun _ _ _ h => h) (Or.inl ⟨by rfl, ?_⟩) ?_ ?_
               rotate_left
               ·
                intro w'
                go_simp
                with_reducible rfl
               rotate_left
               ·
                simp only [Act.put, lt1_, lt2_, lt3_, i64_w, i32_w]
                rfl
               refine pure_ (i := 3) (N := some 52) (v := ?_) (a' := ?_) #[true, true, true, true, false, false, false, false, false, false, false, false, false] rfl rfl (any_of HT_.out (by kernel_rfl)) (fun _ _ _ h => h) (Or.inl ⟨by rfl, ?_⟩) ?_ ?_
               rotate_left
               ·
                intro w'
                go_simp
                with_reducible rfl
               rotate_left
               ·
                simp only [Act.put, lt1_, lt2_, lt3_, i64_w, i32_w]
                rfl
               refine pure_ (i := 4) (N := some 53) (v := ?_) (a' := ?_) #[true, true, true, true, true, false, false, false, false, false, false, false, false] rfl rfl (any_of HT_.out (by kernel_rfl)) (fun _ _ _ h => h) (Or.inl ⟨by rfl, ?_⟩) ?_ ?_
               rotate_left
               ·
                intro w'
                go_simp
                with_reducible rfl
               rotate_left
               ·
                simp only [Act.put, lt1_, lt2_, lt3_, i64_w, i32_w]
                rfl
               refine pure_ (i := 5) (N := some 54) (v := ?_) (a' := ?_) #[true, true, true, true, true, true, false, false, false, false, false, false, false] rfl rfl (any_of HT_.out (by kernel_rfl)) (fun _ _ _ h => h) (Or.inl ⟨by rfl, ?_⟩) ?_ ?_
               rotate_left
               ·
                intro w'
                go_simp
                with_reducible rfl
               rotate_left
               ·
                simp only [Act.put, lt1_, lt2_, lt3_, i64_w, i32_w]
                rfl
               refine pure_ (i := 7) (N := some 56) (v := ?_) (a' := ?_) #[true, true, true, true, true, true, false, true, false, false, false, false, false] rfl rfl (any_of HT_.out (by kernel_rfl)) (fun _ _ _ h => h) (Or.inl ⟨by rfl, ?_⟩) ?_ ?_
               rotate_left
               ·
                intro w'
                go_simp
                with_reducible rfl
               rotate_left
               ·
                simp only [Act.put, lt1_, lt2_, lt3_, i64_w, i32_w]
                rfl
               refine pure_ (i := 8) (N := some 57) (v := ?_) (a' := ?_) #[true, true, true, true, true, true, false, true, true, false, false, false, false] rfl rfl (any_of HT_.out (by kernel_rfl)) (fun _ _ _ h => h) (Or.inl ⟨by rfl, ?_⟩) ?_ ?_
               rotate_left
               ·
                intro w'
                go_simp
                with_reducible rfl
               rotate_left
               ·
                simp only [Act.put, lt1_, lt2_, lt3_, i64_w, i32_w]
                rfl
               refine pure_ (i := 9) (N := some 58) (v := ?_) (a' := ?_) #[true, true, true, true, true, true, false, true, true, true, false, false, false] rfl rfl (any_of HT_.out (by kernel_rfl)) (fun _ _ _ h => h) (Or.inl ⟨by rfl, ?_⟩) ?_ ?_
               rotate_left
               ·
                intro w'
                go_simp
                with_reducible rfl
               rotate_left
               ·
                simp only [Act.put, lt1_, lt2_, lt3_, i64_w, i32_w]
                rfl
               refine take_ (i := 6) (N := some 55) (v := ?_) (a' := ?_) #[true, true, true, true, true, true, true, true, true, true, false, false, false] rfl rfl (take_ofW HT_.out HW_.out (by kernel_rfl)) (fun _ _ _ h => h) (Or.inl ⟨by rfl, ?_⟩) hHeld ?_ ?_
               rotate_left
               ·
                rintro w' ⟨s0, s1, s2, s3, s4, s5⟩
                go_simp
                with_reducible rfl
               rotate_left
               ·
                simp only [Act.put, lt1_, lt2_, lt3_, i64_w, i32_w]
                rfl
               refine take_ (i := 10) (N := some 59) (v := ?_) (a' := ?_) #[true, true, true, true, true, true, true, true, true, true, true, false, false] rfl rfl (take_ofW HT_.out HW_.out (by kernel_rfl)) (fun _ _ _ h => h) (Or.inl ⟨by rfl, ?_⟩) hHeld ?_ ?_
               rotate_left
               ·
                rintro w' ⟨s0, s1, s2, s3, s4, s5⟩
                go_simp
                with_reducible rfl
               rotate_left
               ·
                simp only [Act.put, lt1_, lt2_, lt3_, i64_w, i32_w]
                rfl
               refine one_ (i := 11) (N := some 60) #[true, true, true, true, true, true, true, true, true, true, true, true, false] rfl rfl (one_of HT_.out (by kernel_rfl)) (by decide) (fun K hK => ?_)
               refine goes_ Try.func42 (by kernel_rfl) rfl #[.agg #[.int .i64 ((rd_T24 l0 x10_2).f0), .int .i64 ((rd_T24 l0 x10_2).f1), .slice A474_2 ((rd_T24 l0 x10_2).f2).length c474_2], .agg #[.int .i64 ((rd_T24 l0 x8_2).f0), .int .i64 ((rd_T24 l0 x8_2).f1), .slice A475_2 ((rd_T24 l0 x8_2).f2).length c475_2]] (by rfl) rfl rfl au_ ?_
               with_reducible refine (tapearchiveref26_before.calls ((rd_T24 l0 x10_2).f0) ((rd_T24 l0 x10_2).f1) _ _ ((rd_T24 l0 x10_2).f2) ((rd_T24 l0 x8_2).f0) ((rd_T24 l0 x8_2).f1) _ _ ((rd_T24 l0 x8_2).f2) true _ ?side1 ?side2 ?side3 ?side4 A21.out).mono ?_
               (case side1 => repeat (first | exact (Kd.C_below HR474_2.out HB.out) | (with_reducible refine Kd.C_alloc ?_ _) | (with_reducible refine Kd.C_drewN ?_ _) | (with_reducible refine Kd.C_drew ?_)))
               (case side2 => exact HC474_2.out)
               (case side3 => repeat (first | exact (Kd.C_below HR475_2.out HB.out) | (with_reducible refine Kd.C_alloc ?_ _) | (with_reducible refine Kd.C_drewN ?_ _) | (with_reducible refine Kd.C_drew ?_)))
               (case side4 => exact HC475_2.out)
               rintro e w25 ⟨rfl, hb⟩
               refine ⟨_, rfl, ?_⟩
               have n0_ := am_ (bw_ (g := gb469) (o := .cells #[.int .i64 x470000_2, .int .i64 x470001_2, .slice none 0 0] 24 (0, 0)) (pk_ BK469.out) hb)
               have n1_ := am_ (sp_ (pb1_ HB.out GE469.out) hb)
               clear BK469
               clear HB
               have BK469 := n0_
               have HB := n1_
               clear n0_ n1_
               (try clear hb)
               (try clear hb2)
               (try clear hk)
               (try clear hi)
               refine hK.out _ _ ⟨((HB.out.cell (bk_ w _ hw474_0)).trans hw474_0), ((HB.out.cell (bk_ w _ hw474_1)).trans hw474_1), ((HB.out.cell (bk_ w _ hw474_2)).trans hw474_2), ((HB.out.cell (bk_ w _ hw475_0)).trans hw475_0), ((HB.out.cell (bk_ w _ hw475_1)).trans hw475_1), ((HB.out.cell (bk_ w _ hw475_2)).trans hw475_2)⟩ (fun hHeld => ?_)
               clear hK K
               refine norm_ (a' := ?_) ?_ ?_
               rotate_left
               ·
                show Act.put _ (some 60) _ = _
                simp only [Act.put, lt1_, lt2_, lt3_, i64_w, i32_w]
                rfl
               refine pure_ (i := 12) (N := some 61) (v := ?_) (a' := ?_) #[true, true, true, true, true, true, true, true, true, true, true, true, true] rfl rfl (any_of HT_.out (by kernel_rfl)) (fun _ _ _ h => h) (Or.inl ⟨by rfl, ?_⟩) ?_ ?_
               rotate_left
               ·
                intro w'
                go_simp
                with_reducible rfl
               rotate_left
               ·
                simp only [Act.put, lt1_, lt2_, lt3_, i64_w, i32_w]
                rfl
               refine done_ (done_of HT_.out (by kernel_rfl)) ?_
               try go_wp2
               go_roundg k2
               case measure => have := HJ2.out; have := HK2.out; omega
               case rel => exact ⟨(wrap64 (x7_2 + 1)), (x10_2), (ji15), (wrap64 (x10_2 + 1)), (x470000_2), (x470001_2), (by first | rfl | (simp; done) | (simp [*]; done)), (by first | rfl | (simp; done) | (simp [*]; done)), (by first | rfl | (simp; done) | (simp only [← hji15] <;> (first | rfl | simp)) | (simp [*]; done)), (by first | rfl | (simp; done) | (simp [*]; done)), H', ⟨by have := HJ2.out; have := HK2.out; omega⟩, ⟨by (with_reducible repeat (first | refine bn_ ?_ _ | refine bd_ ?_ | refine ba_ ?_ _)); exact BK469.out⟩, ⟨pb1_ HB.out GE469.out⟩⟩
              ·
               replace c22 := Bool.eq_false_iff.mpr c22
               subst c22
               have H1 : (tapearchiveref26_Elect.l0 k2 l0 l1 (wrap64 (x7_2 + 1)) x8_2 ji15 (wrap64 (x10_2 + 1))) = some (r1, r2, r3, r4, r5) := by rw [if_neg (show ¬ (false = true) by decide)] at H; exact H
               clear H
               have H := H1
               clear H1
               have H' := am_ H
               clear H
               have p470 : 0 ≤ (x10_2 : Int) := ot_ (by first | (with_reducible assumption) | assumption)
               have q470 : x10_2 < (l0.length : Int) := ot_ (by first | (with_reducible assumption) | assumption)
               obtain ⟨ad470, A470_2, c470_2, e470, hx470_0, hx470_1, hx470_2, hl470_2, hi470_2⟩ := at_T24 HR0.out x10_2 p470 q470
               cases e470
               replace hx470_0 := (HB.out.cell (bk_ w _ hx470_0)).trans hx470_0
               replace hx470_1 := (HB.out.cell (bk_ w _ hx470_1)).trans hx470_1
               replace hx470_2 := (HB.out.cell (bk_ w _ hx470_2)).trans hx470_2
               have HR470_2 := am_ hi470_2
               have HC470_2 := am_ hl470_2
               clear hi470_2 hl470_2
               replace p470 := eq_true p470
               replace q470 := eq_true q470
               try go_wp2_with (first | ((with_reducible refine gate_callee (f := 31) rfl ?_); refine goesL_ (some 32) rfl rfl Try.func31 (by kernel_rfl) rfl #[.agg #[.int .i64 ((rd_T24 l0 x10_2).f0), .int .i64 ((rd_T24 l0 x10_2).f1), .slice A470_2 ((rd_T24 l0 x10_2).f2).length c470_2]] rfl au_ ?_; (with_reducible refine (tapearchiveref26_valid.calls k2 ((rd_T24 l0 x10_2).f0) ((rd_T24 l0 x10_2).f1) _ _ ((rd_T24 l0 x10_2).f2) true _ ?side1 ?side2 A10.out).mono ?_); (case side1 => repeat (first | exact (Kd.C_below HR470_2.out HB.out) | (with_reducible refine Kd.C_alloc ?_ _) | (with_reducible refine Kd.C_drewN ?_ _) | (with_reducible refine Kd.C_drew ?_))); (case side2 => exact HC470_2.out); rintro e w26 ⟨rfl, hb⟩; refine ⟨_, rfl, ?_⟩; have n0_ := am_ (bw_ (g := gb469) (o := .cells #[.int .i64 x470000_2, .int .i64 x470001_2, .slice none 0 0] 24 (0, 0)) (pk_ BK469.out) hb); have n1_ := am_ (sp_ (pb1_ HB.out GE469.out) hb); clear BK469; clear HB; have BK469 := n0_; have HB := n1_; clear n0_ n1_; (try clear hb); (try clear hb2); (try clear hk); (try clear hi); have p472 : 0 ≤ (x10_2 : Int) := ot_ (by first | (with_reducible assumption) | assumption); have q472 : x10_2 < (l1.length : Int) := ot_ (by first | (with_reducible assumption) | assumption); obtain ⟨ad472, e472, hx472_0⟩ := Kd.at_bool HR1.out x10_2 p472 q472; (try rw [← Nbq13.out] at hx472_0); cases e472; replace hx472_0 := (HB.out.cell (bk_ w _ hx472_0)).trans hx472_0; replace p472 := eq_true p472; replace q472 := eq_true q472; have p473 : 0 ≤ (x10_2 : Int) := ot_ (by first | (with_reducible assumption) | assumption); have q473 : x10_2 < (l0.length : Int) := ot_ (by first | (with_reducible assumption) | assumption); obtain ⟨ad473, A473_2, c473_2, e473, hx473_0, hx473_1, hx473_2, hl473_2, hi473_2⟩ := at_T24 HR0.out x10_2 p473 q473; obtain rfl : ad470 = ad473 := (by injection e473); replace hx473_0 := (HB.out.cell (bk_ w _ hx473_0)).trans hx473_0; replace hx473_1 := (HB.out.cell (bk_ w _ hx473_1)).trans hx473_1; replace hx473_2 := (HB.out.cell (bk_ w _ hx473_2)).trans hx473_2; have HR473_2 := am_ hi473_2; have HC473_2 := am_ hl473_2; clear hi473_2 hl473_2; replace p473 := eq_true p473; replace q473 := eq_true q473))
               have n0_ := am_ (bd_ BK469.out)
               have n1_ := am_ (b1_ HB.out)
               clear BK469
               clear HB
               have BK469 := n0_
               have HB := n1_
               clear n0_ n1_
               have p474 : 0 ≤ (x10_2 : Int) := ot_ (by first | (with_reducible assumption) | assumption)
               have q474 : x10_2 < (l0.length : Int) := ot_ (by first | (with_reducible assumption) | assumption)
               obtain ⟨ad474, A474_2, c474_2, e474, hx474_0, hx474_1, hx474_2, hl474_2, hi474_2⟩ := at_T24 HR0.out x10_2 p474 q474
               have hw474_2 := hx474_2
               have hw474_1 := hx474_1
               have hw474_0 := hx474_0
               obtain rfl : ad470 = ad474 := (by injection e474)
               replace hx474_0 := (HB.out.cell (bk_ w _ hx474_0)).trans hx474_0
               replace hx474_1 := (HB.out.cell (bk_ w _ hx474_1)).trans hx474_1
               replace hx474_2 := (HB.out.cell (bk_ w _ hx474_2)).trans hx474_2
               have HR474_2 := am_ hi474_2
               have HC474_2 := am_ hl474_2
               clear hi474_2 hl474_2
               replace p474 := eq_true p474
               replace q474 := eq_true q474
               have p475 : 0 ≤ (x8_2 : Int) := ot_ (by first | (with_reducible assumption) | assumption)
               have q475 : x8_2 < (l0.length : Int) := ot_ (by first | (with_reducible assumption) | assumption)
               obtain ⟨ad475, A475_2, c475_2, e475, hx475_0, hx475_1, hx475_2, hl475_2, hi475_2⟩ := at_T24 HR0.out x8_2 p475 q475
               have hw475_2 := hx475_2
               have hw475_1 := hx475_1
               have hw475_0 := hx475_0
               obtain rfl : ad470 = ad475 := (by injection e475)
               replace hx475_0 := (HB.out.cell (bk_ w _ hx475_0)).trans hx475_0
               replace hx475_1 := (HB.out.cell (bk_ w _ hx475_1)).trans hx475_1
               replace hx475_2 := (HB.out.cell (bk_ w _ hx475_2)).trans hx475_2
               have HR475_2 := am_ hi475_2
               have HC475_2 := am_ hl475_2
               clear hi475_2 hl475_2
               replace p475 := eq_true p475
               replace q475 := eq_true q475
               refine start_ (n := 13) (S := fun w' => w'.cell? (ad470.add ((x10_2).toNat * 3)) = some (.int .i64 ((rd_T24 l0 x10_2).f0)) ∧ w'.cell? ⟨(ad470.add ((x10_2).toNat * 3)).block, (ad470.add ((x10_2).toNat * 3)).off + 1, none⟩ = some (.int .i64 ((rd_T24 l0 x10_2).f1)) ∧ w'.cell? ⟨(ad470.add ((x10_2).toNat * 3)).block, (ad470.add ((x10_2).toNat * 3)).off + 2, none⟩ = some (.slice A474_2 ((rd_T24 l0 x10_2).f2).length c474_2) ∧ w'.cell? (ad470.add ((x8_2).toNat * 3)) = some (.int .i64 ((rd_T24 l0 x8_2).f0)) ∧ w'.cell? ⟨(ad470.add ((x8_2).toNat * 3)).block, (ad470.add ((x8_2).toNat * 3)).off + 1, none⟩ = some (.int .i64 ((rd_T24 l0 x8_2).f1)) ∧ w'.cell? ⟨(ad470.add ((x8_2).toNat * 3)).block, (ad470.add ((x8_2).toNat * 3)).off + 2, none⟩ = some (.slice A475_2 ((rd_T24 l0 x8_2).f2).length c475_2)) (ds := []) #[false, false, false, false, false, false, false, false, false, false, false, false, false] (by kernel_rfl) rfl rfl ⟨((HB.out.cell (bk_ w _ hw474_0)).trans hw474_0), ((HB.out.cell (bk_ w _ hw474_1)).trans hw474_1), ((HB.out.cell (bk_ w _ hw474_2)).trans hw474_2), ((HB.out.cell (bk_ w _ hw475_0)).trans hw475_0), ((HB.out.cell (bk_ w _ hw475_1)).trans hw475_1), ((HB.out.cell (bk_ w _ hw475_2)).trans hw475_2)⟩ (fun hHeld => ?_); refine with_tabW tapearchiveref26_Elect.tab12 tapearchiveref26_Elect.bits12 (fun HT_ HW_ => ?_)
               generalize w26.drew = w27 at BK469 HB HR474_2 HR475_2 hx474_0 hx474_1 hx474_2 hx475_0 hx475_1 hx475_2 hHeld ⊢
               refine pure_ (i := 0) (N := some 49) (v := ?_) (a' := ?_) #[true, false, false, false, false, false, false, false, false, false, false, false, false] rfl rfl (any_of HT_.out (by kernel_rfl)) (fun _ _ _ h => h) (Or.inl ⟨by rfl, ?_⟩) ?_ ?_
               rotate_left
               ·
                intro w'
                go_simp
                with_reducible rfl
               rotate_left
               ·
                simp only [Act.put, lt1_, lt2_, lt3_, i64_w, i32_w]
                rfl
               refine pure_ (i := 1) (N := some 50) (v := ?_) (a' := ?_) #[true, true, false, false, false, false, false, false, false, false, false, false, false] rfl rfl (any_of HT_.out (by kernel_rfl)) (fun _ _ _ h => h) (Or.inl ⟨by rfl, ?_⟩) ?_ ?_
               rotate_left
               ·
                intro w'
                go_simp
                with_reducible rfl
               rotate_left
               ·
                simp only [Act.put, lt1_, lt2_, lt3_, i64_w, i32_w]
                rfl
               refine pure_ (i := 2) (N := some 51) (v := ?_) (a' := ?_) #[true, true, true, false, false, false, false, false, false, false, false, false, false] rfl rfl (any_of HT_.out (by kernel_rfl)) (fun _ _ _ h => h) (Or.inl ⟨by rfl, ?_⟩) ?_ ?_
               rotate_left
               ·
                intro w'
                go_simp
                with_reducible rfl
               rotate_left
               ·
                simp only [Act.put, lt1_, lt2_, lt3_, i64_w, i32_w]
                rfl
               refine pure_ (i := 3) (N := some 52) (v := ?_) (a' := ?_) #[true, true, true, true, false, false, false, false, false, false, false, false, false] rfl rfl (any_of HT_.out (by kernel_rfl)) (fun _ _ _ h => h) (Or.inl ⟨by rfl, ?_⟩) ?_ ?_
               rotate_left
               ·
                intro w'
                go_simp
                with_reducible rfl
               rotate_left
               ·
                simp only [Act.put, lt1_, lt2_, lt3_, i64_w, i32_w]
                rfl
               refine pure_ (i := 4) (N := some 53) (v := ?_) (a' := ?_) #[true, true, true, true, true, false, false, false, false, false, false, false, false] rfl rfl (any_of HT_.out (by kernel_rfl)) (fun _ _ _ h => h) (Or.inl ⟨by rfl, ?_⟩) ?_ ?_
               rotate_left
               ·
                intro w'
                go_simp
                with_reducible rfl
               rotate_left
               ·
                simp only [Act.put, lt1_, lt2_, lt3_, i64_w, i32_w]
                rfl
               refine pure_ (i := 5) (N := some 54) (v := ?_) (a' := ?_) #[true, true, true, true, true, true, false, false, false, false, false, false, false] rfl rfl (any_of HT_.out (by kernel_rfl)) (fun _ _ _ h => h) (Or.inl ⟨by rfl, ?_⟩) ?_ ?_
               rotate_left
               ·
                intro w'
                go_simp
                with_reducible rfl
               rotate_left
               ·
                simp only [Act.put, lt1_, lt2_, lt3_, i64_w, i32_w]
                rfl
               refine pure_ (i := 7) (N := some 56) (v := ?_) (a' := ?_) #[true, true, true, true, true, true, false, true, false, false, false, false, false] rfl rfl (any_of HT_.out (by kernel_rfl)) (fun _ _ _ h => h) (Or.inl ⟨by rfl, ?_⟩) ?_ ?_
               rotate_left
               ·
                intro w'
                go_simp
                with_reducible rfl
               rotate_left
               ·
                simp only [Act.put, lt1_, lt2_, lt3_, i64_w, i32_w]
                rfl
               refine pure_ (i := 8) (N := some 57) (v := ?_) (a' := ?_) #[true, true, true, true, true, true, false, true, true, false, false, false, false] rfl rfl (any_of HT_.out (by kernel_rfl)) (fun _ _ _ h => h) (Or.inl ⟨by rfl, ?_⟩) ?_ ?_
               rotate_left
               ·
                intro w'
                go_simp
                with_reducible rfl
               rotate_left
               ·
                simp only [Act.put, lt1_, lt2_, lt3_, i64_w, i32_w]
                rfl
               refine pure_ (i := 9) (N := some 58) (v := ?_) (a' := ?_) #[true, true, true, true, true, true, false, true, true, true, false, false, false] rfl rfl (any_of HT_.out (by kernel_rfl)) (fun _ _ _ h => h) (Or.inl ⟨by rfl, ?_⟩) ?_ ?_
               rotate_left
               ·
                intro w'
                go_simp
                with_reducible rfl
               rotate_left
               ·
                simp only [Act.put, lt1_, lt2_, lt3_, i64_w, i32_w]
                rfl
               refine take_ (i := 6) (N := some 55) (v := ?_) (a' := ?_) #[true, true, true, true, true, true, true, true, true, true, false, false, false] rfl rfl (take_ofW HT_.out HW_.out (by kernel_rfl)) (fun _ _ _ h => h) (Or.inl ⟨by rfl, ?_⟩) hHeld ?_ ?_
               rotate_left
               ·
                rintro w' ⟨s0, s1, s2, s3, s4, s5⟩
                go_simp
                with_reducible rfl
               rotate_left
               ·
                simp only [Act.put, lt1_, lt2_, lt3_, i64_w, i32_w]
                rfl
               refine take_ (i := 10) (N := some 59) (v := ?_) (a' := ?_) #[true, true, true, true, true, true, true, true, true, true, true, false, false] rfl rfl (take_ofW HT_.out HW_.out (by kernel_rfl)) (fun _ _ _ h => h) (Or.inl ⟨by rfl, ?_⟩) hHeld ?_ ?_
               rotate_left
               ·
                rintro w' ⟨s0, s1, s2, s3, s4, s5⟩
                go_simp
                with_reducible rfl
               rotate_left
               ·
                simp only [Act.put, lt1_, lt2_, lt3_, i64_w, i32_w]
                rfl
               refine one_ (i := 11) (N := some 60) #[true, true, true, true, true, true, true, true, true, true, true, true, false] rfl rfl (one_of HT_.out (by kernel_rfl)) (by decide) (fun K hK => ?_)
               refine goes_ Try.func42 (by kernel_rfl) rfl #[.agg #[.int .i64 ((rd_T24 l0 x10_2).f0), .int .i64 ((rd_T24 l0 x10_2).f1), .slice A474_2 ((rd_T24 l0 x10_2).f2).length c474_2], .agg #[.int .i64 ((rd_T24 l0 x8_2).f0), .int .i64 ((rd_T24 l0 x8_2).f1), .slice A475_2 ((rd_T24 l0 x8_2).f2).length c475_2]] (by rfl) rfl rfl au_ ?_
               with_reducible refine (tapearchiveref26_before.calls ((rd_T24 l0 x10_2).f0) ((rd_T24 l0 x10_2).f1) _ _ ((rd_T24 l0 x10_2).f2) ((rd_T24 l0 x8_2).f0) ((rd_T24 l0 x8_2).f1) _ _ ((rd_T24 l0 x8_2).f2) false _ ?side1 ?side2 ?side3 ?side4 A21.out).mono ?_
               (case side1 => repeat (first | exact (Kd.C_below HR474_2.out HB.out) | (with_reducible refine Kd.C_alloc ?_ _) | (with_reducible refine Kd.C_drewN ?_ _) | (with_reducible refine Kd.C_drew ?_)))
               (case side2 => exact HC474_2.out)
               (case side3 => repeat (first | exact (Kd.C_below HR475_2.out HB.out) | (with_reducible refine Kd.C_alloc ?_ _) | (with_reducible refine Kd.C_drewN ?_ _) | (with_reducible refine Kd.C_drew ?_)))
               (case side4 => exact HC475_2.out)
               rintro e w28 ⟨rfl, hb⟩
               refine ⟨_, rfl, ?_⟩
               have n0_ := am_ (bw_ (g := gb469) (o := .cells #[.int .i64 x470000_2, .int .i64 x470001_2, .slice none 0 0] 24 (0, 0)) (pk_ BK469.out) hb)
               have n1_ := am_ (sp_ (pb1_ HB.out GE469.out) hb)
               clear BK469
               clear HB
               have BK469 := n0_
               have HB := n1_
               clear n0_ n1_
               (try clear hb)
               (try clear hb2)
               (try clear hk)
               (try clear hi)
               refine hK.out _ _ ⟨((HB.out.cell (bk_ w _ hw474_0)).trans hw474_0), ((HB.out.cell (bk_ w _ hw474_1)).trans hw474_1), ((HB.out.cell (bk_ w _ hw474_2)).trans hw474_2), ((HB.out.cell (bk_ w _ hw475_0)).trans hw475_0), ((HB.out.cell (bk_ w _ hw475_1)).trans hw475_1), ((HB.out.cell (bk_ w _ hw475_2)).trans hw475_2)⟩ (fun hHeld => ?_)
               clear hK K
               refine norm_ (a' := ?_) ?_ ?_
               rotate_left
               ·
                show Act.put _ (some 60) _ = _
                simp only [Act.put, lt1_, lt2_, lt3_, i64_w, i32_w]
                rfl
               refine pure_ (i := 12) (N := some 61) (v := ?_) (a' := ?_) #[true, true, true, true, true, true, true, true, true, true, true, true, true] rfl rfl (any_of HT_.out (by kernel_rfl)) (fun _ _ _ h => h) (Or.inl ⟨by rfl, ?_⟩) ?_ ?_
               rotate_left
               ·
                intro w'
                go_simp
                with_reducible rfl
               rotate_left
               ·
                simp only [Act.put, lt1_, lt2_, lt3_, i64_w, i32_w]
                rfl
               refine done_ (done_of HT_.out (by kernel_rfl)) ?_
               try go_wp2
               go_roundg k2
               case measure => have := HJ2.out; have := HK2.out; omega
               case rel => exact ⟨(wrap64 (x7_2 + 1)), (x8_2), (ji15), (wrap64 (x10_2 + 1)), (x470000_2), (x470001_2), (by first | rfl | (simp; done) | (simp [*]; done)), (by first | rfl | (simp; done) | (simp [*]; done)), (by first | rfl | (simp; done) | (simp only [← hji15] <;> (first | rfl | simp)) | (simp [*]; done)), (by first | rfl | (simp; done) | (simp [*]; done)), H', ⟨by have := HJ2.out; have := HK2.out; omega⟩, ⟨by (with_reducible repeat (first | refine bn_ ?_ _ | refine bd_ ?_ | refine ba_ ?_ _)); exact BK469.out⟩, ⟨pb1_ HB.out GE469.out⟩⟩
             ·
              rw [if_neg c20] at H
              exact absurd H (by simp)
            ·
             rw [if_neg c19] at H
             exact absurd H (by simp)
          ·
           replace c14 := Bool.eq_false_iff.mpr c14
           subst c14
           have H1 : (tapearchiveref26_Elect.l0 k2 l0 l1 x7_2 x8_2 x9_2 (wrap64 (x10_2 + 1))) = some (r1, r2, r3, r4, r5) := by rw [if_neg (show ¬ (false = true) by decide)] at H; exact H
           clear H
           have H := H1
           clear H1
           have H' := am_ H
           clear H
           have p470 : 0 ≤ (x10_2 : Int) := ot_ (by first | (with_reducible assumption) | assumption)
           have q470 : x10_2 < (l0.length : Int) := ot_ (by first | (with_reducible assumption) | assumption)
           obtain ⟨ad470, A470_2, c470_2, e470, hx470_0, hx470_1, hx470_2, hl470_2, hi470_2⟩ := at_T24 HR0.out x10_2 p470 q470
           cases e470
           replace hx470_0 := (HB.out.cell (bk_ w _ hx470_0)).trans hx470_0
           replace hx470_1 := (HB.out.cell (bk_ w _ hx470_1)).trans hx470_1
           replace hx470_2 := (HB.out.cell (bk_ w _ hx470_2)).trans hx470_2
           have HR470_2 := am_ hi470_2
           have HC470_2 := am_ hl470_2
           clear hi470_2 hl470_2
           replace p470 := eq_true p470
           replace q470 := eq_true q470
           go_wp2_with (first | ((with_reducible refine gate_callee (f := 31) rfl ?_); refine goesL_ (some 32) rfl rfl Try.func31 (by kernel_rfl) rfl #[.agg #[.int .i64 ((rd_T24 l0 x10_2).f0), .int .i64 ((rd_T24 l0 x10_2).f1), .slice A470_2 ((rd_T24 l0 x10_2).f2).length c470_2]] rfl au_ ?_; (with_reducible refine (tapearchiveref26_valid.calls k2 ((rd_T24 l0 x10_2).f0) ((rd_T24 l0 x10_2).f1) _ _ ((rd_T24 l0 x10_2).f2) true _ ?side1 ?side2 A10.out).mono ?_); (case side1 => repeat (first | exact (Kd.C_below HR470_2.out HB.out) | (with_reducible refine Kd.C_alloc ?_ _) | (with_reducible refine Kd.C_drewN ?_ _) | (with_reducible refine Kd.C_drew ?_))); (case side2 => exact HC470_2.out); rintro e w29 ⟨rfl, hb⟩; refine ⟨_, rfl, ?_⟩; have n0_ := am_ (bw_ (g := gb469) (o := .cells #[.int .i64 x470000_2, .int .i64 x470001_2, .slice none 0 0] 24 (0, 0)) (pk_ BK469.out) hb); have n1_ := am_ (sp_ (pb1_ HB.out GE469.out) hb); clear BK469; clear HB; have BK469 := n0_; have HB := n1_; clear n0_ n1_; (try clear hb); (try clear hb2); (try clear hk); (try clear hi); have p472 : 0 ≤ (x10_2 : Int) := ot_ (by first | (with_reducible assumption) | assumption); have q472 : x10_2 < (l1.length : Int) := ot_ (by first | (with_reducible assumption) | assumption); obtain ⟨ad472, e472, hx472_0⟩ := Kd.at_bool HR1.out x10_2 p472 q472; (try rw [← Nbq13.out] at hx472_0); cases e472; replace hx472_0 := (HB.out.cell (bk_ w _ hx472_0)).trans hx472_0; replace p472 := eq_true p472; replace q472 := eq_true q472))
           go_roundg k2
           case measure => have := HJ2.out; have := HK2.out; omega
           case rel => exact ⟨(x7_2), (x8_2), (x9_2), (wrap64 (x10_2 + 1)), (x470000_2), (x470001_2), (by first | rfl | (simp; done) | (simp [*]; done)), (by first | rfl | (simp; done) | (simp [*]; done)), (by first | rfl | (simp; done) | (simp [*]; done)), (by first | rfl | (simp; done) | (simp [*]; done)), H', ⟨by have := HJ2.out; have := HK2.out; omega⟩, ⟨by (with_reducible repeat (first | refine bn_ ?_ _ | refine bd_ ?_ | refine ba_ ?_ _)); exact BK469.out⟩, ⟨pb1_ HB.out GE469.out⟩⟩
         ·
          rw [if_neg c12] at H
          exact absurd H (by simp)
        ·
         replace c11 := Bool.eq_false_iff.mpr c11
         subst c11
         have H1 : (some (0, 0, 0, ([] : List (S79)), 8)) = some (r1, r2, r3, r4, r5) := by rw [if_neg (show ¬ (false = true) by decide)] at H; exact H
         clear H
         have H := H1
         clear H1
         simp only [Option.some.injEq, Prod.mk.injEq] at H
         obtain ⟨rfl, rfl, rfl, rfl, rfl⟩ := H
         have p470 : 0 ≤ (x10_2 : Int) := ot_ (by first | (with_reducible assumption) | assumption)
         have q470 : x10_2 < (l0.length : Int) := ot_ (by first | (with_reducible assumption) | assumption)
         obtain ⟨ad470, A470_2, c470_2, e470, hx470_0, hx470_1, hx470_2, hl470_2, hi470_2⟩ := at_T24 HR0.out x10_2 p470 q470
         cases e470
         replace hx470_0 := (HB.out.cell (bk_ w _ hx470_0)).trans hx470_0
         replace hx470_1 := (HB.out.cell (bk_ w _ hx470_1)).trans hx470_1
         replace hx470_2 := (HB.out.cell (bk_ w _ hx470_2)).trans hx470_2
         have HR470_2 := am_ hi470_2
         have HC470_2 := am_ hl470_2
         clear hi470_2 hl470_2
         replace p470 := eq_true p470
         replace q470 := eq_true q470
         go_wp2_with (first | ((with_reducible refine gate_callee (f := 31) rfl ?_); refine goesL_ (some 32) rfl rfl Try.func31 (by kernel_rfl) rfl #[.agg #[.int .i64 ((rd_T24 l0 x10_2).f0), .int .i64 ((rd_T24 l0 x10_2).f1), .slice A470_2 ((rd_T24 l0 x10_2).f2).length c470_2]] rfl au_ ?_; (with_reducible refine (tapearchiveref26_valid.calls k2 ((rd_T24 l0 x10_2).f0) ((rd_T24 l0 x10_2).f1) _ _ ((rd_T24 l0 x10_2).f2) false _ ?side1 ?side2 A10.out).mono ?_); (case side1 => repeat (first | exact (Kd.C_below HR470_2.out HB.out) | (with_reducible refine Kd.C_alloc ?_ _) | (with_reducible refine Kd.C_drewN ?_ _) | (with_reducible refine Kd.C_drew ?_))); (case side2 => exact HC470_2.out); rintro e w30 ⟨rfl, hb⟩; refine ⟨_, rfl, ?_⟩; have n0_ := am_ (bw_ (g := gb469) (o := .cells #[.int .i64 x470000_2, .int .i64 x470001_2, .slice none 0 0] 24 (0, 0)) (pk_ BK469.out) hb); have n1_ := am_ (sp_ (pb1_ HB.out GE469.out) hb); clear BK469; clear HB; have BK469 := n0_; have HB := n1_; clear n0_ n1_; (try clear hb); (try clear hb2); (try clear hk); (try clear hi); have hcz31_0 : w30.cell? ⟨gb469, 0, none⟩ = some (.int .i64 x470000_2) := (bc_ BK469.out 0).trans rfl; have hcz31_1 : w30.cell? ⟨gb469, 1, none⟩ = some (.int .i64 x470001_2) := (bc_ BK469.out 1).trans rfl; have hcz31_2 : w30.cell? ⟨gb469, 2, none⟩ = some (.slice none 0 0) := (bc_ BK469.out 2).trans rfl; have hfz31_0 := bf_ BK469.out 0; have hfz31_1 := bf_ BK469.out 1; have hfz31_2 := bf_ BK469.out 2))
         refine bodyPost_ret (results_list (rs := [.tmp 4, .cell 5 24, .tmp 6]) rfl (by simp) (.tmp (.cell gb469 24 #[.int .i64 0, .int .i64 0, .slice none 0 0] (0, 0) _ rfl (by (with_reducible repeat (first | refine bn_ ?_ _ | refine bd_ ?_ | refine ba_ ?_ _)); refine blk_put (cs := #[.int .i64 0, .int .i64 0, .slice none 0 0]) ?_ 2 _ rfl; (with_reducible repeat (first | refine bn_ ?_ _ | refine bd_ ?_ | refine ba_ ?_ _)); refine blk_put (cs := #[.int .i64 0, .int .i64 x470001_2, .slice none 0 0]) ?_ 1 _ rfl; (with_reducible repeat (first | refine bn_ ?_ _ | refine bd_ ?_ | refine ba_ ?_ _)); refine blk_put (cs := #[.int .i64 x470000_2, .int .i64 x470001_2, .slice none 0 0]) ?_ 0 _ rfl; (with_reducible repeat (first | refine bn_ ?_ _ | refine bd_ ?_ | refine ba_ ?_ _)); exact BK469.out) Try.underlying24 rfl (by kernel_rfl) (.tmp .nil)))) rfl ?_
         exact ⟨_, by first | rfl | (simp [errW_none, errW_some] <;> rfl) | (simp [*, errW_none, errW_some] <;> rfl), by first | exact Kd.S_nil _ _ _ _ _ | exact Kd.N_nil _ _ _ _ _ | exact Kd.V_nil _ _ _ _ _ | exact Kd.Q_nil _ _ _ _ _ | exact Kd.R_nil _ _ _ _ _, pb1_ HB.out GE469.out⟩
       ·
        rw [if_neg c9] at H
        exact absurd H (by simp)
      ·
       rw [if_neg c8] at H
       have c8b0 : decide (x10_2 < (l0.length : Int)) = false := df_ c8
       clear c8
       by_cases c32 : x7_2 ≤ (wrap64 ((l0.length : Int) / 2))
       ·
        rw [if_pos c32] at H
        have c32b0 : decide (x7_2 ≤ (wrap64 ((l0.length : Int) / 2))) = true := de_ c32
        clear c32
        simp only [Option.some.injEq, Prod.mk.injEq] at H
        obtain ⟨rfl, rfl, rfl, rfl, rfl⟩ := H
        have hcz33_0 : wr.cell? ⟨gb469, 0, none⟩ = some (.int .i64 x470000_2) := (bc_ BK469.out 0).trans rfl
        have hcz33_1 : wr.cell? ⟨gb469, 1, none⟩ = some (.int .i64 x470001_2) := (bc_ BK469.out 1).trans rfl
        have hcz33_2 : wr.cell? ⟨gb469, 2, none⟩ = some (.slice none 0 0) := (bc_ BK469.out 2).trans rfl
        have hfz33_0 := bf_ BK469.out 0
        have hfz33_1 := bf_ BK469.out 1
        have hfz33_2 := bf_ BK469.out 2
        go_wp2
        refine bodyPost_ret (results_list (rs := [.tmp 4, .cell 5 24, .tmp 6]) rfl (by simp) (.tmp (.cell gb469 24 #[.int .i64 0, .int .i64 0, .slice none 0 0] (0, 0) _ rfl (by (with_reducible repeat (first | refine bn_ ?_ _ | refine bd_ ?_ | refine ba_ ?_ _)); refine blk_put (cs := #[.int .i64 0, .int .i64 0, .slice none 0 0]) ?_ 2 _ rfl; (with_reducible repeat (first | refine bn_ ?_ _ | refine bd_ ?_ | refine ba_ ?_ _)); refine blk_put (cs := #[.int .i64 0, .int .i64 x470001_2, .slice none 0 0]) ?_ 1 _ rfl; (with_reducible repeat (first | refine bn_ ?_ _ | refine bd_ ?_ | refine ba_ ?_ _)); refine blk_put (cs := #[.int .i64 x470000_2, .int .i64 x470001_2, .slice none 0 0]) ?_ 0 _ rfl; (with_reducible repeat (first | refine bn_ ?_ _ | refine bd_ ?_ | refine ba_ ?_ _)); exact BK469.out) Try.underlying24 rfl (by kernel_rfl) (.tmp .nil)))) rfl ?_
        exact ⟨_, by first | rfl | (simp [errW_none, errW_some] <;> rfl) | (simp [*, errW_none, errW_some] <;> rfl), by first | exact Kd.S_nil _ _ _ _ _ | exact Kd.N_nil _ _ _ _ _ | exact Kd.V_nil _ _ _ _ _ | exact Kd.Q_nil _ _ _ _ _ | exact Kd.R_nil _ _ _ _ _, pb1_ HB.out GE469.out⟩
       ·
        rw [if_neg c32] at H
        have c32b0 : decide (x7_2 ≤ (wrap64 ((l0.length : Int) / 2))) = false := df_ c32
        clear c32
        by_cases c34 : x9_2 = 1125899906842624
        ·
         rw [if_pos c34] at H
         have c34b0 : (x9_2 == 1125899906842624) = true := beq_iff_eq.mpr c34
         have c34b1 : (x9_2 != 1125899906842624) = false := bne_eq_false_iff_eq.mpr c34
         clear c34
         simp only [Option.some.injEq, Prod.mk.injEq] at H
         obtain ⟨rfl, rfl, rfl, rfl, rfl⟩ := H
         have hcz35_0 : wr.cell? ⟨gb469, 0, none⟩ = some (.int .i64 x470000_2) := (bc_ BK469.out 0).trans rfl
         have hcz35_1 : wr.cell? ⟨gb469, 1, none⟩ = some (.int .i64 x470001_2) := (bc_ BK469.out 1).trans rfl
         have hcz35_2 : wr.cell? ⟨gb469, 2, none⟩ = some (.slice none 0 0) := (bc_ BK469.out 2).trans rfl
         have hfz35_0 := bf_ BK469.out 0
         have hfz35_1 := bf_ BK469.out 1
         have hfz35_2 := bf_ BK469.out 2
         go_wp2
         refine bodyPost_ret (results_list (rs := [.tmp 4, .cell 5 24, .tmp 6]) rfl (by simp) (.tmp (.cell gb469 24 #[.int .i64 0, .int .i64 0, .slice none 0 0] (0, 0) _ rfl (by (with_reducible repeat (first | refine bn_ ?_ _ | refine bd_ ?_ | refine ba_ ?_ _)); refine blk_put (cs := #[.int .i64 0, .int .i64 0, .slice none 0 0]) ?_ 2 _ rfl; (with_reducible repeat (first | refine bn_ ?_ _ | refine bd_ ?_ | refine ba_ ?_ _)); refine blk_put (cs := #[.int .i64 0, .int .i64 x470001_2, .slice none 0 0]) ?_ 1 _ rfl; (with_reducible repeat (first | refine bn_ ?_ _ | refine bd_ ?_ | refine ba_ ?_ _)); refine blk_put (cs := #[.int .i64 x470000_2, .int .i64 x470001_2, .slice none 0 0]) ?_ 0 _ rfl; (with_reducible repeat (first | refine bn_ ?_ _ | refine bd_ ?_ | refine ba_ ?_ _)); exact BK469.out) Try.underlying24 rfl (by kernel_rfl) (.tmp .nil)))) rfl ?_
         exact ⟨_, by first | rfl | (simp [errW_none, errW_some] <;> rfl) | (simp [*, errW_none, errW_some] <;> rfl), by first | exact Kd.S_nil _ _ _ _ _ | exact Kd.N_nil _ _ _ _ _ | exact Kd.V_nil _ _ _ _ _ | exact Kd.Q_nil _ _ _ _ _ | exact Kd.R_nil _ _ _ _ _, pb1_ HB.out GE469.out⟩
        ·
         rw [if_neg c34] at H
         have c34b0 : (x9_2 == 1125899906842624) = false := beq_eq_false_iff_ne.mpr c34
         have c34b1 : (x9_2 != 1125899906842624) = true := bne_iff_ne.mpr c34
         by_cases c36 : 0 ≤ x8_2
         ·
          rw [if_pos c36] at H
          have c36b0 : decide (0 ≤ x8_2) = true := de_ c36
          clear c36
          by_cases c37 : x8_2 < (l0.length : Int)
          ·
           rw [if_pos c37] at H
           have c37b0 : decide (x8_2 < (l0.length : Int)) = true := de_ c37
           clear c37
           replace H := Option.bind_eq_some_iff.mp H
           obtain ⟨t479, A380, H⟩ := H
           replace H : (some (x8_2, wrap64 (x9_2 + 1), (rd_T24 l0 x8_2).f1, t479, 0)) = some (r1, r2, r3, r4, r5) := H
           have A38 := am_ A380
           clear A380
           simp only [Option.some.injEq, Prod.mk.injEq] at H
           obtain ⟨rfl, rfl, rfl, rfl, rfl⟩ := H
           try go_wp2
           have n0_ := am_ (bd_ BK469.out)
           have n1_ := am_ (b1_ HB.out)
           clear BK469
           clear HB
           have BK469 := n0_
           have HB := n1_
           clear n0_ n1_
           have p477 : 0 ≤ (x8_2 : Int) := ot_ (by first | (with_reducible assumption) | assumption)
           have q477 : x8_2 < (l0.length : Int) := ot_ (by first | (with_reducible assumption) | assumption)
           obtain ⟨ad477, A477_2, c477_2, e477, hx477_0, hx477_1, hx477_2, hl477_2, hi477_2⟩ := at_T24 HR0.out x8_2 p477 q477
           have hw477_2 := hx477_2
           have hw477_1 := hx477_1
           have hw477_0 := hx477_0
           cases e477
           replace hx477_0 := (HB.out.cell (bk_ w _ hx477_0)).trans hx477_0
           replace hx477_1 := (HB.out.cell (bk_ w _ hx477_1)).trans hx477_1
           replace hx477_2 := (HB.out.cell (bk_ w _ hx477_2)).trans hx477_2
           have HR477_2 := am_ hi477_2
           have HC477_2 := am_ hl477_2
           clear hi477_2 hl477_2
           replace p477 := eq_true p477
           replace q477 := eq_true q477
           have p478 : 0 ≤ (x8_2 : Int) := ot_ (by first | (with_reducible assumption) | assumption)
           have q478 : x8_2 < (l0.length : Int) := ot_ (by first | (with_reducible assumption) | assumption)
           obtain ⟨ad478, A478_2, c478_2, e478, hx478_0, hx478_1, hx478_2, hl478_2, hi478_2⟩ := at_T24 HR0.out x8_2 p478 q478
           have hw478_2 := hx478_2
           have hw478_1 := hx478_1
           have hw478_0 := hx478_0
           obtain rfl : ad477 = ad478 := (by injection e478)
           replace hx478_0 := (HB.out.cell (bk_ w _ hx478_0)).trans hx478_0
           replace hx478_1 := (HB.out.cell (bk_ w _ hx478_1)).trans hx478_1
           replace hx478_2 := (HB.out.cell (bk_ w _ hx478_2)).trans hx478_2
           have HR478_2 := am_ hi478_2
           have HC478_2 := am_ hl478_2
           clear hi478_2 hl478_2
           replace p478 := eq_true p478
           replace q478 := eq_true q478
           have ea_ := si_ (hx477_2.symm.trans hx478_2)
           injection ea_ with ea_ en_ ec_
           subst ea_
           subst ec_
           clear en_
           refine start_ (n := 18) (S := fun w' => w'.cell? (ad477.add ((x8_2).toNat * 3)) = some (.int .i64 ((rd_T24 l0 x8_2).f0)) ∧ w'.cell? ⟨(ad477.add ((x8_2).toNat * 3)).block, (ad477.add ((x8_2).toNat * 3)).off + 1, none⟩ = some (.int .i64 ((rd_T24 l0 x8_2).f1)) ∧ w'.cell? ⟨(ad477.add ((x8_2).toNat * 3)).block, (ad477.add ((x8_2).toNat * 3)).off + 2, none⟩ = some (.slice A477_2 ((rd_T24 l0 x8_2).f2).length c477_2) ∧ w'.cell? (ad477.add ((x8_2).toNat * 3)) = some (.int .i64 ((rd_T24 l0 x8_2).f0)) ∧ w'.cell? ⟨(ad477.add ((x8_2).toNat * 3)).block, (ad477.add ((x8_2).toNat * 3)).off + 1, none⟩ = some (.int .i64 ((rd_T24 l0 x8_2).f1)) ∧ w'.cell? ⟨(ad477.add ((x8_2).toNat * 3)).block, (ad477.add ((x8_2).toNat * 3)).off + 2, none⟩ = some (.slice A477_2 ((rd_T24 l0 x8_2).f2).length c477_2)) (ds := []) #[false, false, false, false, false, false, false, false, false, false, false, false, false, false, false, false, false, false] (by kernel_rfl) rfl rfl ⟨((HB.out.cell (bk_ w _ hw477_0)).trans hw477_0), ((HB.out.cell (bk_ w _ hw477_1)).trans hw477_1), ((HB.out.cell (bk_ w _ hw477_2)).trans hw477_2), ((HB.out.cell (bk_ w _ hw478_0)).trans hw478_0), ((HB.out.cell (bk_ w _ hw478_1)).trans hw478_1), ((HB.out.cell (bk_ w _ hw478_2)).trans hw478_2)⟩ (fun hHeld => ?_); refine with_tabW tapearchiveref26_Elect.tab18 tapearchiveref26_Elect.bits18 (fun HT_ HW_ => ?_)
           generalize wr.drew = w39 at BK469 HB HR477_2 HR478_2 hx477_0 hx477_1 hx477_2 hx478_0 hx478_1 hx478_2 hHeld ⊢
           refine pure_ (i := 0) (N := some 72) (v := ?_) (a' := ?_) #[true, false, false, false, false, false, false, false, false, false, false, false, false, false, false, false, false, false] rfl rfl (any_of HT_.out (by kernel_rfl)) (fun _ _ _ h => h) (Or.inl ⟨by rfl, ?_⟩) ?_ ?_
           rotate_left
           ·
            intro w'
            go_simp
            with_reducible rfl
           rotate_left
           ·
            simp only [Act.put, lt1_, lt2_, lt3_, i64_w, i32_w]
            rfl
           refine pure_ (i := 1) (N := some 73) (v := ?_) (a' := ?_) #[true, true, false, false, false, false, false, false, false, false, false, false, false, false, false, false, false, false] rfl rfl (any_of HT_.out (by kernel_rfl)) (fun _ _ _ h => h) (Or.inl ⟨by rfl, ?_⟩) ?_ ?_
           rotate_left
           ·
            intro w'
            go_simp
            with_reducible rfl
           rotate_left
           ·
            simp only [Act.put, lt1_, lt2_, lt3_, i64_w, i32_w]
            rfl
           refine pure_ (i := 2) (N := some 74) (v := ?_) (a' := ?_) #[true, true, true, false, false, false, false, false, false, false, false, false, false, false, false, false, false, false] rfl rfl (any_of HT_.out (by kernel_rfl)) (fun _ _ _ h => h) (Or.inl ⟨by rfl, ?_⟩) ?_ ?_
           rotate_left
           ·
            intro w'
            go_simp
            with_reducible rfl
           rotate_left
           ·
            simp only [Act.put, lt1_, lt2_, lt3_, i64_w, i32_w]
            rfl
           refine pure_ (i := 3) (N := some 75) (v := ?_) (a' := ?_) #[true, true, true, true, false, false, false, false, false, false, false, false, false, false, false, false, false, false] rfl rfl (any_of HT_.out (by kernel_rfl)) (fun _ _ _ h => h) (Or.inl ⟨by rfl, ?_⟩) ?_ ?_
           rotate_left
           ·
            intro w'
            go_simp
            with_reducible rfl
           rotate_left
           ·
            simp only [Act.put, lt1_, lt2_, lt3_, i64_w, i32_w]
            rfl
           refine pure_ (i := 4) (N := some 76) (v := ?_) (a' := ?_) #[true, true, true, true, true, false, false, false, false, false, false, false, false, false, false, false, false, false] rfl rfl (any_of HT_.out (by kernel_rfl)) (fun _ _ _ h => h) (Or.inl ⟨by rfl, ?_⟩) ?_ ?_
           rotate_left
           ·
            intro w'
            go_simp
            with_reducible rfl
           rotate_left
           ·
            simp only [Act.put, lt1_, lt2_, lt3_, i64_w, i32_w]
            rfl
           refine pure_ (i := 5) (N := some 77) (v := ?_) (a' := ?_) #[true, true, true, true, true, true, false, false, false, false, false, false, false, false, false, false, false, false] rfl rfl (any_of HT_.out (by kernel_rfl)) (fun _ _ _ h => h) (Or.inl ⟨by rfl, ?_⟩) ?_ ?_
           rotate_left
           ·
            intro w'
            go_simp
            with_reducible rfl
           rotate_left
           ·
            simp only [Act.put, lt1_, lt2_, lt3_, i64_w, i32_w]
            rfl
           refine pure_ (i := 6) (N := some 78) (v := ?_) (a' := ?_) #[true, true, true, true, true, true, true, false, false, false, false, false, false, false, false, false, false, false] rfl rfl (any_of HT_.out (by kernel_rfl)) (fun _ _ _ h => h) (Or.inl ⟨by rfl, ?_⟩) ?_ ?_
           rotate_left
           ·
            intro w'
            go_simp
            with_reducible rfl
           rotate_left
           ·
            simp only [Act.put, lt1_, lt2_, lt3_, i64_w, i32_w]
            rfl
           refine pure_ (i := 8) (N := some 80) (v := ?_) (a' := ?_) #[true, true, true, true, true, true, true, false, true, false, false, false, false, false, false, false, false, false] rfl rfl (any_of HT_.out (by kernel_rfl)) (fun _ _ _ h => h) (Or.inl ⟨by rfl, ?_⟩) ?_ ?_
           rotate_left
           ·
            intro w'
            go_simp
            with_reducible rfl
           rotate_left
           ·
            simp only [Act.put, lt1_, lt2_, lt3_, i64_w, i32_w]
            rfl
           refine pure_ (i := 9) (N := some 81) (v := ?_) (a' := ?_) #[true, true, true, true, true, true, true, false, true, true, false, false, false, false, false, false, false, false] rfl rfl (any_of HT_.out (by kernel_rfl)) (fun _ _ _ h => h) (Or.inl ⟨by rfl, ?_⟩) ?_ ?_
           rotate_left
           ·
            intro w'
            go_simp
            with_reducible rfl
           rotate_left
           ·
            simp only [Act.put, lt1_, lt2_, lt3_, i64_w, i32_w]
            rfl
           refine pure_ (i := 10) (N := some 82) (v := ?_) (a' := ?_) #[true, true, true, true, true, true, true, false, true, true, true, false, false, false, false, false, false, false] rfl rfl (any_of HT_.out (by kernel_rfl)) (fun _ _ _ h => h) (Or.inl ⟨by rfl, ?_⟩) ?_ ?_
           rotate_left
           ·
            intro w'
            go_simp
            with_reducible rfl
           rotate_left
           ·
            simp only [Act.put, lt1_, lt2_, lt3_, i64_w, i32_w]
            rfl
           refine pure_ (i := 11) (N := some 83) (v := ?_) (a' := ?_) #[true, true, true, true, true, true, true, false, true, true, true, true, false, false, false, false, false, false] rfl rfl (any_of HT_.out (by kernel_rfl)) (fun _ _ _ h => h) (Or.inl ⟨by rfl, ?_⟩) ?_ ?_
           rotate_left
           ·
            intro w'
            go_simp
            with_reducible rfl
           rotate_left
           ·
            simp only [Act.put, lt1_, lt2_, lt3_, i64_w, i32_w]
            rfl
           refine take_ (i := 7) (N := some 79) (v := ?_) (a' := ?_) #[true, true, true, true, true, true, true, true, true, true, true, true, false, false, false, false, false, false] rfl rfl (take_ofW HT_.out HW_.out (by kernel_rfl)) (fun _ _ _ h => h) (Or.inl ⟨by rfl, ?_⟩) hHeld ?_ ?_
           rotate_left
           ·
            rintro w' ⟨s0, s1, s2, s3, s4, s5⟩
            go_simp
            with_reducible rfl
           rotate_left
           ·
            simp only [Act.put, lt1_, lt2_, lt3_, i64_w, i32_w]
            rfl
           refine take_ (i := 12) (N := some 84) (v := ?_) (a' := ?_) #[true, true, true, true, true, true, true, true, true, true, true, true, true, false, false, false, false, false] rfl rfl (take_ofW HT_.out HW_.out (by kernel_rfl)) (fun _ _ _ h => h) (Or.inl ⟨by rfl, ?_⟩) hHeld ?_ ?_
           rotate_left
           ·
            rintro w' ⟨s0, s1, s2, s3, s4, s5⟩
            go_simp
            with_reducible rfl
           rotate_left
           ·
            simp only [Act.put, lt1_, lt2_, lt3_, i64_w, i32_w]
            rfl
           refine one_ (i := 13) (N := some 85) #[true, true, true, true, true, true, true, true, true, true, true, true, true, true, false, false, false, false] rfl rfl (one_of HT_.out (by kernel_rfl)) (by decide) (fun K hK => ?_)
           refine goes_ Try.func33 (by kernel_rfl) rfl #[.slice A477_2 ((rd_T24 l0 x8_2).f2).length c477_2] (by rfl) rfl rfl au_ ?_
           with_reducible refine (tapearchiveref26_copied.calls k2 _ _ ((rd_T24 l0 x8_2).f2) t479 _ ?side1 ?side2 A38.out).mono ?_
           (case side1 => repeat (first | exact (Kd.C_below HR478_2.out HB.out) | (with_reducible refine Kd.C_alloc ?_ _) | (with_reducible refine Kd.C_drewN ?_ _) | (with_reducible refine Kd.C_drew ?_)))
           (case side2 => exact HC478_2.out)
           rintro e w40 ⟨v480, rfl, ho0, hb⟩
           refine ⟨_, rfl, ?_⟩
           have n0_ := am_ (Kd.S_lower ho0 (bz_ (pb1_ HB.out GE469.out)))
           have n1_ := am_ (bw_ (g := gb469) (o := .cells #[.int .i64 x470000_2, .int .i64 x470001_2, .slice none 0 0] 24 (0, 0)) (pk_ BK469.out) hb)
           have n2_ := am_ (sp_ (pb1_ HB.out GE469.out) hb)
           clear BK469
           clear HB
           have HO481 := n0_
           have BK469 := n1_
           have HB := n2_
           clear n0_ n1_ n2_
           (try clear hb)
           (try clear hb2)
           (try clear hk)
           (try clear hi)
           (try clear ho0)
           obtain ⟨Ao41, co41, eo41⟩ := Kd.S_slice HO481.out
           (first | subst eo41 | (injection eo41 with f1_ f2_ f3_; have f4_ := f1_.symm; have f5_ := f3_.symm; clear f1_ f2_ f3_; subst f4_; subst f5_))
           refine hK.out _ _ ⟨((HB.out.cell (bk_ w _ hw477_0)).trans hw477_0), ((HB.out.cell (bk_ w _ hw477_1)).trans hw477_1), ((HB.out.cell (bk_ w _ hw477_2)).trans hw477_2), ((HB.out.cell (bk_ w _ hw478_0)).trans hw478_0), ((HB.out.cell (bk_ w _ hw478_1)).trans hw478_1), ((HB.out.cell (bk_ w _ hw478_2)).trans hw478_2)⟩ (fun hHeld => ?_)
           clear hK K
           refine norm_ (a' := ?_) ?_ ?_
           rotate_left
           ·
            show Act.put _ (some 85) _ = _
            simp only [Act.put, lt1_, lt2_, lt3_, i64_w, i32_w]
            rfl
           refine pure_ (i := 14) (N := some 86) (v := ?_) (a' := ?_) #[true, true, true, true, true, true, true, true, true, true, true, true, true, true, true, false, false, false] rfl rfl (any_of HT_.out (by kernel_rfl)) (fun _ _ _ h => h) (Or.inl ⟨by rfl, ?_⟩) ?_ ?_
           rotate_left
           ·
            intro w'
            go_simp
            with_reducible rfl
           rotate_left
           ·
            simp only [Act.put, lt1_, lt2_, lt3_, i64_w, i32_w]
            rfl
           refine pure_ (i := 15) (N := some 4) (v := ?_) (a' := ?_) #[true, true, true, true, true, true, true, true, true, true, true, true, true, true, true, true, false, false] rfl rfl (any_of HT_.out (by kernel_rfl)) (fun _ _ _ h => h) (Or.inl ⟨by rfl, ?_⟩) ?_ ?_
           rotate_left
           ·
            intro w'
            go_simp
            with_reducible rfl
           rotate_left
           ·
            simp only [Act.put, lt1_, lt2_, lt3_, i64_w, i32_w]
            rfl
           refine one_ (i := 16) (N := none) #[true, true, true, true, true, true, true, true, true, true, true, true, true, true, true, true, true, false] rfl rfl (one_of HT_.out (by kernel_rfl)) (by decide) (fun K hK => ?_)
           have hs42 : w40.cell? ⟨gb469, 0, none⟩ = some (.int .i64 x470000_2) := (bc_ BK469.out 0).trans rfl
           have hfs42 := bf_ BK469.out 0
           have hs43 : w40.cell? ⟨gb469, 1, none⟩ = some (.int .i64 x470001_2) := (bc_ BK469.out 1).trans rfl
           have hfs43 := bf_ BK469.out 1
           have hs44 : w40.cell? ⟨gb469, 2, none⟩ = some (.slice none 0 0) := (bc_ BK469.out 2).trans rfl
           have hfs44 := bf_ BK469.out 2
           refine skip_ (w1 := ?_) (by rfl) rfl ?_ ?_
           rotate_left
           ·
            go_simp
            rfl
           refine hK.out _ _ ⟨((cell_far (p := ⟨gb469, _, none⟩) (by first | exact Nat.ne_of_lt (Nat.lt_of_lt_of_le (by have := bk_ _ _ hw477_0; first | rwa [add_block] at this | exact this) GW469.out) | (rw [add_block]; exact Nat.ne_of_lt (Nat.lt_of_lt_of_le (by have := bk_ _ _ hw477_0; first | rwa [add_block] at this | exact this) GW469.out)) | (show (Addr.add _ _).block ≠ _; rw [add_block]; exact Nat.ne_of_lt (Nat.lt_of_lt_of_le (by have := bk_ _ _ hw477_0; first | rwa [add_block] at this | exact this) GW469.out)) | (dsimp only; exact Nat.ne_of_lt (Nat.lt_of_lt_of_le (by have := bk_ _ _ hw477_0; first | rwa [add_block] at this | exact this) GW469.out))) _).trans (((cell_far (p := ⟨gb469, _, none⟩) (by first | exact Nat.ne_of_lt (Nat.lt_of_lt_of_le (by have := bk_ _ _ hw477_0; first | rwa [add_block] at this | exact this) GW469.out) | (rw [add_block]; exact Nat.ne_of_lt (Nat.lt_of_lt_of_le (by have := bk_ _ _ hw477_0; first | rwa [add_block] at this | exact this) GW469.out)) | (show (Addr.add _ _).block ≠ _; rw [add_block]; exact Nat.ne_of_lt (Nat.lt_of_lt_of_le (by have := bk_ _ _ hw477_0; first | rwa [add_block] at this | exact this) GW469.out)) | (dsimp only; exact Nat.ne_of_lt (Nat.lt_of_lt_of_le (by have := bk_ _ _ hw477_0; first | rwa [add_block] at this | exact this) GW469.out))) _).trans (((cell_far (p := ⟨gb469, _, none⟩) (by first | exact Nat.ne_of_lt (Nat.lt_of_lt_of_le (by have := bk_ _ _ hw477_0; first | rwa [add_block] at this | exact this) GW469.out) | (rw [add_block]; exact Nat.ne_of_lt (Nat.lt_of_lt_of_le (by have := bk_ _ _ hw477_0; first | rwa [add_block] at this | exact this) GW469.out)) | (show (Addr.add _ _).block ≠ _; rw [add_block]; exact Nat.ne_of_lt (Nat.lt_of_lt_of_le (by have := bk_ _ _ hw477_0; first | rwa [add_block] at this | exact this) GW469.out)) | (dsimp only; exact Nat.ne_of_lt (Nat.lt_of_lt_of_le (by have := bk_ _ _ hw477_0; first | rwa [add_block] at this | exact this) GW469.out))) _).trans (hHeld.1)))))), ((cell_far (p := ⟨gb469, _, none⟩) (by first | exact Nat.ne_of_lt (Nat.lt_of_lt_of_le (by have := bk_ _ _ hw477_1; first | rwa [add_block] at this | exact this) GW469.out) | (rw [add_block]; exact Nat.ne_of_lt (Nat.lt_of_lt_of_le (by have := bk_ _ _ hw477_1; first | rwa [add_block] at this | exact this) GW469.out)) | (show (Addr.add _ _).block ≠ _; rw [add_block]; exact Nat.ne_of_lt (Nat.lt_of_lt_of_le (by have := bk_ _ _ hw477_1; first | rwa [add_block] at this | exact this) GW469.out)) | (dsimp only; exact Nat.ne_of_lt (Nat.lt_of_lt_of_le (by have := bk_ _ _ hw477_1; first | rwa [add_block] at this | exact this) GW469.out))) _).trans (((cell_far (p := ⟨gb469, _, none⟩) (by first | exact Nat.ne_of_lt (Nat.lt_of_lt_of_le (by have := bk_ _ _ hw477_1; first | rwa [add_block] at this | exact this) GW469.out) | (rw [add_block]; exact Nat.ne_of_lt (Nat.lt_of_lt_of_le (by have := bk_ _ _ hw477_1; first | rwa [add_block] at this | exact this) GW469.out)) | (show (Addr.add _ _).block ≠ _; rw [add_block]; exact Nat.ne_of_lt (Nat.lt_of_lt_of_le (by have := bk_ _ _ hw477_1; first | rwa [add_block] at this | exact this) GW469.out)) | (dsimp only; exact Nat.ne_of_lt (Nat.lt_of_lt_of_le (by have := bk_ _ _ hw477_1; first | rwa [add_block] at this | exact this) GW469.out))) _).trans (((cell_far (p := ⟨gb469, _, none⟩) (by first | exact Nat.ne_of_lt (Nat.lt_of_lt_of_le (by have := bk_ _ _ hw477_1; first | rwa [add_block] at this | exact this) GW469.out) | (rw [add_block]; exact Nat.ne_of_lt (Nat.lt_of_lt_of_le (by have := bk_ _ _ hw477_1; first | rwa [add_block] at this | exact this) GW469.out)) | (show (Addr.add _ _).block ≠ _; rw [add_block]; exact Nat.ne_of_lt (Nat.lt_of_lt_of_le (by have := bk_ _ _ hw477_1; first | rwa [add_block] at this | exact this) GW469.out)) | (dsimp only; exact Nat.ne_of_lt (Nat.lt_of_lt_of_le (by have := bk_ _ _ hw477_1; first | rwa [add_block] at this | exact this) GW469.out))) _).trans (hHeld.2.1)))))), ((cell_far (p := ⟨gb469, _, none⟩) (by first | exact Nat.ne_of_lt (Nat.lt_of_lt_of_le (by have := bk_ _ _ hw477_2; first | rwa [add_block] at this | exact this) GW469.out) | (rw [add_block]; exact Nat.ne_of_lt (Nat.lt_of_lt_of_le (by have := bk_ _ _ hw477_2; first | rwa [add_block] at this | exact this) GW469.out)) | (show (Addr.add _ _).block ≠ _; rw [add_block]; exact Nat.ne_of_lt (Nat.lt_of_lt_of_le (by have := bk_ _ _ hw477_2; first | rwa [add_block] at this | exact this) GW469.out)) | (dsimp only; exact Nat.ne_of_lt (Nat.lt_of_lt_of_le (by have := bk_ _ _ hw477_2; first | rwa [add_block] at this | exact this) GW469.out))) _).trans (((cell_far (p := ⟨gb469, _, none⟩) (by first | exact Nat.ne_of_lt (Nat.lt_of_lt_of_le (by have := bk_ _ _ hw477_2; first | rwa [add_block] at this | exact this) GW469.out) | (rw [add_block]; exact Nat.ne_of_lt (Nat.lt_of_lt_of_le (by have := bk_ _ _ hw477_2; first | rwa [add_block] at this | exact this) GW469.out)) | (show (Addr.add _ _).block ≠ _; rw [add_block]; exact Nat.ne_of_lt (Nat.lt_of_lt_of_le (by have := bk_ _ _ hw477_2; first | rwa [add_block] at this | exact this) GW469.out)) | (dsimp only; exact Nat.ne_of_lt (Nat.lt_of_lt_of_le (by have := bk_ _ _ hw477_2; first | rwa [add_block] at this | exact this) GW469.out))) _).trans (((cell_far (p := ⟨gb469, _, none⟩) (by first | exact Nat.ne_of_lt (Nat.lt_of_lt_of_le (by have := bk_ _ _ hw477_2; first | rwa [add_block] at this | exact this) GW469.out) | (rw [add_block]; exact Nat.ne_of_lt (Nat.lt_of_lt_of_le (by have := bk_ _ _ hw477_2; first | rwa [add_block] at this | exact this) GW469.out)) | (show (Addr.add _ _).block ≠ _; rw [add_block]; exact Nat.ne_of_lt (Nat.lt_of_lt_of_le (by have := bk_ _ _ hw477_2; first | rwa [add_block] at this | exact this) GW469.out)) | (dsimp only; exact Nat.ne_of_lt (Nat.lt_of_lt_of_le (by have := bk_ _ _ hw477_2; first | rwa [add_block] at this | exact this) GW469.out))) _).trans (hHeld.2.2.1)))))), ((cell_far (p := ⟨gb469, _, none⟩) (by first | exact Nat.ne_of_lt (Nat.lt_of_lt_of_le (by have := bk_ _ _ hw478_0; first | rwa [add_block] at this | exact this) GW469.out) | (rw [add_block]; exact Nat.ne_of_lt (Nat.lt_of_lt_of_le (by have := bk_ _ _ hw478_0; first | rwa [add_block] at this | exact this) GW469.out)) | (show (Addr.add _ _).block ≠ _; rw [add_block]; exact Nat.ne_of_lt (Nat.lt_of_lt_of_le (by have := bk_ _ _ hw478_0; first | rwa [add_block] at this | exact this) GW469.out)) | (dsimp only; exact Nat.ne_of_lt (Nat.lt_of_lt_of_le (by have := bk_ _ _ hw478_0; first | rwa [add_block] at this | exact this) GW469.out))) _).trans (((cell_far (p := ⟨gb469, _, none⟩) (by first | exact Nat.ne_of_lt (Nat.lt_of_lt_of_le (by have := bk_ _ _ hw478_0; first | rwa [add_block] at this | exact this) GW469.out) | (rw [add_block]; exact Nat.ne_of_lt (Nat.lt_of_lt_of_le (by have := bk_ _ _ hw478_0; first | rwa [add_block] at this | exact this) GW469.out)) | (show (Addr.add _ _).block ≠ _; rw [add_block]; exact Nat.ne_of_lt (Nat.lt_of_lt_of_le (by have := bk_ _ _ hw478_0; first | rwa [add_block] at this | exact this) GW469.out)) | (dsimp only; exact Nat.ne_of_lt (Nat.lt_of_lt_of_le (by have := bk_ _ _ hw478_0; first | rwa [add_block] at this | exact this) GW469.out))) _).trans (((cell_far (p := ⟨gb469, _, none⟩) (by first | exact Nat.ne_of_lt (Nat.lt_of_lt_of_le (by have := bk_ _ _ hw478_0; first | rwa [add_block] at this | exact this) GW469.out) | (rw [add_block]; exact Nat.ne_of_lt (Nat.lt_of_lt_of_le (by have := bk_ _ _ hw478_0; first | rwa [add_block] at this | exact this) GW469.out)) | (show (Addr.add _ _).block ≠ _; rw [add_block]; exact Nat.ne_of_lt (Nat.lt_of_lt_of_le (by have := bk_ _ _ hw478_0; first | rwa [add_block] at this | exact this) GW469.out)) | (dsimp only; exact Nat.ne_of_lt (Nat.lt_of_lt_of_le (by have := bk_ _ _ hw478_0; first | rwa [add_block] at this | exact this) GW469.out))) _).trans (hHeld.2.2.2.1)))))), ((cell_far (p := ⟨gb469, _, none⟩) (by first | exact Nat.ne_of_lt (Nat.lt_of_lt_of_le (by have := bk_ _ _ hw478_1; first | rwa [add_block] at this | exact this) GW469.out) | (rw [add_block]; exact Nat.ne_of_lt (Nat.lt_of_lt_of_le (by have := bk_ _ _ hw478_1; first | rwa [add_block] at this | exact this) GW469.out)) | (show (Addr.add _ _).block ≠ _; rw [add_block]; exact Nat.ne_of_lt (Nat.lt_of_lt_of_le (by have := bk_ _ _ hw478_1; first | rwa [add_block] at this | exact this) GW469.out)) | (dsimp only; exact Nat.ne_of_lt (Nat.lt_of_lt_of_le (by have := bk_ _ _ hw478_1; first | rwa [add_block] at this | exact this) GW469.out))) _).trans (((cell_far (p := ⟨gb469, _, none⟩) (by first | exact Nat.ne_of_lt (Nat.lt_of_lt_of_le (by have := bk_ _ _ hw478_1; first | rwa [add_block] at this | exact this) GW469.out) | (rw [add_block]; exact Nat.ne_of_lt (Nat.lt_of_lt_of_le (by have := bk_ _ _ hw478_1; first | rwa [add_block] at this | exact this) GW469.out)) | (show (Addr.add _ _).block ≠ _; rw [add_block]; exact Nat.ne_of_lt (Nat.lt_of_lt_of_le (by have := bk_ _ _ hw478_1; first | rwa [add_block] at this | exact this) GW469.out)) | (dsimp only; exact Nat.ne_of_lt (Nat.lt_of_lt_of_le (by have := bk_ _ _ hw478_1; first | rwa [add_block] at this | exact this) GW469.out))) _).trans (((cell_far (p := ⟨gb469, _, none⟩) (by first | exact Nat.ne_of_lt (Nat.lt_of_lt_of_le (by have := bk_ _ _ hw478_1; first | rwa [add_block] at this | exact this) GW469.out) | (rw [add_block]; exact Nat.ne_of_lt (Nat.lt_of_lt_of_le (by have := bk_ _ _ hw478_1; first | rwa [add_block] at this | exact this) GW469.out)) | (show (Addr.add _ _).block ≠ _; rw [add_block]; exact Nat.ne_of_lt (Nat.lt_of_lt_of_le (by have := bk_ _ _ hw478_1; first | rwa [add_block] at this | exact this) GW469.out)) | (dsimp only; exact Nat.ne_of_lt (Nat.lt_of_lt_of_le (by have := bk_ _ _ hw478_1; first | rwa [add_block] at this | exact this) GW469.out))) _).trans (hHeld.2.2.2.2.1)))))), ((cell_far (p := ⟨gb469, _, none⟩) (by first | exact Nat.ne_of_lt (Nat.lt_of_lt_of_le (by have := bk_ _ _ hw478_2; first | rwa [add_block] at this | exact this) GW469.out) | (rw [add_block]; exact Nat.ne_of_lt (Nat.lt_of_lt_of_le (by have := bk_ _ _ hw478_2; first | rwa [add_block] at this | exact this) GW469.out)) | (show (Addr.add _ _).block ≠ _; rw [add_block]; exact Nat.ne_of_lt (Nat.lt_of_lt_of_le (by have := bk_ _ _ hw478_2; first | rwa [add_block] at this | exact this) GW469.out)) | (dsimp only; exact Nat.ne_of_lt (Nat.lt_of_lt_of_le (by have := bk_ _ _ hw478_2; first | rwa [add_block] at this | exact this) GW469.out))) _).trans (((cell_far (p := ⟨gb469, _, none⟩) (by first | exact Nat.ne_of_lt (Nat.lt_of_lt_of_le (by have := bk_ _ _ hw478_2; first | rwa [add_block] at this | exact this) GW469.out) | (rw [add_block]; exact Nat.ne_of_lt (Nat.lt_of_lt_of_le (by have := bk_ _ _ hw478_2; first | rwa [add_block] at this | exact this) GW469.out)) | (show (Addr.add _ _).block ≠ _; rw [add_block]; exact Nat.ne_of_lt (Nat.lt_of_lt_of_le (by have := bk_ _ _ hw478_2; first | rwa [add_block] at this | exact this) GW469.out)) | (dsimp only; exact Nat.ne_of_lt (Nat.lt_of_lt_of_le (by have := bk_ _ _ hw478_2; first | rwa [add_block] at this | exact this) GW469.out))) _).trans (((cell_far (p := ⟨gb469, _, none⟩) (by first | exact Nat.ne_of_lt (Nat.lt_of_lt_of_le (by have := bk_ _ _ hw478_2; first | rwa [add_block] at this | exact this) GW469.out) | (rw [add_block]; exact Nat.ne_of_lt (Nat.lt_of_lt_of_le (by have := bk_ _ _ hw478_2; first | rwa [add_block] at this | exact this) GW469.out)) | (show (Addr.add _ _).block ≠ _; rw [add_block]; exact Nat.ne_of_lt (Nat.lt_of_lt_of_le (by have := bk_ _ _ hw478_2; first | rwa [add_block] at this | exact this) GW469.out)) | (dsimp only; exact Nat.ne_of_lt (Nat.lt_of_lt_of_le (by have := bk_ _ _ hw478_2; first | rwa [add_block] at this | exact this) GW469.out))) _).trans (hHeld.2.2.2.2.2))))))⟩ (fun hHeld => ?_)
           clear hK K
           refine pure_ (i := 17) (N := some 6) (v := ?_) (a' := ?_) #[true, true, true, true, true, true, true, true, true, true, true, true, true, true, true, true, true, true] rfl rfl (any_of HT_.out (by kernel_rfl)) (fun _ _ _ h => h) (Or.inl ⟨by rfl, ?_⟩) ?_ ?_
           rotate_left
           ·
            intro w'
            go_simp
            with_reducible rfl
           rotate_left
           ·
            simp only [Act.put, lt1_, lt2_, lt3_, i64_w, i32_w]
            rfl
           refine done_ (done_of HT_.out (by kernel_rfl)) ?_
           try go_wp2
           refine bodyPost_ret (results_list (rs := [.tmp 4, .cell 5 24, .tmp 6]) rfl (by simp) (.tmp (.cell gb469 24 #[.int .i64 (wrap64 (x9_2 + 1)), .int .i64 ((rd_T24 l0 x8_2).f1), .slice Ao41 t479.length co41] (0, 0) _ rfl (by (with_reducible repeat (first | refine bn_ ?_ _ | refine bd_ ?_ | refine ba_ ?_ _)); refine blk_put (cs := #[.int .i64 (wrap64 (x9_2 + 1)), .int .i64 ((rd_T24 l0 x8_2).f1), .slice none 0 0]) ?_ 2 _ rfl; (with_reducible repeat (first | refine bn_ ?_ _ | refine bd_ ?_ | refine ba_ ?_ _)); refine blk_put (cs := #[.int .i64 (wrap64 (x9_2 + 1)), .int .i64 x470001_2, .slice none 0 0]) ?_ 1 _ rfl; (with_reducible repeat (first | refine bn_ ?_ _ | refine bd_ ?_ | refine ba_ ?_ _)); refine blk_put (cs := #[.int .i64 x470000_2, .int .i64 x470001_2, .slice none 0 0]) ?_ 0 _ rfl; (with_reducible repeat (first | refine bn_ ?_ _ | refine bd_ ?_ | refine ba_ ?_ _)); exact BK469.out) Try.underlying24 rfl (by kernel_rfl) (.tmp .nil)))) rfl ?_
           exact ⟨_, by first | rfl | (simp [errW_none, errW_some] <;> rfl) | (simp [*, errW_none, errW_some] <;> rfl), by (with_reducible repeat (first | apply Kd.S_alloc | apply Kd.S_drewN | apply Kd.S_drew)); exact Kd.S_mono (Kd.S_far (p := ⟨gb469, 2, none⟩) (Kd.S_far (p := ⟨gb469, 1, none⟩) (Kd.S_far (p := ⟨gb469, 0, none⟩) (Kd.S_types HO481.out BK469.out (by decide)) (fun _ hk => hk.2) (.int .i64 (wrap64 (x9_2 + 1)))) (fun _ hk => hk.2) (.int .i64 ((rd_T24 l0 x8_2).f1))) (fun _ hk => hk.2) (.slice Ao41 t479.length co41)) (fun _ hk => trivial), pb1_ HB.out GE469.out⟩
          ·
           rw [if_neg c37] at H
           exact absurd H (by simp)
         ·
          rw [if_neg c36] at H
          exact absurd H (by simp)
end Go.Proofs.Ytbigcpjlahkggaa.Q
