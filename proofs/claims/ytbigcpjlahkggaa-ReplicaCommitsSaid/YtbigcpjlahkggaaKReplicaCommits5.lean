import Derived.Test.YtbigcpjlahkggaaKReplicaCommits4
set_option linter.unusedVariables false
set_option linter.unusedSimpArgs false
namespace Go.Proofs.Ytbigcpjlahkggaa.Q
open Go.RowKit Go.Proofs.YtbigcpjlahkggaaW.PrintWords Go.Proofs.YtbigcpjlahkggaaW.PrintLast Go.Proofs.YtbigcpjlahkggaaW.PrintMore
attribute [local go_sem] max2_int min2_int max_two min_two max_three min_three max_four min_four
attribute [local go_sem ↓] isSome_setCell
attribute [local go_sem] string_gtr
set_option linter.unusedVariables false
set_option linter.unusedSimpArgs false
mutual
def replica_Elect.j0 : Nat → List (S35) → List Bool → Bool → Option (Int × Int × Int × (List (S87)) × Int)
 | 0, _, _, _ => none
 | k + 1, x0, x1, x26 => if x26 = true then (some (0, 0, 0, ([] : List (S87)), 8)) else (replica_Elect.l0 k x0 x1 (-1) 0 0 x0 (x0.length : Int) 0)
def replica_Elect.l0 : Nat → List (S35) → List Bool → Int → Int → Int → List (S35) → Int → Int → Option (Int × Int × Int × (List (S87)) × Int)
 | 0, _, _, _, _, _, _, _, _ => none
 | k + 1, x0, x1, x7, x8, x9, x28, x29, x30 => if x30 < x29 then (if 0 ≤ x30 then (if x30 < (x28.length : Int) then (if x30 < (x1.length : Int) then (if rdOf false x1 x30 = true then (if x7 < 0 then (replica_Elect.l0 k x0 x1 x30 (wrap64 (x8 + 1)) (mx x9 ((rd_T35 x28 x30).f0)) x28 x29 (wrap64 (x30 + 1))) else (if 0 ≤ x7 then (if x7 < (x0.length : Int) then ((replica_better.f k ((rd_T35 x28 x30).f0) ((rd_T35 x28 x30).f1) ((rd_T35 x28 x30).f2) ((rd_T35 x0 x7).f0) ((rd_T35 x0 x7).f1) ((rd_T35 x0 x7).f2)).bind fun t142 => (if t142 > 0 then (replica_Elect.l0 k x0 x1 x30 (wrap64 (x8 + 1)) (mx x9 ((rd_T35 x28 x30).f0)) x28 x29 (wrap64 (x30 + 1))) else (replica_Elect.l0 k x0 x1 x7 (wrap64 (x8 + 1)) (mx x9 ((rd_T35 x28 x30).f0)) x28 x29 (wrap64 (x30 + 1))))) else (none)) else (none))) else (replica_Elect.l0 k x0 x1 x7 x8 x9 x28 x29 (wrap64 (x30 + 1)))) else (none)) else (none)) else (none)) else (if (wrap64 (2 * x8)) ≤ (x0.length : Int) then (some (0, 0, 0, ([] : List (S87)), 13)) else (if x9 = 1125899906842624 then (some (0, 0, 0, ([] : List (S87)), 7)) else (if 0 ≤ x7 then (if x7 < (x0.length : Int) then ((replica_copied.f k ((rd_T35 x0 x7).f2)).bind fun t145 => (some (x7, wrap64 (x9 + 1), (rd_T35 x0 x7).f1, t145, 0))) else (none)) else (none))))
end
def replica_Elect.f (k : Nat) (l0 : List (S35)) (l1 : List Bool) : Option (Int × Int × Int × (List (S87)) × Int) := if (l0.length : Int) = 0 then (replica_Elect.j0 k l0 l1 true) else (if (l1.length : Int) = (l0.length : Int) then ((replica_Node_replica_Elect_1_7700001.f k l0).bind fun t137 => (replica_Elect.j0 k l0 l1 t137)) else (replica_Elect.j0 k l0 l1 true))
def replica_Elect.T10 : Bool × List (List Nat × List Nat) := (true, [([], []), ([0], [0]), ([1], [1]), ([2], [2]), ([2], [2]), ([2], [2]), ([4, 5, 2], [2, 4, 5]), ([6, 2], [2, 6]), ([3, 7, 2, 2], [2, 3, 7]), ([8, 2], [2, 8]), ([2, 9], [2, 9])])
def replica_Elect.B10 : List Nat := [0, 1, 3, 7, 7, 7, 55, 119, 255, 511, 1023]
theorem replica_Elect.tab10 : rtab .any (opsOf Try.f21 10) = replica_Elect.T10 := by kernel_rfl
theorem replica_Elect.bits10 : waitsOk replica_Elect.T10.2 replica_Elect.B10 = true := by kernel_rfl
def replica_Elect.T18 : Bool × List (List Nat × List Nat) := (true, [([], []), ([], []), ([1], [1]), ([], []), ([3], [3]), ([], []), ([5], [5]), ([6], [6]), ([2, 4, 7], [2, 4, 7]), ([0, 7, 0], [0]), ([8, 9, 0, 1, 2, 3, 4, 5, 6, 7, 8, 9], [8]), ([10, 0, 1, 2, 3, 4, 5, 6, 7, 8, 9, 10], [])])
def replica_Elect.B18 : List Nat := [0, 0, 2, 0, 8, 0, 32, 96, 254, 225, 1023, 2047]
theorem replica_Elect.tab18 : rtab .any (opsOf Try.f21 18) = replica_Elect.T18 := by kernel_rfl
theorem replica_Elect.bits18 : waitsOk replica_Elect.T18.2 replica_Elect.B18 = true := by kernel_rfl
set_option maxHeartbeats 8000000 in
set_option maxRecDepth 100000 in
theorem replica_Elect.calls (k : Nat) (P0_ : Nat → Prop) (A0 : Option Addr) (c0 : Nat) (l0 : List (S35)) (A1 : Option Addr) (c1 : Nat) (l1 : List Bool) (r1 : Int) (r2 : Int) (r3 : Int) (r4 : List (S87)) (r5 : Int) (w : World) (hs0 : Kd.V k35 35 w w.heap.size (fun k_ => P0_ k_) (.slice A0 l0.length c0) l0) (hr1 : Kd.C Kd.bool w A1 l1.length l1) (hc1 : l1.length ≤ c1) (h : replica_Elect.f k l0 l1 = some (r1, r2, r3, r4, r5)) :
  Calls Try.prog 21 #[.slice A0 l0.length c0, .slice A1 l1.length c1] w fun e w' => ∃ v3_ : Value, e = .returned (.tuple #[.int .i64 r1, .agg #[.int .i64 r2, .int .i64 r3, v3_], .int .i64 r5]) ∧ Kd.N k87 87 w' w.heap.size (fun k_ => (P0_ k_ ∨ w.heap.size ≤ k_)) v3_ r4 ∧ Below w.heap.size w w' := by
 have hu35 := Try.underlying35
 have HO0 := am_ (show Kd.V k35 35 w w.heap.size (fun k_ => (P0_ k_ ∨ w.heap.size ≤ k_)) (.slice A0 l0.length c0) l0 from vm_ hs0 (fun k_ hk => .inl hk))
 have HR1 := am_ hr1
 have HC1 := am_ hc1
 clear hr1 hc1
 have HB := am_ (Below.refl w.heap.size w)
 have H : (if (l0.length : Int) = 0 then (replica_Elect.j0 k l0 l1 true) else (if (l1.length : Int) = (l0.length : Int) then ((replica_Node_replica_Elect_1_7700001.f k l0).bind fun t137 => (replica_Elect.j0 k l0 l1 t137)) else (replica_Elect.j0 k l0 l1 true))) = some (r1, r2, r3, r4, r5) := h
 clear h
 have HC3 := am_ H
 clear H
 go_enter Try.func21, Try.ntmps21
 go_upto_region 1 with (first | ((with_reducible refine gate_dst (N := 5) rfl ?_); (try (refine gate_guard (by rfl) ?_; dsimp only)); refine box_event ?hg (N := 5) ?hd (cs := #[.int .i64 0, .int .i64 0, .slice none 0 0]) (t := 35) ?hr ?_; (case hd => rfl); (case hg => rfl); (case hr => first | (go_simp; done) | (go_simp; rfl)); intro gb136 hg w4 hbox hb; have n0_ := am_ (vb_ (Kd.V_elderB (pV_ HO0.out) gb136 (le_ hg.symm)) hb); have n1_ := am_ (sp_ (pb0_ HB.out) hb); have n2_ := am_ (hbox); have n3_ := am_ ((by rw [hg]; exact (bz_ (pb0_ HB.out)) : w.heap.size ≤ gb136)); have n4_ := am_ ((by rw [hg]; exact (bz_ (pb0_ HB.out)) : w.heap.size ≤ gb136)); clear HO0; clear HB; have HO0 := n0_; have HB := n1_; have BK136 := n2_; have GW136 := n3_; have GE136 := n4_; clear n0_ n1_ n2_ n3_ n4_; clear hb hbox hg))
 (try simp only [Act.put, lt1_, lt2_, lt3_])
 go_cut [26] (fun v26 wc => ∃ (kq : Nat) (x26_2 : Bool), v26 = .bool x26_2 ∧ Aside0 (replica_Elect.j0 kq l0 l1 x26_2 = some (r1, r2, r3, r4, r5)) ∧ Aside0 (kq ≤ k) ∧ Aside0 (Kd.V k35 35 wc w.heap.size (fun k_ => (P0_ k_ ∨ w.heap.size ≤ k_) ∧ k_ ≠ gb136) (.slice A0 l0.length c0) l0) ∧ Aside0 (wc.heap[gb136]? = some (.cells #[.int .i64 0, .int .i64 0, (.slice none 0 0)] 35 (0, 0))) ∧ Aside0 (Below w.heap.size w wc))
 case first =>
  have H := HC3.out
  clear HC3
  by_cases c5 : (l0.length : Int) = 0
  ·
   rw [if_pos c5] at H
   have c5b0 : ((l0.length : Int) == 0) = true := beq_iff_eq.mpr c5
   have c5b1 : ((l0.length : Int) != 0) = false := bne_eq_false_iff_eq.mpr c5
   clear c5
   (first | rw [c5b0] | (simp only [i64_w, i32_w]; rw [c5b0]) | rw [c5b2] | skip)
   have H' := am_ H
   clear H
   go_wp2
   go_meet
   case rel => exact ⟨_, (true), (by first | rfl | (simp; done) | (simp [*]; done)), H', ⟨by first | omega | exact Nat.le_refl _⟩, ⟨by (with_reducible repeat (first | apply va_ | apply vn_ | apply vd_)); exact HO0.out⟩, ⟨by (with_reducible repeat (first | refine bn_ ?_ _ | refine bd_ ?_ | refine ba_ ?_ _)); exact BK136.out⟩, ⟨pb1_ HB.out GE136.out⟩⟩
  ·
   rw [if_neg c5] at H
   have c5b0 : ((l0.length : Int) == 0) = false := beq_eq_false_iff_ne.mpr c5
   have c5b1 : ((l0.length : Int) != 0) = true := bne_iff_ne.mpr c5
   have c5b2 : ¬ (l0 = []) := fun h_ => c5 (by rw [h_]; rfl)
   (first | rw [c5b0] | (simp only [i64_w, i32_w]; rw [c5b0]) | rw [c5b2] | skip)
   by_cases c6 : (l1.length : Int) = (l0.length : Int)
   ·
    rw [if_pos c6] at H
    have c6b0 : ((l1.length : Int) == (l0.length : Int)) = true := beq_iff_eq.mpr c6
    have c6b1 : ((l1.length : Int) != (l0.length : Int)) = false := bne_eq_false_iff_eq.mpr c6
    have c6b2 : (l1.length == l0.length) = true := by first | simpa using c6 | (simp at c6 ⊢; omega)
    clear c6
    replace H := Option.bind_eq_some_iff.mp H
    obtain ⟨t137, A70, H⟩ := H
    replace H : (replica_Elect.j0 k l0 l1 t137) = some (r1, r2, r3, r4, r5) := H
    have A7 := am_ A70
    clear A70
    have H' := am_ H
    clear H
    go_wp2_with (first | (go_at_call 39; (with_reducible refine (replica_Node_replica_Elect_1_7700001.calls k _ _ l0 t137 _ ?side1 ?side2 A7.out).mono ?_); (case side1 => repeat (first | exact (Kd.V_reads' HO0.out).2.2 | (with_reducible refine Kd.C_alloc ?_ _) | (with_reducible refine Kd.C_drewN ?_ _) | (with_reducible refine Kd.C_drew ?_))); (case side2 => exact (Kd.V_reads' HO0.out).2.1); rintro e w8 ⟨rfl, hb⟩; have n0_ := am_ (vb_ (pV_ HO0.out) hb); have n1_ := am_ (bw_ (g := gb136) (o := .cells #[.int .i64 0, .int .i64 0, .slice none 0 0] 35 (0, 0)) (pk_ BK136.out) hb); have n2_ := am_ (sp_ (pb1_ HB.out GE136.out) hb); clear HO0; clear BK136; clear HB; have HO0 := n0_; have BK136 := n1_; have HB := n2_; clear n0_ n1_ n2_; (try clear hb); (try clear hb2); (try clear hk); (try clear hi)))
    go_meet
    case rel => exact ⟨_, (t137), (by first | rfl | (simp; done) | (simp [*]; done)), H', ⟨by first | omega | exact Nat.le_refl _⟩, ⟨by (with_reducible repeat (first | apply va_ | apply vn_ | apply vd_)); exact HO0.out⟩, ⟨by (with_reducible repeat (first | refine bn_ ?_ _ | refine bd_ ?_ | refine ba_ ?_ _)); exact BK136.out⟩, ⟨pb1_ HB.out GE136.out⟩⟩
   ·
    rw [if_neg c6] at H
    have c6b0 : ((l1.length : Int) == (l0.length : Int)) = false := beq_eq_false_iff_ne.mpr c6
    have c6b1 : ((l1.length : Int) != (l0.length : Int)) = true := bne_iff_ne.mpr c6
    have c6b2 : (l1.length == l0.length) = false := by first | simpa using c6 | (simp at c6 ⊢; omega)
    have H' := am_ H
    clear H
    go_wp2
    go_meet
    case rel => exact ⟨_, (true), (by first | rfl | (simp; done) | (simp [*]; done)), H', ⟨by first | omega | exact Nat.le_refl _⟩, ⟨by (with_reducible repeat (first | apply va_ | apply vn_ | apply vd_)); exact HO0.out⟩, ⟨by (with_reducible repeat (first | refine bn_ ?_ _ | refine bd_ ?_ | refine ba_ ?_ _)); exact BK136.out⟩, ⟨pb1_ HB.out GE136.out⟩⟩
 case rest =>
  clear HC3
  try clear c1
  try clear c2
  try clear p2
  try clear c5
  try clear c5b0
  try clear c5b1
  try clear c5b2
  try clear c6
  try clear c6b0
  try clear c6b1
  try clear c6b2
  obtain ⟨kq, x26_2, rfl, HA, HJ2, HO_0, BK136, HB⟩ := hcut
  cases kq with
  | zero => exact absurd HA.out (by simp [replica_Elect.j0])
  | succ kj2 =>
   have H := HA.out
   clear HA
   simp only [replica_Elect.j0] at H
   by_cases c9 : x26_2 = true
   ·
    subst c9
    have H1 : (some (0, 0, 0, ([] : List (S87)), 8)) = some (r1, r2, r3, r4, r5) := by rw [if_pos rfl] at H; exact H
    clear H
    have H := H1
    clear H1
    simp only [Option.some.injEq, Prod.mk.injEq] at H
    obtain ⟨rfl, rfl, rfl, rfl, rfl⟩ := H
    have hcz10_0 : wc.cell? ⟨gb136, 0, none⟩ = some (.int .i64 0) := (bc_ BK136.out 0).trans rfl
    have hcz10_1 : wc.cell? ⟨gb136, 1, none⟩ = some (.int .i64 0) := (bc_ BK136.out 1).trans rfl
    have hcz10_2 : wc.cell? ⟨gb136, 2, none⟩ = some (.slice none 0 0) := (bc_ BK136.out 2).trans rfl
    have hfz10_0 := bf_ BK136.out 0
    have hfz10_1 := bf_ BK136.out 1
    have hfz10_2 := bf_ BK136.out 2
    go_wp2
    refine bodyPost_ret (results_list (rs := [.tmp 4, .cell 5 35, .tmp 6]) rfl (by simp) (.tmp (.cell gb136 35 #[.int .i64 0, .int .i64 0, .slice none 0 0] (0, 0) _ rfl (by (with_reducible repeat (first | refine bn_ ?_ _ | refine bd_ ?_ | refine ba_ ?_ _)); refine blk_put (cs := #[.int .i64 0, .int .i64 0, .slice none 0 0]) ?_ 2 _ rfl; (with_reducible repeat (first | refine bn_ ?_ _ | refine bd_ ?_ | refine ba_ ?_ _)); refine blk_put (cs := #[.int .i64 0, .int .i64 0, .slice none 0 0]) ?_ 1 _ rfl; (with_reducible repeat (first | refine bn_ ?_ _ | refine bd_ ?_ | refine ba_ ?_ _)); refine blk_put (cs := #[.int .i64 0, .int .i64 0, .slice none 0 0]) ?_ 0 _ rfl; (with_reducible repeat (first | refine bn_ ?_ _ | refine bd_ ?_ | refine ba_ ?_ _)); exact BK136.out) Try.underlying35 rfl (by kernel_rfl) (.tmp .nil)))) rfl ?_
    exact ⟨_, by first | rfl | (simp [errW_none, errW_some] <;> rfl) | (simp [*, errW_none, errW_some] <;> rfl), by first | exact Kd.S_nil _ _ _ _ _ | exact Kd.N_nil _ _ _ _ _ | exact Kd.V_nil _ _ _ _ _ | exact Kd.Q_nil _ _ _ _ _ | exact Kd.R_nil _ _ _ _ _, pb1_ HB.out GE136.out⟩
   ·
    replace c9 := Bool.eq_false_iff.mpr c9
    subst c9
    have H1 : (replica_Elect.l0 kj2 l0 l1 (-1) 0 0 l0 (l0.length : Int) 0) = some (r1, r2, r3, r4, r5) := by rw [if_neg (show ¬ (false = true) by decide)] at H; exact H
    clear H
    have H := H1
    clear H1
    have H' := am_ H
    clear H
    go_wp2
    go_loopg [7, 8, 9, 30] kj2 (fun kq v7 v8 v9 v30 w' => ∃ (x7_2 : Int) (x8_2 : Int) (x9_2 : Int) (x30_2 : Int), v7 = .int .i64 x7_2 ∧ v8 = .int .i64 x8_2 ∧ v9 = .int .i64 x9_2 ∧ v30 = .int .i64 x30_2 ∧ Aside0 (replica_Elect.l0 kq l0 l1 x7_2 x8_2 x9_2 l0 (l0.length : Int) x30_2 = some (r1, r2, r3, r4, r5)) ∧ Aside0 (kq ≤ kj2) ∧ Aside0 (Kd.V k35 35 w' w.heap.size (fun k_ => (P0_ k_ ∨ w.heap.size ≤ k_) ∧ k_ ≠ gb136) (.slice A0 l0.length c0) l0) ∧ Aside0 (Kd.V k35 35 w' w.heap.size (fun k_ => (P0_ k_ ∨ w.heap.size ≤ k_) ∧ k_ ≠ gb136) (.slice A0 l0.length c0) l0) ∧ Aside0 (w'.heap[gb136]? = some (.cells #[.int .i64 0, .int .i64 0, (.slice none 0 0)] 35 (0, 0))) ∧ Aside0 (Below w.heap.size w w'))
    case atStart => exact ⟨((-1)), (0), (0), (0), (by first | rfl | (simp; done) | (simp [*]; done)), (by first | rfl | (simp; done) | (simp [*]; done)), (by first | rfl | (simp; done) | (simp [*]; done)), (by first | rfl | (simp; done) | (simp [*]; done)), H', ⟨Nat.le_refl _⟩, ⟨by (with_reducible repeat (first | apply va_ | apply vn_ | apply vd_)); exact HO_0.out⟩, ⟨by (with_reducible repeat (first | apply va_ | apply vn_ | apply vd_)); exact HO_0.out⟩, ⟨by (with_reducible repeat (first | refine bn_ ?_ _ | refine bd_ ?_ | refine ba_ ?_ _)); exact BK136.out⟩, ⟨pb1_ HB.out GE136.out⟩⟩
    case round =>
     clear H'
     try clear c1
     try clear c2
     try clear p2
     try clear c5
     try clear c5b0
     try clear c5b1
     try clear c5b2
     try clear c6
     try clear c6b0
     try clear c6b1
     try clear c6b2
     try clear c9
     try clear hcz10_0
     try clear hcz10_1
     try clear hcz10_2
     try clear hfz10_0
     try clear hfz10_1
     try clear hfz10_2
     try clear p2
     obtain ⟨x7_2, x8_2, x9_2, x30_2, rfl, rfl, rfl, rfl, HA, HK2, HO_0, HO_28, BK136, HB⟩ := hrel
     cases gk with
     | zero => exact absurd HA.out (by simp [replica_Elect.l0])
     | succ k2 =>
      have H := HA.out
      clear HA
      simp only [replica_Elect.l0] at H
      by_cases c11 : x30_2 < (l0.length : Int)
      ·
       rw [if_pos c11] at H
       have c11b0 : decide (x30_2 < (l0.length : Int)) = true := de_ c11
       clear c11
       by_cases c12 : 0 ≤ x30_2
       ·
        rw [if_pos c12] at H
        have c12b0 : decide (0 ≤ x30_2) = true := de_ c12
        clear c12
        by_cases c13 : x30_2 < (l0.length : Int)
        ·
         rw [if_pos c13] at H
         have c13b0 : decide (x30_2 < (l0.length : Int)) = true := de_ c13
         clear c13
         by_cases c14 : x30_2 < (l1.length : Int)
         ·
          rw [if_pos c14] at H
          have c14b0 : decide (x30_2 < (l1.length : Int)) = true := de_ c14
          clear c14
          obtain ⟨bq15, hbq15⟩ : ∃ b_ : Bool, b_ = (rdOf false l1 x30_2) := ⟨_, rfl⟩
          replace H : (if bq15 = true then (if x7_2 < 0 then (replica_Elect.l0 k2 l0 l1 x30_2 (wrap64 (x8_2 + 1)) (mx x9_2 ((rd_T35 l0 x30_2).f0)) l0 (l0.length : Int) (wrap64 (x30_2 + 1))) else (if 0 ≤ x7_2 then (if x7_2 < (l0.length : Int) then ((replica_better.f k2 ((rd_T35 l0 x30_2).f0) ((rd_T35 l0 x30_2).f1) ((rd_T35 l0 x30_2).f2) ((rd_T35 l0 x7_2).f0) ((rd_T35 l0 x7_2).f1) ((rd_T35 l0 x7_2).f2)).bind fun t142 => (if t142 > 0 then (replica_Elect.l0 k2 l0 l1 x30_2 (wrap64 (x8_2 + 1)) (mx x9_2 ((rd_T35 l0 x30_2).f0)) l0 (l0.length : Int) (wrap64 (x30_2 + 1))) else (replica_Elect.l0 k2 l0 l1 x7_2 (wrap64 (x8_2 + 1)) (mx x9_2 ((rd_T35 l0 x30_2).f0)) l0 (l0.length : Int) (wrap64 (x30_2 + 1))))) else (none)) else (none))) else (replica_Elect.l0 k2 l0 l1 x7_2 x8_2 x9_2 l0 (l0.length : Int) (wrap64 (x30_2 + 1)))) = some (r1, r2, r3, r4, r5) := by rw [← hbq15] at H; exact H
          have Nbq15 := am_ hbq15
          clear hbq15
          by_cases c16 : bq15 = true
          ·
           subst c16
           have H1 : (if x7_2 < 0 then (replica_Elect.l0 k2 l0 l1 x30_2 (wrap64 (x8_2 + 1)) (mx x9_2 ((rd_T35 l0 x30_2).f0)) l0 (l0.length : Int) (wrap64 (x30_2 + 1))) else (if 0 ≤ x7_2 then (if x7_2 < (l0.length : Int) then ((replica_better.f k2 ((rd_T35 l0 x30_2).f0) ((rd_T35 l0 x30_2).f1) ((rd_T35 l0 x30_2).f2) ((rd_T35 l0 x7_2).f0) ((rd_T35 l0 x7_2).f1) ((rd_T35 l0 x7_2).f2)).bind fun t142 => (if t142 > 0 then (replica_Elect.l0 k2 l0 l1 x30_2 (wrap64 (x8_2 + 1)) (mx x9_2 ((rd_T35 l0 x30_2).f0)) l0 (l0.length : Int) (wrap64 (x30_2 + 1))) else (replica_Elect.l0 k2 l0 l1 x7_2 (wrap64 (x8_2 + 1)) (mx x9_2 ((rd_T35 l0 x30_2).f0)) l0 (l0.length : Int) (wrap64 (x30_2 + 1))))) else (none)) else (none))) = some (r1, r2, r3, r4, r5) := by rw [if_pos rfl] at H; exact H
           clear H
           have H := H1
           clear H1
           obtain ⟨ji17, hji17⟩ : ∃ j_ : Int, (mx x9_2 ((rd_T35 l0 x30_2).f0)) = j_ := ⟨_, rfl⟩
           replace H : (if x7_2 < 0 then (replica_Elect.l0 k2 l0 l1 x30_2 (wrap64 (x8_2 + 1)) ji17 l0 (l0.length : Int) (wrap64 (x30_2 + 1))) else (if 0 ≤ x7_2 then (if x7_2 < (l0.length : Int) then ((replica_better.f k2 ((rd_T35 l0 x30_2).f0) ((rd_T35 l0 x30_2).f1) ((rd_T35 l0 x30_2).f2) ((rd_T35 l0 x7_2).f0) ((rd_T35 l0 x7_2).f1) ((rd_T35 l0 x7_2).f2)).bind fun t142 => (if t142 > 0 then (replica_Elect.l0 k2 l0 l1 x30_2 (wrap64 (x8_2 + 1)) ji17 l0 (l0.length : Int) (wrap64 (x30_2 + 1))) else (replica_Elect.l0 k2 l0 l1 x7_2 (wrap64 (x8_2 + 1)) ji17 l0 (l0.length : Int) (wrap64 (x30_2 + 1))))) else (none)) else (none))) = some (r1, r2, r3, r4, r5) := by first | (rw [hji17] at H; exact H) | (simp only [hji17] at H ⊢; exact H)
           have hji17_ : (if x9_2 < ((rd_T35 l0 x30_2).f0) then ((rd_T35 l0 x30_2).f0) else x9_2) = ji17 := hji17
           by_cases c18 : x7_2 < 0
           ·
            rw [if_pos c18] at H
            have c18b0 : decide (x7_2 < 0) = true := de_ c18
            clear c18
            have H' := am_ H
            clear H
            have p138 : 0 ≤ (x30_2 : Int) := ot_ (by first | (with_reducible assumption) | assumption)
            have q138 : x30_2 < (l0.length : Int) := ot_ (by first | (with_reducible assumption) | assumption)
            obtain ⟨ad138, A138_2, c138_2, e138, hx138_0, hx138_1, hx138_2, hl138_2, hi138_2⟩ := at_T35 (Kd.V_reads' HO_28.out).2.2 x30_2 p138 q138
            cases e138
            obtain ⟨ce138, hce138, hMe138, hcc138⟩ := Kd.V_get HO_28.out z35 x30_2 p138 (by first | exact q138 | exact ot_ (by first | (with_reducible assumption) | assumption) | (have e_ := (Kd.V_reads' HO_28.out).1; omega))
            obtain ⟨ua138_2, uc138_2, rfl, ul138_2, ge138_2⟩ := k35_openF hMe138
            have hv138_2 := hcc138 2 _ rfl
            rw [add_field _ _ 2 (by omega)] at hv138_2
            replace hv138_2 := si_ (hv138_2.symm.trans hx138_2)
            injection hv138_2 with hva_ hvn_ hvc_
            rw [hva_] at ge138_2
            rw [hvc_] at ul138_2
            have HL138_2 := am_ (show Kd.V k87 87 _ w.heap.size _ _ ((rd_T35 l0 x30_2).f2) from Kd.V_mk ul138_2 ge138_2)
            clear hva_ hvn_ hvc_ ge138_2 ul138_2
            clear hcc138 hce138
            have HR138_2 := am_ hi138_2
            have HC138_2 := am_ hl138_2
            clear hi138_2 hl138_2
            replace p138 := eq_true p138
            replace q138 := eq_true q138
            try go_wp2_with (first | ((with_reducible refine gate_dst (N := 11) rfl ?_); (try (refine gate_guard (by rfl) ?_; dsimp only)); refine box_event ?hg (N := 11) ?hd (cs := #[.int .i64 0, .int .i64 0, .slice none 0 0]) (t := 35) ?hr ?_; (case hd => rfl); (case hg => rfl); (case hr => first | (go_simp; done) | (go_simp; rfl)); intro gb139 hg w19 hbox hb; have n0_ := am_ (vb_ (Kd.V_elderB (pV_ HO_0.out) gb139 (le_ hg.symm)) hb); have n1_ := am_ (vb_ (Kd.V_elderB (pV_ HO_28.out) gb139 (le_ hg.symm)) hb); have n2_ := am_ (vb_ (Kd.V_elderB (pV_ HL138_2.out) gb139 (le_ hg.symm)) hb); have n3_ := am_ (bw_ (g := gb136) (o := .cells #[.int .i64 0, .int .i64 0, .slice none 0 0] 35 (0, 0)) (pk_ BK136.out) hb); have n4_ := am_ (Kd.C_below (by repeat (first | (with_reducible exact HR138_2.out) | (with_reducible refine Kd.C_alloc ?_ _) | (with_reducible refine Kd.C_drewN ?_ _) | (with_reducible refine Kd.C_drew ?_) | exact HR138_2.out)) hb); have n5_ := am_ (sp_ (pb1_ HB.out GE136.out) hb); have n6_ := am_ (hbox); have n7_ := am_ ((by rw [hg]; exact (bz_ (pb1_ HB.out GE136.out)) : w.heap.size ≤ gb139)); have n8_ := am_ ((by rw [hg]; exact (bz_ (pb1_ HB.out GE136.out)) : w.heap.size ≤ gb139)); have n9_ := am_ ((by rw [hg]; exact Nat.ne_of_lt (blk_lt (g := gb136) (o := .cells #[.int .i64 0, .int .i64 0, .slice none 0 0] 35 (0, 0)) (pk_ BK136.out)) : gb136 ≠ gb139)); have n10_ := am_ ((by rw [hg]; exact Nat.ne_of_gt (blk_lt (g := gb136) (o := .cells #[.int .i64 0, .int .i64 0, .slice none 0 0] 35 (0, 0)) (pk_ BK136.out)) : gb139 ≠ gb136)); clear HO_0; clear HO_28; clear HL138_2; clear BK136; clear HR138_2; clear HB; have HO_0 := n0_; have HO_28 := n1_; have HL138_2 := n2_; have BK136 := n3_; have HR138_2 := n4_; have HB := n5_; have BK139 := n6_; have GW139 := n7_; have GE139 := n8_; have NB136_139 := n9_; have NB139_136 := n10_; clear n0_ n1_ n2_ n3_ n4_ n5_ n6_ n7_ n8_ n9_ n10_; clear hb hbox hg; have hnb20 := NB139_136.out; have hnc20 := NB136_139.out; have hcz21_0 : w19.cell? ⟨gb139, 0, none⟩ = some (.int .i64 0) := (bc_ BK139.out 0).trans rfl; have hcz21_1 : w19.cell? ⟨gb139, 1, none⟩ = some (.int .i64 0) := (bc_ BK139.out 1).trans rfl; have hcz21_2 : w19.cell? ⟨gb139, 2, none⟩ = some (.slice none 0 0) := (bc_ BK139.out 2).trans rfl; have hfz21_0 := bf_ BK139.out 0; have hfz21_1 := bf_ BK139.out 1; have hfz21_2 := bf_ BK139.out 2; have p140 : 0 ≤ (x30_2 : Int) := ot_ (by first | (with_reducible assumption) | assumption); have q140 : x30_2 < (l1.length : Int) := ot_ (by first | (with_reducible assumption) | assumption); obtain ⟨ad140, e140, hx140_0⟩ := Kd.at_bool HR1.out x30_2 p140 q140; (try rw [← Nbq15.out] at hx140_0); cases e140; have hn140_0 : ad140.block ≠ gb139 := Nat.ne_of_lt (Nat.lt_of_lt_of_le (by have := bk_ _ _ hx140_0; first | rwa [add_block] at this | exact this) GW139.out); have hn140_1 : ad140.block ≠ gb139 := Nat.ne_of_lt (Nat.lt_of_lt_of_le (by have := bk_ _ _ hx140_0; first | rwa [add_block] at this | exact this) GW139.out); have hn140_2 : ad140.block ≠ gb139 := Nat.ne_of_lt (Nat.lt_of_lt_of_le (by have := bk_ _ _ hx140_0; first | rwa [add_block] at this | exact this) GW139.out); replace hx140_0 := (HB.out.cell (bk_ w _ hx140_0)).trans hx140_0; replace hx140_0 := (cell_far (p := ⟨gb139, 0, none⟩) (by first | (rw [add_block]; exact hn140_0) | (show (Addr.add _ _).block ≠ _; rw [add_block]; exact hn140_0) | exact hn140_0) (.int .i64 ((rd_T35 l0 x30_2).f0))).trans hx140_0; replace hx140_0 := (cell_far (p := ⟨gb139, 1, none⟩) (by first | (rw [add_block]; exact hn140_1) | (show (Addr.add _ _).block ≠ _; rw [add_block]; exact hn140_1) | exact hn140_1) (.int .i64 ((rd_T35 l0 x30_2).f1))).trans hx140_0; replace hx140_0 := (cell_far (p := ⟨gb139, 2, none⟩) (by first | (rw [add_block]; exact hn140_2) | (show (Addr.add _ _).block ≠ _; rw [add_block]; exact hn140_2) | exact hn140_2) (.slice A138_2 ((rd_T35 l0 x30_2).f2).length c138_2)).trans hx140_0; clear hn140_0; clear hn140_1; clear hn140_2; replace p140 := eq_true p140; replace q140 := eq_true q140))
            have n0_ : Aside0 (Kd.V k35 35 (((w19.setCell ⟨gb139, 0, none⟩ (.int .i64 ((rd_T35 l0 x30_2).f0))).setCell ⟨gb139, 1, none⟩ (.int .i64 ((rd_T35 l0 x30_2).f1))).setCell ⟨gb139, 2, none⟩ (.slice A138_2 ((rd_T35 l0 x30_2).f2).length c138_2)) w.heap.size (fun k_ => (P0_ k_ ∨ w.heap.size ≤ k_) ∧ k_ ≠ gb136 ∧ k_ ≠ gb139) (.slice (some ad138) l0.length c0) l0) := ⟨by (with_reducible repeat (first | apply va_ | apply vn_ | apply vd_)); exact vm_ (Kd.V_far (p := ⟨gb139, 2, none⟩) (Kd.V_far (p := ⟨gb139, 1, none⟩) (Kd.V_far (p := ⟨gb139, 0, none⟩) (vm_ HO_0.out (fun k_ hk => (⟨hk, hk.2⟩ : _ ∧ k_ ≠ gb139))) (fun _ hk => hk.2) (.int .i64 ((rd_T35 l0 x30_2).f0))) (fun _ hk => hk.2) (.int .i64 ((rd_T35 l0 x30_2).f1))) (fun _ hk => hk.2) (.slice A138_2 ((rd_T35 l0 x30_2).f2).length c138_2)) (fun _ hk => ⟨hk.1.1.1, ⟨hk.1.1.2, hk.1.2⟩⟩)⟩
            have n1_ : Aside0 (Kd.V k35 35 (((w19.setCell ⟨gb139, 0, none⟩ (.int .i64 ((rd_T35 l0 x30_2).f0))).setCell ⟨gb139, 1, none⟩ (.int .i64 ((rd_T35 l0 x30_2).f1))).setCell ⟨gb139, 2, none⟩ (.slice A138_2 ((rd_T35 l0 x30_2).f2).length c138_2)) w.heap.size (fun k_ => (P0_ k_ ∨ w.heap.size ≤ k_) ∧ k_ ≠ gb136 ∧ k_ ≠ gb139) (.slice (some ad138) l0.length c0) l0) := ⟨by (with_reducible repeat (first | apply va_ | apply vn_ | apply vd_)); exact vm_ (Kd.V_far (p := ⟨gb139, 2, none⟩) (Kd.V_far (p := ⟨gb139, 1, none⟩) (Kd.V_far (p := ⟨gb139, 0, none⟩) (vm_ HO_28.out (fun k_ hk => (⟨hk, hk.2⟩ : _ ∧ k_ ≠ gb139))) (fun _ hk => hk.2) (.int .i64 ((rd_T35 l0 x30_2).f0))) (fun _ hk => hk.2) (.int .i64 ((rd_T35 l0 x30_2).f1))) (fun _ hk => hk.2) (.slice A138_2 ((rd_T35 l0 x30_2).f2).length c138_2)) (fun _ hk => ⟨hk.1.1.1, ⟨hk.1.1.2, hk.1.2⟩⟩)⟩
            have n2_ : Aside0 (Kd.V k87 87 (((w19.setCell ⟨gb139, 0, none⟩ (.int .i64 ((rd_T35 l0 x30_2).f0))).setCell ⟨gb139, 1, none⟩ (.int .i64 ((rd_T35 l0 x30_2).f1))).setCell ⟨gb139, 2, none⟩ (.slice A138_2 ((rd_T35 l0 x30_2).f2).length c138_2)) w.heap.size (fun k_ => (P0_ k_ ∨ w.heap.size ≤ k_) ∧ k_ ≠ gb136 ∧ k_ ≠ gb139) (.slice A138_2 ((rd_T35 l0 x30_2).f2).length c138_2) ((rd_T35 l0 x30_2).f2)) := ⟨by (with_reducible repeat (first | apply va_ | apply vn_ | apply vd_)); exact vm_ (Kd.V_far (p := ⟨gb139, 2, none⟩) (Kd.V_far (p := ⟨gb139, 1, none⟩) (Kd.V_far (p := ⟨gb139, 0, none⟩) (vm_ HL138_2.out (fun k_ hk => (⟨hk, hk.2⟩ : _ ∧ k_ ≠ gb139))) (fun _ hk => hk.2) (.int .i64 ((rd_T35 l0 x30_2).f0))) (fun _ hk => hk.2) (.int .i64 ((rd_T35 l0 x30_2).f1))) (fun _ hk => hk.2) (.slice A138_2 ((rd_T35 l0 x30_2).f2).length c138_2)) (fun _ hk => ⟨hk.1.1.1, ⟨hk.1.1.2, hk.1.2⟩⟩)⟩
            have n3_ : Aside0 ((((w19.setCell ⟨gb139, 0, none⟩ (.int .i64 ((rd_T35 l0 x30_2).f0))).setCell ⟨gb139, 1, none⟩ (.int .i64 ((rd_T35 l0 x30_2).f1))).setCell ⟨gb139, 2, none⟩ (.slice A138_2 ((rd_T35 l0 x30_2).f2).length c138_2)).heap[gb136]? = some (.cells #[.int .i64 0, .int .i64 0, .slice none 0 0] 35 (0, 0))) := ⟨by (with_reducible repeat (first | refine bn_ ?_ _ | refine bd_ ?_ | refine ba_ ?_ _)); refine blk_far ?_ NB136_139.out _; (with_reducible repeat (first | refine bn_ ?_ _ | refine bd_ ?_ | refine ba_ ?_ _)); refine blk_far ?_ NB136_139.out _; (with_reducible repeat (first | refine bn_ ?_ _ | refine bd_ ?_ | refine ba_ ?_ _)); refine blk_far ?_ NB136_139.out _; (with_reducible repeat (first | refine bn_ ?_ _ | refine bd_ ?_ | refine ba_ ?_ _)); exact BK136.out⟩
            have n4_ : Aside0 ((((w19.setCell ⟨gb139, 0, none⟩ (.int .i64 ((rd_T35 l0 x30_2).f0))).setCell ⟨gb139, 1, none⟩ (.int .i64 ((rd_T35 l0 x30_2).f1))).setCell ⟨gb139, 2, none⟩ (.slice A138_2 ((rd_T35 l0 x30_2).f2).length c138_2)).heap[gb139]? = some (.cells #[.int .i64 ((rd_T35 l0 x30_2).f0), .int .i64 ((rd_T35 l0 x30_2).f1), .slice A138_2 ((rd_T35 l0 x30_2).f2).length c138_2] 35 (0, 0))) := ⟨by (with_reducible repeat (first | refine bn_ ?_ _ | refine bd_ ?_ | refine ba_ ?_ _)); refine blk_put (cs := #[.int .i64 ((rd_T35 l0 x30_2).f0), .int .i64 ((rd_T35 l0 x30_2).f1), .slice none 0 0]) ?_ 2 _ rfl; (with_reducible repeat (first | refine bn_ ?_ _ | refine bd_ ?_ | refine ba_ ?_ _)); refine blk_put (cs := #[.int .i64 ((rd_T35 l0 x30_2).f0), .int .i64 0, .slice none 0 0]) ?_ 1 _ rfl; (with_reducible repeat (first | refine bn_ ?_ _ | refine bd_ ?_ | refine ba_ ?_ _)); refine blk_put (cs := #[.int .i64 0, .int .i64 0, .slice none 0 0]) ?_ 0 _ rfl; (with_reducible repeat (first | refine bn_ ?_ _ | refine bd_ ?_ | refine ba_ ?_ _)); exact BK139.out⟩
            have n5_ : Aside0 (Below w.heap.size w (((w19.setCell ⟨gb139, 0, none⟩ (.int .i64 ((rd_T35 l0 x30_2).f0))).setCell ⟨gb139, 1, none⟩ (.int .i64 ((rd_T35 l0 x30_2).f1))).setCell ⟨gb139, 2, none⟩ (.slice A138_2 ((rd_T35 l0 x30_2).f2).length c138_2))) := ⟨pb2_ HB.out GE136.out GE139.out⟩
            (try clear HO_0)
            (try clear HO_28)
            (try clear HL138_2)
            (try clear BK136)
            (try clear BK139)
            (try clear HB)
            generalize (((w19.setCell ⟨gb139, 0, none⟩ (.int .i64 ((rd_T35 l0 x30_2).f0))).setCell ⟨gb139, 1, none⟩ (.int .i64 ((rd_T35 l0 x30_2).f1))).setCell ⟨gb139, 2, none⟩ (.slice A138_2 ((rd_T35 l0 x30_2).f2).length c138_2)) = w22 at n0_ n1_ n2_ n3_ n4_ n5_ ⊢
            have HO_0 := n0_
            have HO_28 := n1_
            have HL138_2 := n2_
            have BK136 := n3_
            have BK139 := n4_
            have HB := n5_
            clear n0_ n1_ n2_ n3_ n4_ n5_
            have n0_ := am_ (vd_ HO_0.out)
            have n1_ := am_ (vd_ HO_28.out)
            have n2_ := am_ (vd_ HL138_2.out)
            have n3_ := am_ (bd_ BK136.out)
            have n4_ := am_ (bd_ BK139.out)
            have n5_ := am_ (b1_ HB.out)
            clear HO_0
            clear HO_28
            clear HL138_2
            clear BK136
            clear BK139
            clear HB
            have HO_0 := n0_
            have HO_28 := n1_
            have HL138_2 := n2_
            have BK136 := n3_
            have BK139 := n4_
            have HB := n5_
            clear n0_ n1_ n2_ n3_ n4_ n5_
            refine start_ (n := 11) (S := fun w' => True) (ds := []) #[false, false, false, false, false, false, false, false, false, false, false] (by kernel_rfl) rfl rfl trivial (fun hHeld => ?_); refine with_tabW replica_Elect.tab10 replica_Elect.bits10 (fun HT_ HW_ => ?_)
            generalize w22.drew = w23 at HO_0 HO_28 HL138_2 BK136 BK139 HB hHeld ⊢
            refine pure_ (i := 0) (N := some 46) (v := ?_) (a' := ?_) #[true, false, false, false, false, false, false, false, false, false, false] rfl rfl (any_of HT_.out (by kernel_rfl)) (fun _ _ _ h => h) (Or.inl ⟨by rfl, ?_⟩) ?_ ?_
            rotate_left
            ·
             intro w'
             go_simp
             with_reducible rfl
            rotate_left
            ·
             simp only [Act.put, lt1_, lt2_, lt3_, i64_w, i32_w]
             rfl
            refine pure_ (i := 1) (N := some 47) (v := ?_) (a' := ?_) #[true, true, false, false, false, false, false, false, false, false, false] rfl rfl (any_of HT_.out (by kernel_rfl)) (fun _ _ _ h => h) (Or.inl ⟨by rfl, ?_⟩) ?_ ?_
            rotate_left
            ·
             intro w'
             go_simp
             with_reducible rfl
            rotate_left
            ·
             simp only [Act.put, lt1_, lt2_, lt3_, i64_w, i32_w]
             rfl
            refine pure_ (i := 2) (N := some 48) (v := ?_) (a' := ?_) #[true, true, true, false, false, false, false, false, false, false, false] rfl rfl (any_of HT_.out (by kernel_rfl)) (fun _ _ _ h => h) (Or.inl ⟨by rfl, ?_⟩) ?_ ?_
            rotate_left
            ·
             intro w'
             go_simp
             with_reducible rfl
            rotate_left
            ·
             simp only [Act.put, lt1_, lt2_, lt3_, i64_w, i32_w]
             rfl
            refine pure_ (i := 3) (N := some 49) (v := undef) (a' := ?_) #[true, true, true, true, false, false, false, false, false, false, false] rfl rfl (any_of HT_.out (by kernel_rfl)) (fun _ _ _ h => h) (Or.inr ⟨by rfl, rfl⟩) ?_ ?_
            rotate_left
            ·
             simp only [Act.put, lt1_, lt2_, lt3_, i64_w, i32_w]
             rfl
            refine pure_ (i := 4) (N := some 50) (v := undef) (a' := ?_) #[true, true, true, true, true, false, false, false, false, false, false] rfl rfl (any_of HT_.out (by kernel_rfl)) (fun _ _ _ h => h) (Or.inr ⟨by rfl, rfl⟩) ?_ ?_
            rotate_left
            ·
             simp only [Act.put, lt1_, lt2_, lt3_, i64_w, i32_w]
             rfl
            refine pure_ (i := 5) (N := some 51) (v := undef) (a' := ?_) #[true, true, true, true, true, true, false, false, false, false, false] rfl rfl (any_of HT_.out (by kernel_rfl)) (fun _ _ _ h => h) (Or.inr ⟨by rfl, rfl⟩) ?_ ?_
            rotate_left
            ·
             simp only [Act.put, lt1_, lt2_, lt3_, i64_w, i32_w]
             rfl
            refine pure_ (i := 6) (N := some 52) (v := undef) (a' := ?_) #[true, true, true, true, true, true, true, false, false, false, false] rfl rfl (any_of HT_.out (by kernel_rfl)) (fun _ _ _ h => h) (Or.inr ⟨by rfl, rfl⟩) ?_ ?_
            rotate_left
            ·
             simp only [Act.put, lt1_, lt2_, lt3_, i64_w, i32_w]
             rfl
            refine pure_ (i := 7) (N := some 53) (v := undef) (a' := ?_) #[true, true, true, true, true, true, true, true, false, false, false] rfl rfl (any_of HT_.out (by kernel_rfl)) (fun _ _ _ h => h) (Or.inr ⟨by rfl, rfl⟩) ?_ ?_
            rotate_left
            ·
             simp only [Act.put, lt1_, lt2_, lt3_, i64_w, i32_w]
             rfl
            refine pure_ (i := 8) (N := some 54) (v := undef) (a' := ?_) #[true, true, true, true, true, true, true, true, true, false, false] rfl rfl (any_of HT_.out (by kernel_rfl)) (fun _ _ _ h => h) (Or.inr ⟨by rfl, rfl⟩) ?_ ?_
            rotate_left
            ·
             simp only [Act.put, lt1_, lt2_, lt3_, i64_w, i32_w]
             rfl
            refine pure_ (i := 9) (N := some 55) (v := undef) (a' := ?_) #[true, true, true, true, true, true, true, true, true, true, false] rfl rfl (any_of HT_.out (by kernel_rfl)) (fun _ _ _ h => h) (Or.inr ⟨by rfl, rfl⟩) ?_ ?_
            rotate_left
            ·
             simp only [Act.put, lt1_, lt2_, lt3_, i64_w, i32_w]
             rfl
            refine pure_ (i := 10) (N := some 56) (v := ?_) (a' := ?_) #[true, true, true, true, true, true, true, true, true, true, true] rfl rfl (any_of HT_.out (by kernel_rfl)) (fun _ _ _ h => h) (Or.inl ⟨by rfl, ?_⟩) ?_ ?_
            rotate_left
            ·
             intro w'
             go_simp
             with_reducible rfl
            rotate_left
            ·
             simp only [Act.put, lt1_, lt2_, lt3_, i64_w, i32_w]
             rfl
            refine done_ (done_of HT_.out (by kernel_rfl)) ?_
            try go_wp2
            go_roundg k2
            case measure => have := HJ2.out; have := HK2.out; omega
            case rel => exact ⟨(x30_2), (wrap64 (x8_2 + 1)), (ji17), (wrap64 (x30_2 + 1)), (by first | rfl | (simp; done) | (simp [*]; done)), (by first | rfl | (simp; done) | (simp [*]; done)), (by first | rfl | (simp; done) | (simp only [← hji17] <;> (first | rfl | simp)) | (simp [*]; done)), (by first | rfl | (simp; done) | (simp [*]; done)), H', ⟨by have := HJ2.out; have := HK2.out; omega⟩, ⟨by (with_reducible repeat (first | apply va_ | apply vn_ | apply vd_)); exact vm_ HO_0.out (fun _ hk => ⟨hk.1, hk.2.1⟩)⟩, ⟨by (with_reducible repeat (first | apply va_ | apply vn_ | apply vd_)); exact vm_ HO_28.out (fun _ hk => ⟨hk.1, hk.2.1⟩)⟩, ⟨by (with_reducible repeat (first | refine bn_ ?_ _ | refine bd_ ?_ | refine ba_ ?_ _)); exact BK136.out⟩, ⟨pb2_ HB.out GE136.out GE139.out⟩⟩
           ·
            rw [if_neg c18] at H
            have c18b0 : decide (x7_2 < 0) = false := df_ c18
            clear c18
            by_cases c24 : 0 ≤ x7_2
            ·
             rw [if_pos c24] at H
             have c24b0 : decide (0 ≤ x7_2) = true := de_ c24
             clear c24
             by_cases c25 : x7_2 < (l0.length : Int)
             ·
              rw [if_pos c25] at H
              have c25b0 : decide (x7_2 < (l0.length : Int)) = true := de_ c25
              clear c25
              replace H := Option.bind_eq_some_iff.mp H
              obtain ⟨t142, A260, H⟩ := H
              replace H : (if t142 > 0 then (replica_Elect.l0 k2 l0 l1 x30_2 (wrap64 (x8_2 + 1)) ji17 l0 (l0.length : Int) (wrap64 (x30_2 + 1))) else (replica_Elect.l0 k2 l0 l1 x7_2 (wrap64 (x8_2 + 1)) ji17 l0 (l0.length : Int) (wrap64 (x30_2 + 1)))) = some (r1, r2, r3, r4, r5) := H
              have A26 := am_ A260
              clear A260
              by_cases c27 : t142 > 0
              ·
               rw [if_pos c27] at H
               have c27b0 : decide (0 < t142) = true := de_ c27
               clear c27
               have H' := am_ H
               clear H
               have p138 : 0 ≤ (x30_2 : Int) := ot_ (by first | (with_reducible assumption) | assumption)
               have q138 : x30_2 < (l0.length : Int) := ot_ (by first | (with_reducible assumption) | assumption)
               obtain ⟨ad138, A138_2, c138_2, e138, hx138_0, hx138_1, hx138_2, hl138_2, hi138_2⟩ := at_T35 (Kd.V_reads' HO_28.out).2.2 x30_2 p138 q138
               cases e138
               obtain ⟨ce138, hce138, hMe138, hcc138⟩ := Kd.V_get HO_28.out z35 x30_2 p138 (by first | exact q138 | exact ot_ (by first | (with_reducible assumption) | assumption) | (have e_ := (Kd.V_reads' HO_28.out).1; omega))
               obtain ⟨ua138_2, uc138_2, rfl, ul138_2, ge138_2⟩ := k35_openF hMe138
               have hv138_2 := hcc138 2 _ rfl
               rw [add_field _ _ 2 (by omega)] at hv138_2
               replace hv138_2 := si_ (hv138_2.symm.trans hx138_2)
               injection hv138_2 with hva_ hvn_ hvc_
               rw [hva_] at ge138_2
               rw [hvc_] at ul138_2
               have HL138_2 := am_ (show Kd.V k87 87 _ w.heap.size _ _ ((rd_T35 l0 x30_2).f2) from Kd.V_mk ul138_2 ge138_2)
               clear hva_ hvn_ hvc_ ge138_2 ul138_2
               clear hcc138 hce138
               have HR138_2 := am_ hi138_2
               have HC138_2 := am_ hl138_2
               clear hi138_2 hl138_2
               replace p138 := eq_true p138
               replace q138 := eq_true q138
               try go_wp2_with (first | ((with_reducible refine gate_dst (N := 11) rfl ?_); (try (refine gate_guard (by rfl) ?_; dsimp only)); refine box_event ?hg (N := 11) ?hd (cs := #[.int .i64 0, .int .i64 0, .slice none 0 0]) (t := 35) ?hr ?_; (case hd => rfl); (case hg => rfl); (case hr => first | (go_simp; done) | (go_simp; rfl)); intro gb139 hg w28 hbox hb; have n0_ := am_ (vb_ (Kd.V_elderB (pV_ HO_0.out) gb139 (le_ hg.symm)) hb); have n1_ := am_ (vb_ (Kd.V_elderB (pV_ HO_28.out) gb139 (le_ hg.symm)) hb); have n2_ := am_ (vb_ (Kd.V_elderB (pV_ HL138_2.out) gb139 (le_ hg.symm)) hb); have n3_ := am_ (bw_ (g := gb136) (o := .cells #[.int .i64 0, .int .i64 0, .slice none 0 0] 35 (0, 0)) (pk_ BK136.out) hb); have n4_ := am_ (Kd.C_below (by repeat (first | (with_reducible exact HR138_2.out) | (with_reducible refine Kd.C_alloc ?_ _) | (with_reducible refine Kd.C_drewN ?_ _) | (with_reducible refine Kd.C_drew ?_) | exact HR138_2.out)) hb); have n5_ := am_ (sp_ (pb1_ HB.out GE136.out) hb); have n6_ := am_ (hbox); have n7_ := am_ ((by rw [hg]; exact (bz_ (pb1_ HB.out GE136.out)) : w.heap.size ≤ gb139)); have n8_ := am_ ((by rw [hg]; exact (bz_ (pb1_ HB.out GE136.out)) : w.heap.size ≤ gb139)); have n9_ := am_ ((by rw [hg]; exact Nat.ne_of_lt (blk_lt (g := gb136) (o := .cells #[.int .i64 0, .int .i64 0, .slice none 0 0] 35 (0, 0)) (pk_ BK136.out)) : gb136 ≠ gb139)); have n10_ := am_ ((by rw [hg]; exact Nat.ne_of_gt (blk_lt (g := gb136) (o := .cells #[.int .i64 0, .int .i64 0, .slice none 0 0] 35 (0, 0)) (pk_ BK136.out)) : gb139 ≠ gb136)); clear HO_0; clear HO_28; clear HL138_2; clear BK136; clear HR138_2; clear HB; have HO_0 := n0_; have HO_28 := n1_; have HL138_2 := n2_; have BK136 := n3_; have HR138_2 := n4_; have HB := n5_; have BK139 := n6_; have GW139 := n7_; have GE139 := n8_; have NB136_139 := n9_; have NB139_136 := n10_; clear n0_ n1_ n2_ n3_ n4_ n5_ n6_ n7_ n8_ n9_ n10_; clear hb hbox hg; have hnb29 := NB139_136.out; have hnc29 := NB136_139.out; have hcz30_0 : w28.cell? ⟨gb139, 0, none⟩ = some (.int .i64 0) := (bc_ BK139.out 0).trans rfl; have hcz30_1 : w28.cell? ⟨gb139, 1, none⟩ = some (.int .i64 0) := (bc_ BK139.out 1).trans rfl; have hcz30_2 : w28.cell? ⟨gb139, 2, none⟩ = some (.slice none 0 0) := (bc_ BK139.out 2).trans rfl; have hfz30_0 := bf_ BK139.out 0; have hfz30_1 := bf_ BK139.out 1; have hfz30_2 := bf_ BK139.out 2; have p140 : 0 ≤ (x30_2 : Int) := ot_ (by first | (with_reducible assumption) | assumption); have q140 : x30_2 < (l1.length : Int) := ot_ (by first | (with_reducible assumption) | assumption); obtain ⟨ad140, e140, hx140_0⟩ := Kd.at_bool HR1.out x30_2 p140 q140; (try rw [← Nbq15.out] at hx140_0); cases e140; have hn140_0 : ad140.block ≠ gb139 := Nat.ne_of_lt (Nat.lt_of_lt_of_le (by have := bk_ _ _ hx140_0; first | rwa [add_block] at this | exact this) GW139.out); have hn140_1 : ad140.block ≠ gb139 := Nat.ne_of_lt (Nat.lt_of_lt_of_le (by have := bk_ _ _ hx140_0; first | rwa [add_block] at this | exact this) GW139.out); have hn140_2 : ad140.block ≠ gb139 := Nat.ne_of_lt (Nat.lt_of_lt_of_le (by have := bk_ _ _ hx140_0; first | rwa [add_block] at this | exact this) GW139.out); replace hx140_0 := (HB.out.cell (bk_ w _ hx140_0)).trans hx140_0; replace hx140_0 := (cell_far (p := ⟨gb139, 0, none⟩) (by first | (rw [add_block]; exact hn140_0) | (show (Addr.add _ _).block ≠ _; rw [add_block]; exact hn140_0) | exact hn140_0) (.int .i64 ((rd_T35 l0 x30_2).f0))).trans hx140_0; replace hx140_0 := (cell_far (p := ⟨gb139, 1, none⟩) (by first | (rw [add_block]; exact hn140_1) | (show (Addr.add _ _).block ≠ _; rw [add_block]; exact hn140_1) | exact hn140_1) (.int .i64 ((rd_T35 l0 x30_2).f1))).trans hx140_0; replace hx140_0 := (cell_far (p := ⟨gb139, 2, none⟩) (by first | (rw [add_block]; exact hn140_2) | (show (Addr.add _ _).block ≠ _; rw [add_block]; exact hn140_2) | exact hn140_2) (.slice A138_2 ((rd_T35 l0 x30_2).f2).length c138_2)).trans hx140_0; clear hn140_0; clear hn140_1; clear hn140_2; replace p140 := eq_true p140; replace q140 := eq_true q140))
               have n0_ : Aside0 (Kd.V k35 35 (((w28.setCell ⟨gb139, 0, none⟩ (.int .i64 ((rd_T35 l0 x30_2).f0))).setCell ⟨gb139, 1, none⟩ (.int .i64 ((rd_T35 l0 x30_2).f1))).setCell ⟨gb139, 2, none⟩ (.slice A138_2 ((rd_T35 l0 x30_2).f2).length c138_2)) w.heap.size (fun k_ => (P0_ k_ ∨ w.heap.size ≤ k_) ∧ k_ ≠ gb136 ∧ k_ ≠ gb139) (.slice (some ad138) l0.length c0) l0) := ⟨by (with_reducible repeat (first | apply va_ | apply vn_ | apply vd_)); exact vm_ (Kd.V_far (p := ⟨gb139, 2, none⟩) (Kd.V_far (p := ⟨gb139, 1, none⟩) (Kd.V_far (p := ⟨gb139, 0, none⟩) (vm_ HO_0.out (fun k_ hk => (⟨hk, hk.2⟩ : _ ∧ k_ ≠ gb139))) (fun _ hk => hk.2) (.int .i64 ((rd_T35 l0 x30_2).f0))) (fun _ hk => hk.2) (.int .i64 ((rd_T35 l0 x30_2).f1))) (fun _ hk => hk.2) (.slice A138_2 ((rd_T35 l0 x30_2).f2).length c138_2)) (fun _ hk => ⟨hk.1.1.1, ⟨hk.1.1.2, hk.1.2⟩⟩)⟩
               have n1_ : Aside0 (Kd.V k35 35 (((w28.setCell ⟨gb139, 0, none⟩ (.int .i64 ((rd_T35 l0 x30_2).f0))).setCell ⟨gb139, 1, none⟩ (.int .i64 ((rd_T35 l0 x30_2).f1))).setCell ⟨gb139, 2, none⟩ (.slice A138_2 ((rd_T35 l0 x30_2).f2).length c138_2)) w.heap.size (fun k_ => (P0_ k_ ∨ w.heap.size ≤ k_) ∧ k_ ≠ gb136 ∧ k_ ≠ gb139) (.slice (some ad138) l0.length c0) l0) := ⟨by (with_reducible repeat (first | apply va_ | apply vn_ | apply vd_)); exact vm_ (Kd.V_far (p := ⟨gb139, 2, none⟩) (Kd.V_far (p := ⟨gb139, 1, none⟩) (Kd.V_far (p := ⟨gb139, 0, none⟩) (vm_ HO_28.out (fun k_ hk => (⟨hk, hk.2⟩ : _ ∧ k_ ≠ gb139))) (fun _ hk => hk.2) (.int .i64 ((rd_T35 l0 x30_2).f0))) (fun _ hk => hk.2) (.int .i64 ((rd_T35 l0 x30_2).f1))) (fun _ hk => hk.2) (.slice A138_2 ((rd_T35 l0 x30_2).f2).length c138_2)) (fun _ hk => ⟨hk.1.1.1, ⟨hk.1.1.2, hk.1.2⟩⟩)⟩
               have n2_ : Aside0 (Kd.V k87 87 (((w28.setCell ⟨gb139, 0, none⟩ (.int .i64 ((rd_T35 l0 x30_2).f0))).setCell ⟨gb139, 1, none⟩ (.int .i64 ((rd_T35 l0 x30_2).f1))).setCell ⟨gb139, 2, none⟩ (.slice A138_2 ((rd_T35 l0 x30_2).f2).length c138_2)) w.heap.size (fun k_ => (P0_ k_ ∨ w.heap.size ≤ k_) ∧ k_ ≠ gb136 ∧ k_ ≠ gb139) (.slice A138_2 ((rd_T35 l0 x30_2).f2).length c138_2) ((rd_T35 l0 x30_2).f2)) := ⟨by (with_reducible repeat (first | apply va_ | apply vn_ | apply vd_)); exact vm_ (Kd.V_far (p := ⟨gb139, 2, none⟩) (Kd.V_far (p := ⟨gb139, 1, none⟩) (Kd.V_far (p := ⟨gb139, 0, none⟩) (vm_ HL138_2.out (fun k_ hk => (⟨hk, hk.2⟩ : _ ∧ k_ ≠ gb139))) (fun _ hk => hk.2) (.int .i64 ((rd_T35 l0 x30_2).f0))) (fun _ hk => hk.2) (.int .i64 ((rd_T35 l0 x30_2).f1))) (fun _ hk => hk.2) (.slice A138_2 ((rd_T35 l0 x30_2).f2).length c138_2)) (fun _ hk => ⟨hk.1.1.1, ⟨hk.1.1.2, hk.1.2⟩⟩)⟩
               have n3_ : Aside0 ((((w28.setCell ⟨gb139, 0, none⟩ (.int .i64 ((rd_T35 l0 x30_2).f0))).setCell ⟨gb139, 1, none⟩ (.int .i64 ((rd_T35 l0 x30_2).f1))).setCell ⟨gb139, 2, none⟩ (.slice A138_2 ((rd_T35 l0 x30_2).f2).length c138_2)).heap[gb136]? = some (.cells #[.int .i64 0, .int .i64 0, .slice none 0 0] 35 (0, 0))) := ⟨by (with_reducible repeat (first | refine bn_ ?_ _ | refine bd_ ?_ | refine ba_ ?_ _)); refine blk_far ?_ NB136_139.out _; (with_reducible repeat (first | refine bn_ ?_ _ | refine bd_ ?_ | refine ba_ ?_ _)); refine blk_far ?_ NB136_139.out _; (with_reducible repeat (first | refine bn_ ?_ _ | refine bd_ ?_ | refine ba_ ?_ _)); refine blk_far ?_ NB136_139.out _; (with_reducible repeat (first | refine bn_ ?_ _ | refine bd_ ?_ | refine ba_ ?_ _)); exact BK136.out⟩
               have n4_ : Aside0 ((((w28.setCell ⟨gb139, 0, none⟩ (.int .i64 ((rd_T35 l0 x30_2).f0))).setCell ⟨gb139, 1, none⟩ (.int .i64 ((rd_T35 l0 x30_2).f1))).setCell ⟨gb139, 2, none⟩ (.slice A138_2 ((rd_T35 l0 x30_2).f2).length c138_2)).heap[gb139]? = some (.cells #[.int .i64 ((rd_T35 l0 x30_2).f0), .int .i64 ((rd_T35 l0 x30_2).f1), .slice A138_2 ((rd_T35 l0 x30_2).f2).length c138_2] 35 (0, 0))) := ⟨by (with_reducible repeat (first | refine bn_ ?_ _ | refine bd_ ?_ | refine ba_ ?_ _)); refine blk_put (cs := #[.int .i64 ((rd_T35 l0 x30_2).f0), .int .i64 ((rd_T35 l0 x30_2).f1), .slice none 0 0]) ?_ 2 _ rfl; (with_reducible repeat (first | refine bn_ ?_ _ | refine bd_ ?_ | refine ba_ ?_ _)); refine blk_put (cs := #[.int .i64 ((rd_T35 l0 x30_2).f0), .int .i64 0, .slice none 0 0]) ?_ 1 _ rfl; (with_reducible repeat (first | refine bn_ ?_ _ | refine bd_ ?_ | refine ba_ ?_ _)); refine blk_put (cs := #[.int .i64 0, .int .i64 0, .slice none 0 0]) ?_ 0 _ rfl; (with_reducible repeat (first | refine bn_ ?_ _ | refine bd_ ?_ | refine ba_ ?_ _)); exact BK139.out⟩
               have n5_ : Aside0 (Below w.heap.size w (((w28.setCell ⟨gb139, 0, none⟩ (.int .i64 ((rd_T35 l0 x30_2).f0))).setCell ⟨gb139, 1, none⟩ (.int .i64 ((rd_T35 l0 x30_2).f1))).setCell ⟨gb139, 2, none⟩ (.slice A138_2 ((rd_T35 l0 x30_2).f2).length c138_2))) := ⟨pb2_ HB.out GE136.out GE139.out⟩
               (try clear HO_0)
               (try clear HO_28)
               (try clear HL138_2)
               (try clear BK136)
               (try clear BK139)
               (try clear HB)
               generalize (((w28.setCell ⟨gb139, 0, none⟩ (.int .i64 ((rd_T35 l0 x30_2).f0))).setCell ⟨gb139, 1, none⟩ (.int .i64 ((rd_T35 l0 x30_2).f1))).setCell ⟨gb139, 2, none⟩ (.slice A138_2 ((rd_T35 l0 x30_2).f2).length c138_2)) = w31 at n0_ n1_ n2_ n3_ n4_ n5_ ⊢
               have HO_0 := n0_
               have HO_28 := n1_
               have HL138_2 := n2_
               have BK136 := n3_
               have BK139 := n4_
               have HB := n5_
               clear n0_ n1_ n2_ n3_ n4_ n5_
               have n0_ := am_ (vd_ HO_0.out)
               have n1_ := am_ (vd_ HO_28.out)
               have n2_ := am_ (vd_ HL138_2.out)
               have n3_ := am_ (bd_ BK136.out)
               have n4_ := am_ (bd_ BK139.out)
               have n5_ := am_ (b1_ HB.out)
               clear HO_0
               clear HO_28
               clear HL138_2
               clear BK136
               clear BK139
               clear HB
               have HO_0 := n0_
               have HO_28 := n1_
               have HL138_2 := n2_
               have BK136 := n3_
               have BK139 := n4_
               have HB := n5_
               clear n0_ n1_ n2_ n3_ n4_ n5_
               have p141 : 0 ≤ (x7_2 : Int) := ot_ (by first | (with_reducible assumption) | assumption)
               have q141 : x7_2 < (l0.length : Int) := ot_ (by first | (with_reducible assumption) | assumption)
               obtain ⟨ad141, A141_2, c141_2, e141, hx141_0, hx141_1, hx141_2, hl141_2, hi141_2⟩ := at_T35 (Kd.V_reads' HO_0.out).2.2 x7_2 p141 q141
               obtain rfl : ad138 = ad141 := (by injection e141)
               obtain ⟨ce141, hce141, hMe141, hcc141⟩ := Kd.V_get HO_0.out z35 x7_2 p141 (by first | exact q141 | exact ot_ (by first | (with_reducible assumption) | assumption) | (have e_ := (Kd.V_reads' HO_0.out).1; omega))
               obtain ⟨ua141_2, uc141_2, rfl, ul141_2, ge141_2⟩ := k35_openF hMe141
               have hv141_2 := hcc141 2 _ rfl
               rw [add_field _ _ 2 (by omega)] at hv141_2
               replace hv141_2 := si_ (hv141_2.symm.trans hx141_2)
               injection hv141_2 with hva_ hvn_ hvc_
               rw [hva_] at ge141_2
               rw [hvc_] at ul141_2
               have HL141_2 := am_ (show Kd.V k87 87 _ w.heap.size _ _ ((rd_T35 l0 x7_2).f2) from Kd.V_mk ul141_2 ge141_2)
               clear hva_ hvn_ hvc_ ge141_2 ul141_2
               clear hcc141 hce141
               have HR141_2 := am_ hi141_2
               have HC141_2 := am_ hl141_2
               clear hi141_2 hl141_2
               replace p141 := eq_true p141
               replace q141 := eq_true q141
               refine start_ (n := 11) (S := fun w' => w'.cell? ⟨gb139, 0, none⟩ = some (.int .i64 ((rd_T35 l0 x30_2).f0)) ∧ w'.cell? ⟨gb139, 1, none⟩ = some (.int .i64 ((rd_T35 l0 x30_2).f1)) ∧ w'.cell? ⟨gb139, 2, none⟩ = some (.slice A138_2 ((rd_T35 l0 x30_2).f2).length c138_2) ∧ w'.cell? (ad138.add ((x7_2).toNat * 3)) = some (.int .i64 ((rd_T35 l0 x7_2).f0)) ∧ w'.cell? ⟨(ad138.add ((x7_2).toNat * 3)).block, (ad138.add ((x7_2).toNat * 3)).off + 1, none⟩ = some (.int .i64 ((rd_T35 l0 x7_2).f1)) ∧ w'.cell? ⟨(ad138.add ((x7_2).toNat * 3)).block, (ad138.add ((x7_2).toNat * 3)).off + 2, none⟩ = some (.slice A141_2 ((rd_T35 l0 x7_2).f2).length c141_2)) (ds := []) #[false, false, false, false, false, false, false, false, false, false, false] (by kernel_rfl) rfl rfl ⟨(bc_ BK139.out 0).trans rfl, (bc_ BK139.out 1).trans rfl, (bc_ BK139.out 2).trans rfl, hx141_0, hx141_1, hx141_2⟩ (fun hHeld => ?_); refine with_tabW replica_Elect.tab10 replica_Elect.bits10 (fun HT_ HW_ => ?_)
               generalize w31.drew = w32 at HO_0 HO_28 HL138_2 BK136 BK139 HB HL141_2 HR141_2 hx141_0 hx141_1 hx141_2 hHeld ⊢
               refine pure_ (i := 0) (N := some 46) (v := ?_) (a' := ?_) #[true, false, false, false, false, false, false, false, false, false, false] rfl rfl (any_of HT_.out (by kernel_rfl)) (fun _ _ _ h => h) (Or.inl ⟨by rfl, ?_⟩) ?_ ?_
               rotate_left
               ·
                intro w'
                go_simp
                with_reducible rfl
               rotate_left
               ·
                simp only [Act.put, lt1_, lt2_, lt3_, i64_w, i32_w]
                rfl
               refine pure_ (i := 1) (N := some 47) (v := ?_) (a' := ?_) #[true, true, false, false, false, false, false, false, false, false, false] rfl rfl (any_of HT_.out (by kernel_rfl)) (fun _ _ _ h => h) (Or.inl ⟨by rfl, ?_⟩) ?_ ?_
               rotate_left
               ·
                intro w'
                go_simp
                with_reducible rfl
               rotate_left
               ·
                simp only [Act.put, lt1_, lt2_, lt3_, i64_w, i32_w]
                rfl
               refine pure_ (i := 2) (N := some 48) (v := ?_) (a' := ?_) #[true, true, true, false, false, false, false, false, false, false, false] rfl rfl (any_of HT_.out (by kernel_rfl)) (fun _ _ _ h => h) (Or.inl ⟨by rfl, ?_⟩) ?_ ?_
               rotate_left
               ·
                intro w'
                go_simp
                with_reducible rfl
               rotate_left
               ·
                simp only [Act.put, lt1_, lt2_, lt3_, i64_w, i32_w]
                rfl
               refine pure_ (i := 4) (N := some 50) (v := ?_) (a' := ?_) #[true, true, true, false, true, false, false, false, false, false, false] rfl rfl (any_of HT_.out (by kernel_rfl)) (fun _ _ _ h => h) (Or.inl ⟨by rfl, ?_⟩) ?_ ?_
               rotate_left
               ·
                intro w'
                go_simp
                with_reducible rfl
               rotate_left
               ·
                simp only [Act.put, lt1_, lt2_, lt3_, i64_w, i32_w]
                rfl
               refine pure_ (i := 5) (N := some 51) (v := ?_) (a' := ?_) #[true, true, true, false, true, true, false, false, false, false, false] rfl rfl (any_of HT_.out (by kernel_rfl)) (fun _ _ _ h => h) (Or.inl ⟨by rfl, ?_⟩) ?_ ?_
               rotate_left
               ·
                intro w'
                go_simp
                with_reducible rfl
               rotate_left
               ·
                simp only [Act.put, lt1_, lt2_, lt3_, i64_w, i32_w]
                rfl
               refine pure_ (i := 6) (N := some 52) (v := ?_) (a' := ?_) #[true, true, true, false, true, true, true, false, false, false, false] rfl rfl (any_of HT_.out (by kernel_rfl)) (fun _ _ _ h => h) (Or.inl ⟨by rfl, ?_⟩) ?_ ?_
               rotate_left
               ·
                intro w'
                go_simp
                with_reducible rfl
               rotate_left
               ·
                simp only [Act.put, lt1_, lt2_, lt3_, i64_w, i32_w]
                rfl
               refine take_ (i := 3) (N := some 49) (v := ?_) (a' := ?_) #[true, true, true, true, true, true, true, false, false, false, false] rfl rfl (take_ofW HT_.out HW_.out (by kernel_rfl)) (fun _ _ _ h => h) (Or.inl ⟨by rfl, ?_⟩) hHeld ?_ ?_
               rotate_left
               ·
                rintro w' ⟨s0, s1, s2, s3, s4, s5⟩
                go_simp
                with_reducible rfl
               rotate_left
               ·
                simp only [Act.put, lt1_, lt2_, lt3_, i64_w, i32_w]
                rfl
               refine take_ (i := 7) (N := some 53) (v := ?_) (a' := ?_) #[true, true, true, true, true, true, true, true, false, false, false] rfl rfl (take_ofW HT_.out HW_.out (by kernel_rfl)) (fun _ _ _ h => h) (Or.inl ⟨by rfl, ?_⟩) hHeld ?_ ?_
               rotate_left
               ·
                rintro w' ⟨s0, s1, s2, s3, s4, s5⟩
                go_simp
                with_reducible rfl
               rotate_left
               ·
                simp only [Act.put, lt1_, lt2_, lt3_, i64_w, i32_w]
                rfl
               refine one_ (i := 8) (N := some 54) #[true, true, true, true, true, true, true, true, true, false, false] rfl rfl (one_of HT_.out (by kernel_rfl)) (by decide) (fun K hK => ?_)
               refine goes_ Try.func41 (by kernel_rfl) rfl #[.agg #[.int .i64 ((rd_T35 l0 x30_2).f0), .int .i64 ((rd_T35 l0 x30_2).f1), .slice A138_2 ((rd_T35 l0 x30_2).f2).length c138_2], .agg #[.int .i64 ((rd_T35 l0 x7_2).f0), .int .i64 ((rd_T35 l0 x7_2).f1), .slice A141_2 ((rd_T35 l0 x7_2).f2).length c141_2]] (by rfl) rfl rfl au_ ?_
               with_reducible refine (replica_better.calls k2 ((rd_T35 l0 x30_2).f0) ((rd_T35 l0 x30_2).f1) _ _ ((rd_T35 l0 x30_2).f2) ((rd_T35 l0 x7_2).f0) ((rd_T35 l0 x7_2).f1) _ _ ((rd_T35 l0 x7_2).f2) t142 _ ?side1 ?side2 ?side3 ?side4 A26.out).mono ?_
               (case side1 => repeat (first | exact ((Kd.V_reads' (pV_ HL138_2.out)).2.2) | (with_reducible refine Kd.C_alloc ?_ _) | (with_reducible refine Kd.C_drewN ?_ _) | (with_reducible refine Kd.C_drew ?_)))
               (case side2 => exact HC138_2.out)
               (case side3 => repeat (first | exact (by repeat (first | (with_reducible exact HR141_2.out) | (with_reducible refine Kd.C_alloc ?_ _) | (with_reducible refine Kd.C_drewN ?_ _) | (with_reducible refine Kd.C_drew ?_) | exact HR141_2.out)) | (with_reducible refine Kd.C_alloc ?_ _) | (with_reducible refine Kd.C_drewN ?_ _) | (with_reducible refine Kd.C_drew ?_)))
               (case side4 => exact HC141_2.out)
               rintro e w33 ⟨rfl, hb⟩
               have HS3_ := (hb.cell (bk_ _ _ (hHeld.2.2.2.1))).trans (hHeld.2.2.2.1)
               have HS4_ := (hb.cell (bk_ _ _ (hHeld.2.2.2.2.1))).trans (hHeld.2.2.2.2.1)
               have HS5_ := (hb.cell (bk_ _ _ (hHeld.2.2.2.2.2))).trans (hHeld.2.2.2.2.2)
               refine ⟨_, rfl, ?_⟩
               have n0_ := am_ (vb_ (pV_ HO_0.out) hb)
               have n1_ := am_ (vb_ (pV_ HO_28.out) hb)
               have n2_ := am_ (vb_ (pV_ HL138_2.out) hb)
               have n3_ := am_ (vb_ (pV_ HL141_2.out) hb)
               have n4_ := am_ (bw_ (g := gb136) (o := .cells #[.int .i64 0, .int .i64 0, .slice none 0 0] 35 (0, 0)) (pk_ BK136.out) hb)
               have n5_ := am_ (bw_ (g := gb139) (o := .cells #[.int .i64 ((rd_T35 l0 x30_2).f0), .int .i64 ((rd_T35 l0 x30_2).f1), .slice A138_2 ((rd_T35 l0 x30_2).f2).length c138_2] 35 (0, 0)) (pk_ BK139.out) hb)
               have n6_ := am_ (Kd.C_below (by repeat (first | (with_reducible exact HR141_2.out) | (with_reducible refine Kd.C_alloc ?_ _) | (with_reducible refine Kd.C_drewN ?_ _) | (with_reducible refine Kd.C_drew ?_) | exact HR141_2.out)) hb)
               have n7_ := am_ (sp_ (pb2_ HB.out GE136.out GE139.out) hb)
               clear HO_0
               clear HO_28
               clear HL138_2
               clear HL141_2
               clear BK136
               clear BK139
               clear HR141_2
               clear HB
               have HO_0 := n0_
               have HO_28 := n1_
               have HL138_2 := n2_
               have HL141_2 := n3_
               have BK136 := n4_
               have BK139 := n5_
               have HR141_2 := n6_
               have HB := n7_
               clear n0_ n1_ n2_ n3_ n4_ n5_ n6_ n7_
               (try clear hb)
               (try clear hb2)
               (try clear hk)
               (try clear hi)
               refine hK.out _ _ ⟨(bc_ BK139.out 0).trans rfl, (bc_ BK139.out 1).trans rfl, (bc_ BK139.out 2).trans rfl, HS3_, HS4_, HS5_⟩ (fun hHeld => ?_)
               clear hK K
               refine norm_ (a' := ?_) ?_ ?_
               rotate_left
               ·
                show Act.put _ (some 54) _ = _
                simp only [Act.put, lt1_, lt2_, lt3_, i64_w, i32_w]
                rfl
               refine pure_ (i := 9) (N := some 55) (v := ?_) (a' := ?_) #[true, true, true, true, true, true, true, true, true, true, false] rfl rfl (any_of HT_.out (by kernel_rfl)) (fun _ _ _ h => h) (Or.inl ⟨by rfl, ?_⟩) ?_ ?_
               rotate_left
               ·
                intro w'
                go_simp
                with_reducible rfl
               rotate_left
               ·
                simp only [Act.put, lt1_, lt2_, lt3_, i64_w, i32_w]
                rfl
               refine pure_ (i := 10) (N := some 56) (v := ?_) (a' := ?_) #[true, true, true, true, true, true, true, true, true, true, true] rfl rfl (any_of HT_.out (by kernel_rfl)) (fun _ _ _ h => h) (Or.inl ⟨by rfl, ?_⟩) ?_ ?_
               rotate_left
               ·
                intro w'
                go_simp
                with_reducible rfl
               rotate_left
               ·
                simp only [Act.put, lt1_, lt2_, lt3_, i64_w, i32_w]
                rfl
               refine done_ (done_of HT_.out (by kernel_rfl)) ?_
               try go_wp2
               go_roundg k2
               case measure => have := HJ2.out; have := HK2.out; omega
               case rel => exact ⟨(x30_2), (wrap64 (x8_2 + 1)), (ji17), (wrap64 (x30_2 + 1)), (by first | rfl | (simp; done) | (simp [*]; done)), (by first | rfl | (simp; done) | (simp [*]; done)), (by first | rfl | (simp; done) | (simp only [← hji17] <;> (first | rfl | simp)) | (simp [*]; done)), (by first | rfl | (simp; done) | (simp [*]; done)), H', ⟨by have := HJ2.out; have := HK2.out; omega⟩, ⟨by (with_reducible repeat (first | apply va_ | apply vn_ | apply vd_)); exact vm_ HO_0.out (fun _ hk => ⟨hk.1, hk.2.1⟩)⟩, ⟨by (with_reducible repeat (first | apply va_ | apply vn_ | apply vd_)); exact vm_ HO_28.out (fun _ hk => ⟨hk.1, hk.2.1⟩)⟩, ⟨by (with_reducible repeat (first | refine bn_ ?_ _ | refine bd_ ?_ | refine ba_ ?_ _)); exact BK136.out⟩, ⟨pb2_ HB.out GE136.out GE139.out⟩⟩
              ·
               rw [if_neg c27] at H
               have c27b0 : decide (0 < t142) = false := df_ c27
               clear c27
               have H' := am_ H
               clear H
               have p138 : 0 ≤ (x30_2 : Int) := ot_ (by first | (with_reducible assumption) | assumption)
               have q138 : x30_2 < (l0.length : Int) := ot_ (by first | (with_reducible assumption) | assumption)
               obtain ⟨ad138, A138_2, c138_2, e138, hx138_0, hx138_1, hx138_2, hl138_2, hi138_2⟩ := at_T35 (Kd.V_reads' HO_28.out).2.2 x30_2 p138 q138
               cases e138
               obtain ⟨ce138, hce138, hMe138, hcc138⟩ := Kd.V_get HO_28.out z35 x30_2 p138 (by first | exact q138 | exact ot_ (by first | (with_reducible assumption) | assumption) | (have e_ := (Kd.V_reads' HO_28.out).1; omega))
               obtain ⟨ua138_2, uc138_2, rfl, ul138_2, ge138_2⟩ := k35_openF hMe138
               have hv138_2 := hcc138 2 _ rfl
               rw [add_field _ _ 2 (by omega)] at hv138_2
               replace hv138_2 := si_ (hv138_2.symm.trans hx138_2)
               injection hv138_2 with hva_ hvn_ hvc_
               rw [hva_] at ge138_2
               rw [hvc_] at ul138_2
               have HL138_2 := am_ (show Kd.V k87 87 _ w.heap.size _ _ ((rd_T35 l0 x30_2).f2) from Kd.V_mk ul138_2 ge138_2)
               clear hva_ hvn_ hvc_ ge138_2 ul138_2
               clear hcc138 hce138
               have HR138_2 := am_ hi138_2
               have HC138_2 := am_ hl138_2
               clear hi138_2 hl138_2
               replace p138 := eq_true p138
               replace q138 := eq_true q138
               try go_wp2_with (first | ((with_reducible refine gate_dst (N := 11) rfl ?_); (try (refine gate_guard (by rfl) ?_; dsimp only)); refine box_event ?hg (N := 11) ?hd (cs := #[.int .i64 0, .int .i64 0, .slice none 0 0]) (t := 35) ?hr ?_; (case hd => rfl); (case hg => rfl); (case hr => first | (go_simp; done) | (go_simp; rfl)); intro gb139 hg w34 hbox hb; have n0_ := am_ (vb_ (Kd.V_elderB (pV_ HO_0.out) gb139 (le_ hg.symm)) hb); have n1_ := am_ (vb_ (Kd.V_elderB (pV_ HO_28.out) gb139 (le_ hg.symm)) hb); have n2_ := am_ (vb_ (Kd.V_elderB (pV_ HL138_2.out) gb139 (le_ hg.symm)) hb); have n3_ := am_ (bw_ (g := gb136) (o := .cells #[.int .i64 0, .int .i64 0, .slice none 0 0] 35 (0, 0)) (pk_ BK136.out) hb); have n4_ := am_ (Kd.C_below (by repeat (first | (with_reducible exact HR138_2.out) | (with_reducible refine Kd.C_alloc ?_ _) | (with_reducible refine Kd.C_drewN ?_ _) | (with_reducible refine Kd.C_drew ?_) | exact HR138_2.out)) hb); have n5_ := am_ (sp_ (pb1_ HB.out GE136.out) hb); have n6_ := am_ (hbox); have n7_ := am_ ((by rw [hg]; exact (bz_ (pb1_ HB.out GE136.out)) : w.heap.size ≤ gb139)); have n8_ := am_ ((by rw [hg]; exact (bz_ (pb1_ HB.out GE136.out)) : w.heap.size ≤ gb139)); have n9_ := am_ ((by rw [hg]; exact Nat.ne_of_lt (blk_lt (g := gb136) (o := .cells #[.int .i64 0, .int .i64 0, .slice none 0 0] 35 (0, 0)) (pk_ BK136.out)) : gb136 ≠ gb139)); have n10_ := am_ ((by rw [hg]; exact Nat.ne_of_gt (blk_lt (g := gb136) (o := .cells #[.int .i64 0, .int .i64 0, .slice none 0 0] 35 (0, 0)) (pk_ BK136.out)) : gb139 ≠ gb136)); clear HO_0; clear HO_28; clear HL138_2; clear BK136; clear HR138_2; clear HB; have HO_0 := n0_; have HO_28 := n1_; have HL138_2 := n2_; have BK136 := n3_; have HR138_2 := n4_; have HB := n5_; have BK139 := n6_; have GW139 := n7_; have GE139 := n8_; have NB136_139 := n9_; have NB139_136 := n10_; clear n0_ n1_ n2_ n3_ n4_ n5_ n6_ n7_ n8_ n9_ n10_; clear hb hbox hg; have hnb35 := NB139_136.out; have hnc35 := NB136_139.out; have hcz36_0 : w34.cell? ⟨gb139, 0, none⟩ = some (.int .i64 0) := (bc_ BK139.out 0).trans rfl; have hcz36_1 : w34.cell? ⟨gb139, 1, none⟩ = some (.int .i64 0) := (bc_ BK139.out 1).trans rfl; have hcz36_2 : w34.cell? ⟨gb139, 2, none⟩ = some (.slice none 0 0) := (bc_ BK139.out 2).trans rfl; have hfz36_0 := bf_ BK139.out 0; have hfz36_1 := bf_ BK139.out 1; have hfz36_2 := bf_ BK139.out 2; have p140 : 0 ≤ (x30_2 : Int) := ot_ (by first | (with_reducible assumption) | assumption); have q140 : x30_2 < (l1.length : Int) := ot_ (by first | (with_reducible assumption) | assumption); obtain ⟨ad140, e140, hx140_0⟩ := Kd.at_bool HR1.out x30_2 p140 q140; (try rw [← Nbq15.out] at hx140_0); cases e140; have hn140_0 : ad140.block ≠ gb139 := Nat.ne_of_lt (Nat.lt_of_lt_of_le (by have := bk_ _ _ hx140_0; first | rwa [add_block] at this | exact this) GW139.out); have hn140_1 : ad140.block ≠ gb139 := Nat.ne_of_lt (Nat.lt_of_lt_of_le (by have := bk_ _ _ hx140_0; first | rwa [add_block] at this | exact this) GW139.out); have hn140_2 : ad140.block ≠ gb139 := Nat.ne_of_lt (Nat.lt_of_lt_of_le (by have := bk_ _ _ hx140_0; first | rwa [add_block] at this | exact this) GW139.out); replace hx140_0 := (HB.out.cell (bk_ w _ hx140_0)).trans hx140_0; replace hx140_0 := (cell_far (p := ⟨gb139, 0, none⟩) (by first | (rw [add_block]; exact hn140_0) | (show (Addr.add _ _).block ≠ _; rw [add_block]; exact hn140_0) | exact hn140_0) (.int .i64 ((rd_T35 l0 x30_2).f0))).trans hx140_0; replace hx140_0 := (cell_far (p := ⟨gb139, 1, none⟩) (by first | (rw [add_block]; exact hn140_1) | (show (Addr.add _ _).block ≠ _; rw [add_block]; exact hn140_1) | exact hn140_1) (.int .i64 ((rd_T35 l0 x30_2).f1))).trans hx140_0; replace hx140_0 := (cell_far (p := ⟨gb139, 2, none⟩) (by first | (rw [add_block]; exact hn140_2) | (show (Addr.add _ _).block ≠ _; rw [add_block]; exact hn140_2) | exact hn140_2) (.slice A138_2 ((rd_T35 l0 x30_2).f2).length c138_2)).trans hx140_0; clear hn140_0; clear hn140_1; clear hn140_2; replace p140 := eq_true p140; replace q140 := eq_true q140))
               have n0_ : Aside0 (Kd.V k35 35 (((w34.setCell ⟨gb139, 0, none⟩ (.int .i64 ((rd_T35 l0 x30_2).f0))).setCell ⟨gb139, 1, none⟩ (.int .i64 ((rd_T35 l0 x30_2).f1))).setCell ⟨gb139, 2, none⟩ (.slice A138_2 ((rd_T35 l0 x30_2).f2).length c138_2)) w.heap.size (fun k_ => (P0_ k_ ∨ w.heap.size ≤ k_) ∧ k_ ≠ gb136 ∧ k_ ≠ gb139) (.slice (some ad138) l0.length c0) l0) := ⟨by (with_reducible repeat (first | apply va_ | apply vn_ | apply vd_)); exact vm_ (Kd.V_far (p := ⟨gb139, 2, none⟩) (Kd.V_far (p := ⟨gb139, 1, none⟩) (Kd.V_far (p := ⟨gb139, 0, none⟩) (vm_ HO_0.out (fun k_ hk => (⟨hk, hk.2⟩ : _ ∧ k_ ≠ gb139))) (fun _ hk => hk.2) (.int .i64 ((rd_T35 l0 x30_2).f0))) (fun _ hk => hk.2) (.int .i64 ((rd_T35 l0 x30_2).f1))) (fun _ hk => hk.2) (.slice A138_2 ((rd_T35 l0 x30_2).f2).length c138_2)) (fun _ hk => ⟨hk.1.1.1, ⟨hk.1.1.2, hk.1.2⟩⟩)⟩
               have n1_ : Aside0 (Kd.V k35 35 (((w34.setCell ⟨gb139, 0, none⟩ (.int .i64 ((rd_T35 l0 x30_2).f0))).setCell ⟨gb139, 1, none⟩ (.int .i64 ((rd_T35 l0 x30_2).f1))).setCell ⟨gb139, 2, none⟩ (.slice A138_2 ((rd_T35 l0 x30_2).f2).length c138_2)) w.heap.size (fun k_ => (P0_ k_ ∨ w.heap.size ≤ k_) ∧ k_ ≠ gb136 ∧ k_ ≠ gb139) (.slice (some ad138) l0.length c0) l0) := ⟨by (with_reducible repeat (first | apply va_ | apply vn_ | apply vd_)); exact vm_ (Kd.V_far (p := ⟨gb139, 2, none⟩) (Kd.V_far (p := ⟨gb139, 1, none⟩) (Kd.V_far (p := ⟨gb139, 0, none⟩) (vm_ HO_28.out (fun k_ hk => (⟨hk, hk.2⟩ : _ ∧ k_ ≠ gb139))) (fun _ hk => hk.2) (.int .i64 ((rd_T35 l0 x30_2).f0))) (fun _ hk => hk.2) (.int .i64 ((rd_T35 l0 x30_2).f1))) (fun _ hk => hk.2) (.slice A138_2 ((rd_T35 l0 x30_2).f2).length c138_2)) (fun _ hk => ⟨hk.1.1.1, ⟨hk.1.1.2, hk.1.2⟩⟩)⟩
               have n2_ : Aside0 (Kd.V k87 87 (((w34.setCell ⟨gb139, 0, none⟩ (.int .i64 ((rd_T35 l0 x30_2).f0))).setCell ⟨gb139, 1, none⟩ (.int .i64 ((rd_T35 l0 x30_2).f1))).setCell ⟨gb139, 2, none⟩ (.slice A138_2 ((rd_T35 l0 x30_2).f2).length c138_2)) w.heap.size (fun k_ => (P0_ k_ ∨ w.heap.size ≤ k_) ∧ k_ ≠ gb136 ∧ k_ ≠ gb139) (.slice A138_2 ((rd_T35 l0 x30_2).f2).length c138_2) ((rd_T35 l0 x30_2).f2)) := ⟨by (with_reducible repeat (first | apply va_ | apply vn_ | apply vd_)); exact vm_ (Kd.V_far (p := ⟨gb139, 2, none⟩) (Kd.V_far (p := ⟨gb139, 1, none⟩) (Kd.V_far (p := ⟨gb139, 0, none⟩) (vm_ HL138_2.out (fun k_ hk => (⟨hk, hk.2⟩ : _ ∧ k_ ≠ gb139))) (fun _ hk => hk.2) (.int .i64 ((rd_T35 l0 x30_2).f0))) (fun _ hk => hk.2) (.int .i64 ((rd_T35 l0 x30_2).f1))) (fun _ hk => hk.2) (.slice A138_2 ((rd_T35 l0 x30_2).f2).length c138_2)) (fun _ hk => ⟨hk.1.1.1, ⟨hk.1.1.2, hk.1.2⟩⟩)⟩
               have n3_ : Aside0 ((((w34.setCell ⟨gb139, 0, none⟩ (.int .i64 ((rd_T35 l0 x30_2).f0))).setCell ⟨gb139, 1, none⟩ (.int .i64 ((rd_T35 l0 x30_2).f1))).setCell ⟨gb139, 2, none⟩ (.slice A138_2 ((rd_T35 l0 x30_2).f2).length c138_2)).heap[gb136]? = some (.cells #[.int .i64 0, .int .i64 0, .slice none 0 0] 35 (0, 0))) := ⟨by (with_reducible repeat (first | refine bn_ ?_ _ | refine bd_ ?_ | refine ba_ ?_ _)); refine blk_far ?_ NB136_139.out _; (with_reducible repeat (first | refine bn_ ?_ _ | refine bd_ ?_ | refine ba_ ?_ _)); refine blk_far ?_ NB136_139.out _; (with_reducible repeat (first | refine bn_ ?_ _ | refine bd_ ?_ | refine ba_ ?_ _)); refine blk_far ?_ NB136_139.out _; (with_reducible repeat (first | refine bn_ ?_ _ | refine bd_ ?_ | refine ba_ ?_ _)); exact BK136.out⟩
               have n4_ : Aside0 ((((w34.setCell ⟨gb139, 0, none⟩ (.int .i64 ((rd_T35 l0 x30_2).f0))).setCell ⟨gb139, 1, none⟩ (.int .i64 ((rd_T35 l0 x30_2).f1))).setCell ⟨gb139, 2, none⟩ (.slice A138_2 ((rd_T35 l0 x30_2).f2).length c138_2)).heap[gb139]? = some (.cells #[.int .i64 ((rd_T35 l0 x30_2).f0), .int .i64 ((rd_T35 l0 x30_2).f1), .slice A138_2 ((rd_T35 l0 x30_2).f2).length c138_2] 35 (0, 0))) := ⟨by (with_reducible repeat (first | refine bn_ ?_ _ | refine bd_ ?_ | refine ba_ ?_ _)); refine blk_put (cs := #[.int .i64 ((rd_T35 l0 x30_2).f0), .int .i64 ((rd_T35 l0 x30_2).f1), .slice none 0 0]) ?_ 2 _ rfl; (with_reducible repeat (first | refine bn_ ?_ _ | refine bd_ ?_ | refine ba_ ?_ _)); refine blk_put (cs := #[.int .i64 ((rd_T35 l0 x30_2).f0), .int .i64 0, .slice none 0 0]) ?_ 1 _ rfl; (with_reducible repeat (first | refine bn_ ?_ _ | refine bd_ ?_ | refine ba_ ?_ _)); refine blk_put (cs := #[.int .i64 0, .int .i64 0, .slice none 0 0]) ?_ 0 _ rfl; (with_reducible repeat (first | refine bn_ ?_ _ | refine bd_ ?_ | refine ba_ ?_ _)); exact BK139.out⟩
               have n5_ : Aside0 (Below w.heap.size w (((w34.setCell ⟨gb139, 0, none⟩ (.int .i64 ((rd_T35 l0 x30_2).f0))).setCell ⟨gb139, 1, none⟩ (.int .i64 ((rd_T35 l0 x30_2).f1))).setCell ⟨gb139, 2, none⟩ (.slice A138_2 ((rd_T35 l0 x30_2).f2).length c138_2))) := ⟨pb2_ HB.out GE136.out GE139.out⟩
               (try clear HO_0)
               (try clear HO_28)
               (try clear HL138_2)
               (try clear BK136)
               (try clear BK139)
               (try clear HB)
               generalize (((w34.setCell ⟨gb139, 0, none⟩ (.int .i64 ((rd_T35 l0 x30_2).f0))).setCell ⟨gb139, 1, none⟩ (.int .i64 ((rd_T35 l0 x30_2).f1))).setCell ⟨gb139, 2, none⟩ (.slice A138_2 ((rd_T35 l0 x30_2).f2).length c138_2)) = w37 at n0_ n1_ n2_ n3_ n4_ n5_ ⊢
               have HO_0 := n0_
               have HO_28 := n1_
               have HL138_2 := n2_
               have BK136 := n3_
               have BK139 := n4_
               have HB := n5_
               clear n0_ n1_ n2_ n3_ n4_ n5_
               have n0_ := am_ (vd_ HO_0.out)
               have n1_ := am_ (vd_ HO_28.out)
               have n2_ := am_ (vd_ HL138_2.out)
               have n3_ := am_ (bd_ BK136.out)
               have n4_ := am_ (bd_ BK139.out)
               have n5_ := am_ (b1_ HB.out)
               clear HO_0
               clear HO_28
               clear HL138_2
               clear BK136
               clear BK139
               clear HB
               have HO_0 := n0_
               have HO_28 := n1_
               have HL138_2 := n2_
               have BK136 := n3_
               have BK139 := n4_
               have HB := n5_
               clear n0_ n1_ n2_ n3_ n4_ n5_
               have p141 : 0 ≤ (x7_2 : Int) := ot_ (by first | (with_reducible assumption) | assumption)
               have q141 : x7_2 < (l0.length : Int) := ot_ (by first | (with_reducible assumption) | assumption)
               obtain ⟨ad141, A141_2, c141_2, e141, hx141_0, hx141_1, hx141_2, hl141_2, hi141_2⟩ := at_T35 (Kd.V_reads' HO_0.out).2.2 x7_2 p141 q141
               obtain rfl : ad138 = ad141 := (by injection e141)
               obtain ⟨ce141, hce141, hMe141, hcc141⟩ := Kd.V_get HO_0.out z35 x7_2 p141 (by first | exact q141 | exact ot_ (by first | (with_reducible assumption) | assumption) | (have e_ := (Kd.V_reads' HO_0.out).1; omega))
               obtain ⟨ua141_2, uc141_2, rfl, ul141_2, ge141_2⟩ := k35_openF hMe141
               have hv141_2 := hcc141 2 _ rfl
               rw [add_field _ _ 2 (by omega)] at hv141_2
               replace hv141_2 := si_ (hv141_2.symm.trans hx141_2)
               injection hv141_2 with hva_ hvn_ hvc_
               rw [hva_] at ge141_2
               rw [hvc_] at ul141_2
               have HL141_2 := am_ (show Kd.V k87 87 _ w.heap.size _ _ ((rd_T35 l0 x7_2).f2) from Kd.V_mk ul141_2 ge141_2)
               clear hva_ hvn_ hvc_ ge141_2 ul141_2
               clear hcc141 hce141
               have HR141_2 := am_ hi141_2
               have HC141_2 := am_ hl141_2
               clear hi141_2 hl141_2
               replace p141 := eq_true p141
               replace q141 := eq_true q141
               refine start_ (n := 11) (S := fun w' => w'.cell? ⟨gb139, 0, none⟩ = some (.int .i64 ((rd_T35 l0 x30_2).f0)) ∧ w'.cell? ⟨gb139, 1, none⟩ = some (.int .i64 ((rd_T35 l0 x30_2).f1)) ∧ w'.cell? ⟨gb139, 2, none⟩ = some (.slice A138_2 ((rd_T35 l0 x30_2).f2).length c138_2) ∧ w'.cell? (ad138.add ((x7_2).toNat * 3)) = some (.int .i64 ((rd_T35 l0 x7_2).f0)) ∧ w'.cell? ⟨(ad138.add ((x7_2).toNat * 3)).block, (ad138.add ((x7_2).toNat * 3)).off + 1, none⟩ = some (.int .i64 ((rd_T35 l0 x7_2).f1)) ∧ w'.cell? ⟨(ad138.add ((x7_2).toNat * 3)).block, (ad138.add ((x7_2).toNat * 3)).off + 2, none⟩ = some (.slice A141_2 ((rd_T35 l0 x7_2).f2).length c141_2)) (ds := []) #[false, false, false, false, false, false, false, false, false, false, false] (by kernel_rfl) rfl rfl ⟨(bc_ BK139.out 0).trans rfl, (bc_ BK139.out 1).trans rfl, (bc_ BK139.out 2).trans rfl, hx141_0, hx141_1, hx141_2⟩ (fun hHeld => ?_); refine with_tabW replica_Elect.tab10 replica_Elect.bits10 (fun HT_ HW_ => ?_)
               generalize w37.drew = w38 at HO_0 HO_28 HL138_2 BK136 BK139 HB HL141_2 HR141_2 hx141_0 hx141_1 hx141_2 hHeld ⊢
               refine pure_ (i := 0) (N := some 46) (v := ?_) (a' := ?_) #[true, false, false, false, false, false, false, false, false, false, false] rfl rfl (any_of HT_.out (by kernel_rfl)) (fun _ _ _ h => h) (Or.inl ⟨by rfl, ?_⟩) ?_ ?_
               rotate_left
               ·
                intro w'
                go_simp
                with_reducible rfl
               rotate_left
               ·
                simp only [Act.put, lt1_, lt2_, lt3_, i64_w, i32_w]
                rfl
               refine pure_ (i := 1) (N := some 47) (v := ?_) (a' := ?_) #[true, true, false, false, false, false, false, false, false, false, false] rfl rfl (any_of HT_.out (by kernel_rfl)) (fun _ _ _ h => h) (Or.inl ⟨by rfl, ?_⟩) ?_ ?_
               rotate_left
               ·
                intro w'
                go_simp
                with_reducible rfl
               rotate_left
               ·
                simp only [Act.put, lt1_, lt2_, lt3_, i64_w, i32_w]
                rfl
               refine pure_ (i := 2) (N := some 48) (v := ?_) (a' := ?_) #[true, true, true, false, false, false, false, false, false, false, false] rfl rfl (any_of HT_.out (by kernel_rfl)) (fun _ _ _ h => h) (Or.inl ⟨by rfl, ?_⟩) ?_ ?_
               rotate_left
               ·
                intro w'
                go_simp
                with_reducible rfl
               rotate_left
               ·
                simp only [Act.put, lt1_, lt2_, lt3_, i64_w, i32_w]
                rfl
               refine pure_ (i := 4) (N := some 50) (v := ?_) (a' := ?_) #[true, true, true, false, true, false, false, false, false, false, false] rfl rfl (any_of HT_.out (by kernel_rfl)) (fun _ _ _ h => h) (Or.inl ⟨by rfl, ?_⟩) ?_ ?_
               rotate_left
               ·
                intro w'
                go_simp
                with_reducible rfl
               rotate_left
               ·
                simp only [Act.put, lt1_, lt2_, lt3_, i64_w, i32_w]
                rfl
               refine pure_ (i := 5) (N := some 51) (v := ?_) (a' := ?_) #[true, true, true, false, true, true, false, false, false, false, false] rfl rfl (any_of HT_.out (by kernel_rfl)) (fun _ _ _ h => h) (Or.inl ⟨by rfl, ?_⟩) ?_ ?_
               rotate_left
               ·
                intro w'
                go_simp
                with_reducible rfl
               rotate_left
               ·
                simp only [Act.put, lt1_, lt2_, lt3_, i64_w, i32_w]
                rfl
               refine pure_ (i := 6) (N := some 52) (v := ?_) (a' := ?_) #[true, true, true, false, true, true, true, false, false, false, false] rfl rfl (any_of HT_.out (by kernel_rfl)) (fun _ _ _ h => h) (Or.inl ⟨by rfl, ?_⟩) ?_ ?_
               rotate_left
               ·
                intro w'
                go_simp
                with_reducible rfl
               rotate_left
               ·
                simp only [Act.put, lt1_, lt2_, lt3_, i64_w, i32_w]
                rfl
               refine take_ (i := 3) (N := some 49) (v := ?_) (a' := ?_) #[true, true, true, true, true, true, true, false, false, false, false] rfl rfl (take_ofW HT_.out HW_.out (by kernel_rfl)) (fun _ _ _ h => h) (Or.inl ⟨by rfl, ?_⟩) hHeld ?_ ?_
               rotate_left
               ·
                rintro w' ⟨s0, s1, s2, s3, s4, s5⟩
                go_simp
                with_reducible rfl
               rotate_left
               ·
                simp only [Act.put, lt1_, lt2_, lt3_, i64_w, i32_w]
                rfl
               refine take_ (i := 7) (N := some 53) (v := ?_) (a' := ?_) #[true, true, true, true, true, true, true, true, false, false, false] rfl rfl (take_ofW HT_.out HW_.out (by kernel_rfl)) (fun _ _ _ h => h) (Or.inl ⟨by rfl, ?_⟩) hHeld ?_ ?_
               rotate_left
               ·
                rintro w' ⟨s0, s1, s2, s3, s4, s5⟩
                go_simp
                with_reducible rfl
               rotate_left
               ·
                simp only [Act.put, lt1_, lt2_, lt3_, i64_w, i32_w]
                rfl
               refine one_ (i := 8) (N := some 54) #[true, true, true, true, true, true, true, true, true, false, false] rfl rfl (one_of HT_.out (by kernel_rfl)) (by decide) (fun K hK => ?_)
               refine goes_ Try.func41 (by kernel_rfl) rfl #[.agg #[.int .i64 ((rd_T35 l0 x30_2).f0), .int .i64 ((rd_T35 l0 x30_2).f1), .slice A138_2 ((rd_T35 l0 x30_2).f2).length c138_2], .agg #[.int .i64 ((rd_T35 l0 x7_2).f0), .int .i64 ((rd_T35 l0 x7_2).f1), .slice A141_2 ((rd_T35 l0 x7_2).f2).length c141_2]] (by rfl) rfl rfl au_ ?_
               with_reducible refine (replica_better.calls k2 ((rd_T35 l0 x30_2).f0) ((rd_T35 l0 x30_2).f1) _ _ ((rd_T35 l0 x30_2).f2) ((rd_T35 l0 x7_2).f0) ((rd_T35 l0 x7_2).f1) _ _ ((rd_T35 l0 x7_2).f2) t142 _ ?side1 ?side2 ?side3 ?side4 A26.out).mono ?_
               (case side1 => repeat (first | exact ((Kd.V_reads' (pV_ HL138_2.out)).2.2) | (with_reducible refine Kd.C_alloc ?_ _) | (with_reducible refine Kd.C_drewN ?_ _) | (with_reducible refine Kd.C_drew ?_)))
               (case side2 => exact HC138_2.out)
               (case side3 => repeat (first | exact (by repeat (first | (with_reducible exact HR141_2.out) | (with_reducible refine Kd.C_alloc ?_ _) | (with_reducible refine Kd.C_drewN ?_ _) | (with_reducible refine Kd.C_drew ?_) | exact HR141_2.out)) | (with_reducible refine Kd.C_alloc ?_ _) | (with_reducible refine Kd.C_drewN ?_ _) | (with_reducible refine Kd.C_drew ?_)))
               (case side4 => exact HC141_2.out)
               rintro e w39 ⟨rfl, hb⟩
               have HS3_ := (hb.cell (bk_ _ _ (hHeld.2.2.2.1))).trans (hHeld.2.2.2.1)
               have HS4_ := (hb.cell (bk_ _ _ (hHeld.2.2.2.2.1))).trans (hHeld.2.2.2.2.1)
               have HS5_ := (hb.cell (bk_ _ _ (hHeld.2.2.2.2.2))).trans (hHeld.2.2.2.2.2)
               refine ⟨_, rfl, ?_⟩
               have n0_ := am_ (vb_ (pV_ HO_0.out) hb)
               have n1_ := am_ (vb_ (pV_ HO_28.out) hb)
               have n2_ := am_ (vb_ (pV_ HL138_2.out) hb)
               have n3_ := am_ (vb_ (pV_ HL141_2.out) hb)
               have n4_ := am_ (bw_ (g := gb136) (o := .cells #[.int .i64 0, .int .i64 0, .slice none 0 0] 35 (0, 0)) (pk_ BK136.out) hb)
               have n5_ := am_ (bw_ (g := gb139) (o := .cells #[.int .i64 ((rd_T35 l0 x30_2).f0), .int .i64 ((rd_T35 l0 x30_2).f1), .slice A138_2 ((rd_T35 l0 x30_2).f2).length c138_2] 35 (0, 0)) (pk_ BK139.out) hb)
               have n6_ := am_ (Kd.C_below (by repeat (first | (with_reducible exact HR141_2.out) | (with_reducible refine Kd.C_alloc ?_ _) | (with_reducible refine Kd.C_drewN ?_ _) | (with_reducible refine Kd.C_drew ?_) | exact HR141_2.out)) hb)
               have n7_ := am_ (sp_ (pb2_ HB.out GE136.out GE139.out) hb)
               clear HO_0
               clear HO_28
               clear HL138_2
               clear HL141_2
               clear BK136
               clear BK139
               clear HR141_2
               clear HB
               have HO_0 := n0_
               have HO_28 := n1_
               have HL138_2 := n2_
               have HL141_2 := n3_
               have BK136 := n4_
               have BK139 := n5_
               have HR141_2 := n6_
               have HB := n7_
               clear n0_ n1_ n2_ n3_ n4_ n5_ n6_ n7_
               (try clear hb)
               (try clear hb2)
               (try clear hk)
               (try clear hi)
               refine hK.out _ _ ⟨(bc_ BK139.out 0).trans rfl, (bc_ BK139.out 1).trans rfl, (bc_ BK139.out 2).trans rfl, HS3_, HS4_, HS5_⟩ (fun hHeld => ?_)
               clear hK K
               refine norm_ (a' := ?_) ?_ ?_
               rotate_left
               ·
                show Act.put _ (some 54) _ = _
                simp only [Act.put, lt1_, lt2_, lt3_, i64_w, i32_w]
                rfl
               refine pure_ (i := 9) (N := some 55) (v := ?_) (a' := ?_) #[true, true, true, true, true, true, true, true, true, true, false] rfl rfl (any_of HT_.out (by kernel_rfl)) (fun _ _ _ h => h) (Or.inl ⟨by rfl, ?_⟩) ?_ ?_
               rotate_left
               ·
                intro w'
                go_simp
                with_reducible rfl
               rotate_left
               ·
                simp only [Act.put, lt1_, lt2_, lt3_, i64_w, i32_w]
                rfl
               refine pure_ (i := 10) (N := some 56) (v := ?_) (a' := ?_) #[true, true, true, true, true, true, true, true, true, true, true] rfl rfl (any_of HT_.out (by kernel_rfl)) (fun _ _ _ h => h) (Or.inl ⟨by rfl, ?_⟩) ?_ ?_
               rotate_left
               ·
                intro w'
                go_simp
                with_reducible rfl
               rotate_left
               ·
                simp only [Act.put, lt1_, lt2_, lt3_, i64_w, i32_w]
                rfl
               refine done_ (done_of HT_.out (by kernel_rfl)) ?_
               try go_wp2
               go_roundg k2
               case measure => have := HJ2.out; have := HK2.out; omega
               case rel => exact ⟨(x7_2), (wrap64 (x8_2 + 1)), (ji17), (wrap64 (x30_2 + 1)), (by first | rfl | (simp; done) | (simp [*]; done)), (by first | rfl | (simp; done) | (simp [*]; done)), (by first | rfl | (simp; done) | (simp only [← hji17] <;> (first | rfl | simp)) | (simp [*]; done)), (by first | rfl | (simp; done) | (simp [*]; done)), H', ⟨by have := HJ2.out; have := HK2.out; omega⟩, ⟨by (with_reducible repeat (first | apply va_ | apply vn_ | apply vd_)); exact vm_ HO_0.out (fun _ hk => ⟨hk.1, hk.2.1⟩)⟩, ⟨by (with_reducible repeat (first | apply va_ | apply vn_ | apply vd_)); exact vm_ HO_28.out (fun _ hk => ⟨hk.1, hk.2.1⟩)⟩, ⟨by (with_reducible repeat (first | refine bn_ ?_ _ | refine bd_ ?_ | refine ba_ ?_ _)); exact BK136.out⟩, ⟨pb2_ HB.out GE136.out GE139.out⟩⟩
             ·
              rw [if_neg c25] at H
              exact absurd H (by simp)
            ·
             rw [if_neg c24] at H
             exact absurd H (by simp)
          ·
           replace c16 := Bool.eq_false_iff.mpr c16
           subst c16
           have H1 : (replica_Elect.l0 k2 l0 l1 x7_2 x8_2 x9_2 l0 (l0.length : Int) (wrap64 (x30_2 + 1))) = some (r1, r2, r3, r4, r5) := by rw [if_neg (show ¬ (false = true) by decide)] at H; exact H
           clear H
           have H := H1
           clear H1
           have H' := am_ H
           clear H
           have p138 : 0 ≤ (x30_2 : Int) := ot_ (by first | (with_reducible assumption) | assumption)
           have q138 : x30_2 < (l0.length : Int) := ot_ (by first | (with_reducible assumption) | assumption)
           obtain ⟨ad138, A138_2, c138_2, e138, hx138_0, hx138_1, hx138_2, hl138_2, hi138_2⟩ := at_T35 (Kd.V_reads' HO_28.out).2.2 x30_2 p138 q138
           cases e138
           obtain ⟨ce138, hce138, hMe138, hcc138⟩ := Kd.V_get HO_28.out z35 x30_2 p138 (by first | exact q138 | exact ot_ (by first | (with_reducible assumption) | assumption) | (have e_ := (Kd.V_reads' HO_28.out).1; omega))
           obtain ⟨ua138_2, uc138_2, rfl, ul138_2, ge138_2⟩ := k35_openF hMe138
           have hv138_2 := hcc138 2 _ rfl
           rw [add_field _ _ 2 (by omega)] at hv138_2
           replace hv138_2 := si_ (hv138_2.symm.trans hx138_2)
           injection hv138_2 with hva_ hvn_ hvc_
           rw [hva_] at ge138_2
           rw [hvc_] at ul138_2
           have HL138_2 := am_ (show Kd.V k87 87 _ w.heap.size _ _ ((rd_T35 l0 x30_2).f2) from Kd.V_mk ul138_2 ge138_2)
           clear hva_ hvn_ hvc_ ge138_2 ul138_2
           clear hcc138 hce138
           have HR138_2 := am_ hi138_2
           have HC138_2 := am_ hl138_2
           clear hi138_2 hl138_2
           replace p138 := eq_true p138
           replace q138 := eq_true q138
           go_wp2_with (first | ((with_reducible refine gate_dst (N := 11) rfl ?_); (try (refine gate_guard (by rfl) ?_; dsimp only)); refine box_event ?hg (N := 11) ?hd (cs := #[.int .i64 0, .int .i64 0, .slice none 0 0]) (t := 35) ?hr ?_; (case hd => rfl); (case hg => rfl); (case hr => first | (go_simp; done) | (go_simp; rfl)); intro gb139 hg w40 hbox hb; have n0_ := am_ (vb_ (Kd.V_elderB (pV_ HO_0.out) gb139 (le_ hg.symm)) hb); have n1_ := am_ (vb_ (Kd.V_elderB (pV_ HO_28.out) gb139 (le_ hg.symm)) hb); have n2_ := am_ (vb_ (Kd.V_elderB (pV_ HL138_2.out) gb139 (le_ hg.symm)) hb); have n3_ := am_ (bw_ (g := gb136) (o := .cells #[.int .i64 0, .int .i64 0, .slice none 0 0] 35 (0, 0)) (pk_ BK136.out) hb); have n4_ := am_ (Kd.C_below (by repeat (first | (with_reducible exact HR138_2.out) | (with_reducible refine Kd.C_alloc ?_ _) | (with_reducible refine Kd.C_drewN ?_ _) | (with_reducible refine Kd.C_drew ?_) | exact HR138_2.out)) hb); have n5_ := am_ (sp_ (pb1_ HB.out GE136.out) hb); have n6_ := am_ (hbox); have n7_ := am_ ((by rw [hg]; exact (bz_ (pb1_ HB.out GE136.out)) : w.heap.size ≤ gb139)); have n8_ := am_ ((by rw [hg]; exact (bz_ (pb1_ HB.out GE136.out)) : w.heap.size ≤ gb139)); have n9_ := am_ ((by rw [hg]; exact Nat.ne_of_lt (blk_lt (g := gb136) (o := .cells #[.int .i64 0, .int .i64 0, .slice none 0 0] 35 (0, 0)) (pk_ BK136.out)) : gb136 ≠ gb139)); have n10_ := am_ ((by rw [hg]; exact Nat.ne_of_gt (blk_lt (g := gb136) (o := .cells #[.int .i64 0, .int .i64 0, .slice none 0 0] 35 (0, 0)) (pk_ BK136.out)) : gb139 ≠ gb136)); clear HO_0; clear HO_28; clear HL138_2; clear BK136; clear HR138_2; clear HB; have HO_0 := n0_; have HO_28 := n1_; have HL138_2 := n2_; have BK136 := n3_; have HR138_2 := n4_; have HB := n5_; have BK139 := n6_; have GW139 := n7_; have GE139 := n8_; have NB136_139 := n9_; have NB139_136 := n10_; clear n0_ n1_ n2_ n3_ n4_ n5_ n6_ n7_ n8_ n9_ n10_; clear hb hbox hg; have hnb41 := NB139_136.out; have hnc41 := NB136_139.out; have hcz42_0 : w40.cell? ⟨gb139, 0, none⟩ = some (.int .i64 0) := (bc_ BK139.out 0).trans rfl; have hcz42_1 : w40.cell? ⟨gb139, 1, none⟩ = some (.int .i64 0) := (bc_ BK139.out 1).trans rfl; have hcz42_2 : w40.cell? ⟨gb139, 2, none⟩ = some (.slice none 0 0) := (bc_ BK139.out 2).trans rfl; have hfz42_0 := bf_ BK139.out 0; have hfz42_1 := bf_ BK139.out 1; have hfz42_2 := bf_ BK139.out 2; have p140 : 0 ≤ (x30_2 : Int) := ot_ (by first | (with_reducible assumption) | assumption); have q140 : x30_2 < (l1.length : Int) := ot_ (by first | (with_reducible assumption) | assumption); obtain ⟨ad140, e140, hx140_0⟩ := Kd.at_bool HR1.out x30_2 p140 q140; (try rw [← Nbq15.out] at hx140_0); cases e140; have hn140_0 : ad140.block ≠ gb139 := Nat.ne_of_lt (Nat.lt_of_lt_of_le (by have := bk_ _ _ hx140_0; first | rwa [add_block] at this | exact this) GW139.out); have hn140_1 : ad140.block ≠ gb139 := Nat.ne_of_lt (Nat.lt_of_lt_of_le (by have := bk_ _ _ hx140_0; first | rwa [add_block] at this | exact this) GW139.out); have hn140_2 : ad140.block ≠ gb139 := Nat.ne_of_lt (Nat.lt_of_lt_of_le (by have := bk_ _ _ hx140_0; first | rwa [add_block] at this | exact this) GW139.out); replace hx140_0 := (HB.out.cell (bk_ w _ hx140_0)).trans hx140_0; replace hx140_0 := (cell_far (p := ⟨gb139, 0, none⟩) (by first | (rw [add_block]; exact hn140_0) | (show (Addr.add _ _).block ≠ _; rw [add_block]; exact hn140_0) | exact hn140_0) (.int .i64 ((rd_T35 l0 x30_2).f0))).trans hx140_0; replace hx140_0 := (cell_far (p := ⟨gb139, 1, none⟩) (by first | (rw [add_block]; exact hn140_1) | (show (Addr.add _ _).block ≠ _; rw [add_block]; exact hn140_1) | exact hn140_1) (.int .i64 ((rd_T35 l0 x30_2).f1))).trans hx140_0; replace hx140_0 := (cell_far (p := ⟨gb139, 2, none⟩) (by first | (rw [add_block]; exact hn140_2) | (show (Addr.add _ _).block ≠ _; rw [add_block]; exact hn140_2) | exact hn140_2) (.slice A138_2 ((rd_T35 l0 x30_2).f2).length c138_2)).trans hx140_0; clear hn140_0; clear hn140_1; clear hn140_2; replace p140 := eq_true p140; replace q140 := eq_true q140))
           go_roundg k2
           case measure => have := HJ2.out; have := HK2.out; omega
           case rel => exact ⟨(x7_2), (x8_2), (x9_2), (wrap64 (x30_2 + 1)), (by first | rfl | (simp; done) | (simp [*]; done)), (by first | rfl | (simp; done) | (simp [*]; done)), (by first | rfl | (simp; done) | (simp [*]; done)), (by first | rfl | (simp; done) | (simp [*]; done)), H', ⟨by have := HJ2.out; have := HK2.out; omega⟩, ⟨by (with_reducible repeat (first | apply va_ | apply vn_ | apply vd_)); exact vm_ (Kd.V_far (p := ⟨gb139, 2, none⟩) (Kd.V_far (p := ⟨gb139, 1, none⟩) (Kd.V_far (p := ⟨gb139, 0, none⟩) (vm_ HO_0.out (fun k_ hk => (⟨hk, hk.2⟩ : _ ∧ k_ ≠ gb139))) (fun _ hk => hk.2) (.int .i64 ((rd_T35 l0 x30_2).f0))) (fun _ hk => hk.2) (.int .i64 ((rd_T35 l0 x30_2).f1))) (fun _ hk => hk.2) (.slice A138_2 ((rd_T35 l0 x30_2).f2).length c138_2)) (fun _ hk => ⟨hk.1.1.1, hk.1.1.2⟩)⟩, ⟨by (with_reducible repeat (first | apply va_ | apply vn_ | apply vd_)); exact vm_ (Kd.V_far (p := ⟨gb139, 2, none⟩) (Kd.V_far (p := ⟨gb139, 1, none⟩) (Kd.V_far (p := ⟨gb139, 0, none⟩) (vm_ HO_28.out (fun k_ hk => (⟨hk, hk.2⟩ : _ ∧ k_ ≠ gb139))) (fun _ hk => hk.2) (.int .i64 ((rd_T35 l0 x30_2).f0))) (fun _ hk => hk.2) (.int .i64 ((rd_T35 l0 x30_2).f1))) (fun _ hk => hk.2) (.slice A138_2 ((rd_T35 l0 x30_2).f2).length c138_2)) (fun _ hk => ⟨hk.1.1.1, hk.1.1.2⟩)⟩, ⟨by (with_reducible repeat (first | refine bn_ ?_ _ | refine bd_ ?_ | refine ba_ ?_ _)); refine blk_far ?_ NB136_139.out _; (with_reducible repeat (first | refine bn_ ?_ _ | refine bd_ ?_ | refine ba_ ?_ _)); refine blk_far ?_ NB136_139.out _; (with_reducible repeat (first | refine bn_ ?_ _ | refine bd_ ?_ | refine ba_ ?_ _)); refine blk_far ?_ NB136_139.out _; (with_reducible repeat (first | refine bn_ ?_ _ | refine bd_ ?_ | refine ba_ ?_ _)); exact BK136.out⟩, ⟨pb2_ HB.out GE136.out GE139.out⟩⟩
         ·
          rw [if_neg c14] at H
          exact absurd H (by simp)
        ·
         rw [if_neg c13] at H
         exact absurd H (by simp)
       ·
        rw [if_neg c12] at H
        exact absurd H (by simp)
      ·
       rw [if_neg c11] at H
       have c11b0 : decide (x30_2 < (l0.length : Int)) = false := df_ c11
       clear c11
       by_cases c43 : (wrap64 (2 * x8_2)) ≤ (l0.length : Int)
       ·
        rw [if_pos c43] at H
        have c43b0 : decide ((wrap64 (2 * x8_2)) ≤ (l0.length : Int)) = true := de_ c43
        clear c43
        simp only [Option.some.injEq, Prod.mk.injEq] at H
        obtain ⟨rfl, rfl, rfl, rfl, rfl⟩ := H
        have hcz44_0 : wr.cell? ⟨gb136, 0, none⟩ = some (.int .i64 0) := (bc_ BK136.out 0).trans rfl
        have hcz44_1 : wr.cell? ⟨gb136, 1, none⟩ = some (.int .i64 0) := (bc_ BK136.out 1).trans rfl
        have hcz44_2 : wr.cell? ⟨gb136, 2, none⟩ = some (.slice none 0 0) := (bc_ BK136.out 2).trans rfl
        have hfz44_0 := bf_ BK136.out 0
        have hfz44_1 := bf_ BK136.out 1
        have hfz44_2 := bf_ BK136.out 2
        go_wp2
        refine bodyPost_ret (results_list (rs := [.tmp 4, .cell 5 35, .tmp 6]) rfl (by simp) (.tmp (.cell gb136 35 #[.int .i64 0, .int .i64 0, .slice none 0 0] (0, 0) _ rfl (by (with_reducible repeat (first | refine bn_ ?_ _ | refine bd_ ?_ | refine ba_ ?_ _)); refine blk_put (cs := #[.int .i64 0, .int .i64 0, .slice none 0 0]) ?_ 2 _ rfl; (with_reducible repeat (first | refine bn_ ?_ _ | refine bd_ ?_ | refine ba_ ?_ _)); refine blk_put (cs := #[.int .i64 0, .int .i64 0, .slice none 0 0]) ?_ 1 _ rfl; (with_reducible repeat (first | refine bn_ ?_ _ | refine bd_ ?_ | refine ba_ ?_ _)); refine blk_put (cs := #[.int .i64 0, .int .i64 0, .slice none 0 0]) ?_ 0 _ rfl; (with_reducible repeat (first | refine bn_ ?_ _ | refine bd_ ?_ | refine ba_ ?_ _)); exact BK136.out) Try.underlying35 rfl (by kernel_rfl) (.tmp .nil)))) rfl ?_
        exact ⟨_, by first | rfl | (simp [errW_none, errW_some] <;> rfl) | (simp [*, errW_none, errW_some] <;> rfl), by first | exact Kd.S_nil _ _ _ _ _ | exact Kd.N_nil _ _ _ _ _ | exact Kd.V_nil _ _ _ _ _ | exact Kd.Q_nil _ _ _ _ _ | exact Kd.R_nil _ _ _ _ _, pb1_ HB.out GE136.out⟩
       ·
        rw [if_neg c43] at H
        have c43b0 : decide ((wrap64 (2 * x8_2)) ≤ (l0.length : Int)) = false := df_ c43
        clear c43
        by_cases c45 : x9_2 = 1125899906842624
        ·
         rw [if_pos c45] at H
         have c45b0 : (x9_2 == 1125899906842624) = true := beq_iff_eq.mpr c45
         have c45b1 : (x9_2 != 1125899906842624) = false := bne_eq_false_iff_eq.mpr c45
         clear c45
         simp only [Option.some.injEq, Prod.mk.injEq] at H
         obtain ⟨rfl, rfl, rfl, rfl, rfl⟩ := H
         have hcz46_0 : wr.cell? ⟨gb136, 0, none⟩ = some (.int .i64 0) := (bc_ BK136.out 0).trans rfl
         have hcz46_1 : wr.cell? ⟨gb136, 1, none⟩ = some (.int .i64 0) := (bc_ BK136.out 1).trans rfl
         have hcz46_2 : wr.cell? ⟨gb136, 2, none⟩ = some (.slice none 0 0) := (bc_ BK136.out 2).trans rfl
         have hfz46_0 := bf_ BK136.out 0
         have hfz46_1 := bf_ BK136.out 1
         have hfz46_2 := bf_ BK136.out 2
         go_wp2
         refine bodyPost_ret (results_list (rs := [.tmp 4, .cell 5 35, .tmp 6]) rfl (by simp) (.tmp (.cell gb136 35 #[.int .i64 0, .int .i64 0, .slice none 0 0] (0, 0) _ rfl (by (with_reducible repeat (first | refine bn_ ?_ _ | refine bd_ ?_ | refine ba_ ?_ _)); refine blk_put (cs := #[.int .i64 0, .int .i64 0, .slice none 0 0]) ?_ 2 _ rfl; (with_reducible repeat (first | refine bn_ ?_ _ | refine bd_ ?_ | refine ba_ ?_ _)); refine blk_put (cs := #[.int .i64 0, .int .i64 0, .slice none 0 0]) ?_ 1 _ rfl; (with_reducible repeat (first | refine bn_ ?_ _ | refine bd_ ?_ | refine ba_ ?_ _)); refine blk_put (cs := #[.int .i64 0, .int .i64 0, .slice none 0 0]) ?_ 0 _ rfl; (with_reducible repeat (first | refine bn_ ?_ _ | refine bd_ ?_ | refine ba_ ?_ _)); exact BK136.out) Try.underlying35 rfl (by kernel_rfl) (.tmp .nil)))) rfl ?_
         exact ⟨_, by first | rfl | (simp [errW_none, errW_some] <;> rfl) | (simp [*, errW_none, errW_some] <;> rfl), by first | exact Kd.S_nil _ _ _ _ _ | exact Kd.N_nil _ _ _ _ _ | exact Kd.V_nil _ _ _ _ _ | exact Kd.Q_nil _ _ _ _ _ | exact Kd.R_nil _ _ _ _ _, pb1_ HB.out GE136.out⟩
        ·
         rw [if_neg c45] at H
         have c45b0 : (x9_2 == 1125899906842624) = false := beq_eq_false_iff_ne.mpr c45
         have c45b1 : (x9_2 != 1125899906842624) = true := bne_iff_ne.mpr c45
         by_cases c47 : 0 ≤ x7_2
         ·
          rw [if_pos c47] at H
          have c47b0 : decide (0 ≤ x7_2) = true := de_ c47
          clear c47
          by_cases c48 : x7_2 < (l0.length : Int)
          ·
           rw [if_pos c48] at H
           have c48b0 : decide (x7_2 < (l0.length : Int)) = true := de_ c48
           clear c48
           replace H := Option.bind_eq_some_iff.mp H
           obtain ⟨t145, A490, H⟩ := H
           replace H : (some (x7_2, wrap64 (x9_2 + 1), (rd_T35 l0 x7_2).f1, t145, 0)) = some (r1, r2, r3, r4, r5) := H
           have A49 := am_ A490
           clear A490
           simp only [Option.some.injEq, Prod.mk.injEq] at H
           obtain ⟨rfl, rfl, rfl, rfl, rfl⟩ := H
           have p143 : 0 ≤ (x7_2 : Int) := ot_ (by first | (with_reducible assumption) | assumption)
           have q143 : x7_2 < (l0.length : Int) := ot_ (by first | (with_reducible assumption) | assumption)
           obtain ⟨ad143, A143_2, c143_2, e143, hx143_0, hx143_1, hx143_2, hl143_2, hi143_2⟩ := at_T35 (Kd.V_reads' HO_0.out).2.2 x7_2 p143 q143
           cases e143
           obtain ⟨ce143, hce143, hMe143, hcc143⟩ := Kd.V_get HO_0.out z35 x7_2 p143 (by first | exact q143 | exact ot_ (by first | (with_reducible assumption) | assumption) | (have e_ := (Kd.V_reads' HO_0.out).1; omega))
           obtain ⟨ua143_2, uc143_2, rfl, ul143_2, ge143_2⟩ := k35_openF hMe143
           have hv143_2 := hcc143 2 _ rfl
           rw [add_field _ _ 2 (by omega)] at hv143_2
           replace hv143_2 := si_ (hv143_2.symm.trans hx143_2)
           injection hv143_2 with hva_ hvn_ hvc_
           rw [hva_] at ge143_2
           rw [hvc_] at ul143_2
           have HL143_2 := am_ (show Kd.V k87 87 _ w.heap.size _ _ ((rd_T35 l0 x7_2).f2) from Kd.V_mk ul143_2 ge143_2)
           clear hva_ hvn_ hvc_ ge143_2 ul143_2
           clear hcc143 hce143
           have HR143_2 := am_ hi143_2
           have HC143_2 := am_ hl143_2
           clear hi143_2 hl143_2
           replace p143 := eq_true p143
           replace q143 := eq_true q143
           try go_wp2_with (first | ((with_reducible refine gate_dst (N := 12) rfl ?_); (try (refine gate_guard (by rfl) ?_; dsimp only)); refine box_event ?hg (N := 12) ?hd (cs := #[.int .i64 0, .int .i64 0, .slice none 0 0]) (t := 35) ?hr ?_; (case hd => rfl); (case hg => rfl); (case hr => first | (go_simp; done) | (go_simp; rfl)); intro gb144 hg w50 hbox hb; have n0_ := am_ (vb_ (Kd.V_elderB (pV_ HO_0.out) gb144 (le_ hg.symm)) hb); have n1_ := am_ (vb_ (Kd.V_elderB (pV_ HO_28.out) gb144 (le_ hg.symm)) hb); have n2_ := am_ (vb_ (Kd.V_elderB (pV_ HL143_2.out) gb144 (le_ hg.symm)) hb); have n3_ := am_ (bw_ (g := gb136) (o := .cells #[.int .i64 0, .int .i64 0, .slice none 0 0] 35 (0, 0)) (pk_ BK136.out) hb); have n4_ := am_ (Kd.C_below (by repeat (first | (with_reducible exact HR143_2.out) | (with_reducible refine Kd.C_alloc ?_ _) | (with_reducible refine Kd.C_drewN ?_ _) | (with_reducible refine Kd.C_drew ?_) | exact HR143_2.out)) hb); have n5_ := am_ (sp_ (pb1_ HB.out GE136.out) hb); have n6_ := am_ (hbox); have n7_ := am_ ((by rw [hg]; exact (bz_ (pb1_ HB.out GE136.out)) : w.heap.size ≤ gb144)); have n8_ := am_ ((by rw [hg]; exact (bz_ (pb1_ HB.out GE136.out)) : w.heap.size ≤ gb144)); have n9_ := am_ ((by rw [hg]; exact Nat.ne_of_lt (blk_lt (g := gb136) (o := .cells #[.int .i64 0, .int .i64 0, .slice none 0 0] 35 (0, 0)) (pk_ BK136.out)) : gb136 ≠ gb144)); have n10_ := am_ ((by rw [hg]; exact Nat.ne_of_gt (blk_lt (g := gb136) (o := .cells #[.int .i64 0, .int .i64 0, .slice none 0 0] 35 (0, 0)) (pk_ BK136.out)) : gb144 ≠ gb136)); clear HO_0; clear HO_28; clear HL143_2; clear BK136; clear HR143_2; clear HB; have HO_0 := n0_; have HO_28 := n1_; have HL143_2 := n2_; have BK136 := n3_; have HR143_2 := n4_; have HB := n5_; have BK144 := n6_; have GW144 := n7_; have GE144 := n8_; have NB136_144 := n9_; have NB144_136 := n10_; clear n0_ n1_ n2_ n3_ n4_ n5_ n6_ n7_ n8_ n9_ n10_; clear hb hbox hg; have hnb51 := NB144_136.out; have hnc51 := NB136_144.out; have hcz52_0 : w50.cell? ⟨gb144, 0, none⟩ = some (.int .i64 0) := (bc_ BK144.out 0).trans rfl; have hcz52_1 : w50.cell? ⟨gb144, 1, none⟩ = some (.int .i64 0) := (bc_ BK144.out 1).trans rfl; have hcz52_2 : w50.cell? ⟨gb144, 2, none⟩ = some (.slice none 0 0) := (bc_ BK144.out 2).trans rfl; have hfz52_0 := bf_ BK144.out 0; have hfz52_1 := bf_ BK144.out 1; have hfz52_2 := bf_ BK144.out 2))
           have n0_ : Aside0 (Kd.V k35 35 (((w50.setCell ⟨gb144, 0, none⟩ (.int .i64 ((rd_T35 l0 x7_2).f0))).setCell ⟨gb144, 1, none⟩ (.int .i64 ((rd_T35 l0 x7_2).f1))).setCell ⟨gb144, 2, none⟩ (.slice A143_2 ((rd_T35 l0 x7_2).f2).length c143_2)) w.heap.size (fun k_ => (P0_ k_ ∨ w.heap.size ≤ k_) ∧ k_ ≠ gb136 ∧ k_ ≠ gb144) (.slice (some ad143) l0.length c0) l0) := ⟨by (with_reducible repeat (first | apply va_ | apply vn_ | apply vd_)); exact vm_ (Kd.V_far (p := ⟨gb144, 2, none⟩) (Kd.V_far (p := ⟨gb144, 1, none⟩) (Kd.V_far (p := ⟨gb144, 0, none⟩) (vm_ HO_0.out (fun k_ hk => (⟨hk, hk.2⟩ : _ ∧ k_ ≠ gb144))) (fun _ hk => hk.2) (.int .i64 ((rd_T35 l0 x7_2).f0))) (fun _ hk => hk.2) (.int .i64 ((rd_T35 l0 x7_2).f1))) (fun _ hk => hk.2) (.slice A143_2 ((rd_T35 l0 x7_2).f2).length c143_2)) (fun _ hk => ⟨hk.1.1.1, ⟨hk.1.1.2, hk.1.2⟩⟩)⟩
           have n1_ : Aside0 (Kd.V k35 35 (((w50.setCell ⟨gb144, 0, none⟩ (.int .i64 ((rd_T35 l0 x7_2).f0))).setCell ⟨gb144, 1, none⟩ (.int .i64 ((rd_T35 l0 x7_2).f1))).setCell ⟨gb144, 2, none⟩ (.slice A143_2 ((rd_T35 l0 x7_2).f2).length c143_2)) w.heap.size (fun k_ => (P0_ k_ ∨ w.heap.size ≤ k_) ∧ k_ ≠ gb136 ∧ k_ ≠ gb144) (.slice (some ad143) l0.length c0) l0) := ⟨by (with_reducible repeat (first | apply va_ | apply vn_ | apply vd_)); exact vm_ (Kd.V_far (p := ⟨gb144, 2, none⟩) (Kd.V_far (p := ⟨gb144, 1, none⟩) (Kd.V_far (p := ⟨gb144, 0, none⟩) (vm_ HO_28.out (fun k_ hk => (⟨hk, hk.2⟩ : _ ∧ k_ ≠ gb144))) (fun _ hk => hk.2) (.int .i64 ((rd_T35 l0 x7_2).f0))) (fun _ hk => hk.2) (.int .i64 ((rd_T35 l0 x7_2).f1))) (fun _ hk => hk.2) (.slice A143_2 ((rd_T35 l0 x7_2).f2).length c143_2)) (fun _ hk => ⟨hk.1.1.1, ⟨hk.1.1.2, hk.1.2⟩⟩)⟩
           have n2_ : Aside0 (Kd.V k87 87 (((w50.setCell ⟨gb144, 0, none⟩ (.int .i64 ((rd_T35 l0 x7_2).f0))).setCell ⟨gb144, 1, none⟩ (.int .i64 ((rd_T35 l0 x7_2).f1))).setCell ⟨gb144, 2, none⟩ (.slice A143_2 ((rd_T35 l0 x7_2).f2).length c143_2)) w.heap.size (fun k_ => (P0_ k_ ∨ w.heap.size ≤ k_) ∧ k_ ≠ gb136 ∧ k_ ≠ gb144) (.slice A143_2 ((rd_T35 l0 x7_2).f2).length c143_2) ((rd_T35 l0 x7_2).f2)) := ⟨by (with_reducible repeat (first | apply va_ | apply vn_ | apply vd_)); exact vm_ (Kd.V_far (p := ⟨gb144, 2, none⟩) (Kd.V_far (p := ⟨gb144, 1, none⟩) (Kd.V_far (p := ⟨gb144, 0, none⟩) (vm_ HL143_2.out (fun k_ hk => (⟨hk, hk.2⟩ : _ ∧ k_ ≠ gb144))) (fun _ hk => hk.2) (.int .i64 ((rd_T35 l0 x7_2).f0))) (fun _ hk => hk.2) (.int .i64 ((rd_T35 l0 x7_2).f1))) (fun _ hk => hk.2) (.slice A143_2 ((rd_T35 l0 x7_2).f2).length c143_2)) (fun _ hk => ⟨hk.1.1.1, ⟨hk.1.1.2, hk.1.2⟩⟩)⟩
           have n3_ : Aside0 ((((w50.setCell ⟨gb144, 0, none⟩ (.int .i64 ((rd_T35 l0 x7_2).f0))).setCell ⟨gb144, 1, none⟩ (.int .i64 ((rd_T35 l0 x7_2).f1))).setCell ⟨gb144, 2, none⟩ (.slice A143_2 ((rd_T35 l0 x7_2).f2).length c143_2)).heap[gb136]? = some (.cells #[.int .i64 0, .int .i64 0, .slice none 0 0] 35 (0, 0))) := ⟨by (with_reducible repeat (first | refine bn_ ?_ _ | refine bd_ ?_ | refine ba_ ?_ _)); refine blk_far ?_ NB136_144.out _; (with_reducible repeat (first | refine bn_ ?_ _ | refine bd_ ?_ | refine ba_ ?_ _)); refine blk_far ?_ NB136_144.out _; (with_reducible repeat (first | refine bn_ ?_ _ | refine bd_ ?_ | refine ba_ ?_ _)); refine blk_far ?_ NB136_144.out _; (with_reducible repeat (first | refine bn_ ?_ _ | refine bd_ ?_ | refine ba_ ?_ _)); exact BK136.out⟩
           have n4_ : Aside0 ((((w50.setCell ⟨gb144, 0, none⟩ (.int .i64 ((rd_T35 l0 x7_2).f0))).setCell ⟨gb144, 1, none⟩ (.int .i64 ((rd_T35 l0 x7_2).f1))).setCell ⟨gb144, 2, none⟩ (.slice A143_2 ((rd_T35 l0 x7_2).f2).length c143_2)).heap[gb144]? = some (.cells #[.int .i64 ((rd_T35 l0 x7_2).f0), .int .i64 ((rd_T35 l0 x7_2).f1), .slice A143_2 ((rd_T35 l0 x7_2).f2).length c143_2] 35 (0, 0))) := ⟨by (with_reducible repeat (first | refine bn_ ?_ _ | refine bd_ ?_ | refine ba_ ?_ _)); refine blk_put (cs := #[.int .i64 ((rd_T35 l0 x7_2).f0), .int .i64 ((rd_T35 l0 x7_2).f1), .slice none 0 0]) ?_ 2 _ rfl; (with_reducible repeat (first | refine bn_ ?_ _ | refine bd_ ?_ | refine ba_ ?_ _)); refine blk_put (cs := #[.int .i64 ((rd_T35 l0 x7_2).f0), .int .i64 0, .slice none 0 0]) ?_ 1 _ rfl; (with_reducible repeat (first | refine bn_ ?_ _ | refine bd_ ?_ | refine ba_ ?_ _)); refine blk_put (cs := #[.int .i64 0, .int .i64 0, .slice none 0 0]) ?_ 0 _ rfl; (with_reducible repeat (first | refine bn_ ?_ _ | refine bd_ ?_ | refine ba_ ?_ _)); exact BK144.out⟩
           have n5_ : Aside0 (Below w.heap.size w (((w50.setCell ⟨gb144, 0, none⟩ (.int .i64 ((rd_T35 l0 x7_2).f0))).setCell ⟨gb144, 1, none⟩ (.int .i64 ((rd_T35 l0 x7_2).f1))).setCell ⟨gb144, 2, none⟩ (.slice A143_2 ((rd_T35 l0 x7_2).f2).length c143_2))) := ⟨pb2_ HB.out GE136.out GE144.out⟩
           (try clear HO_0)
           (try clear HO_28)
           (try clear HL143_2)
           (try clear BK136)
           (try clear BK144)
           (try clear HB)
           generalize (((w50.setCell ⟨gb144, 0, none⟩ (.int .i64 ((rd_T35 l0 x7_2).f0))).setCell ⟨gb144, 1, none⟩ (.int .i64 ((rd_T35 l0 x7_2).f1))).setCell ⟨gb144, 2, none⟩ (.slice A143_2 ((rd_T35 l0 x7_2).f2).length c143_2)) = w53 at n0_ n1_ n2_ n3_ n4_ n5_ ⊢
           have HO_0 := n0_
           have HO_28 := n1_
           have HL143_2 := n2_
           have BK136 := n3_
           have BK144 := n4_
           have HB := n5_
           clear n0_ n1_ n2_ n3_ n4_ n5_
           have n0_ := am_ (vd_ HO_0.out)
           have n1_ := am_ (vd_ HO_28.out)
           have n2_ := am_ (vd_ HL143_2.out)
           have n3_ := am_ (bd_ BK136.out)
           have n4_ := am_ (bd_ BK144.out)
           have n5_ := am_ (b1_ HB.out)
           clear HO_0
           clear HO_28
           clear HL143_2
           clear BK136
           clear BK144
           clear HB
           have HO_0 := n0_
           have HO_28 := n1_
           have HL143_2 := n2_
           have BK136 := n3_
           have BK144 := n4_
           have HB := n5_
           clear n0_ n1_ n2_ n3_ n4_ n5_
           refine start_ (n := 12) (S := fun w' => w'.cell? ⟨gb144, 0, none⟩ = some (.int .i64 ((rd_T35 l0 x7_2).f0)) ∧ w'.cell? ⟨gb144, 1, none⟩ = some (.int .i64 ((rd_T35 l0 x7_2).f1)) ∧ w'.cell? ⟨gb144, 2, none⟩ = some (.slice A143_2 ((rd_T35 l0 x7_2).f2).length c143_2)) (ds := []) #[false, false, false, false, false, false, false, false, false, false, false, false] (by kernel_rfl) rfl rfl ⟨(bc_ BK144.out 0).trans rfl, (bc_ BK144.out 1).trans rfl, (bc_ BK144.out 2).trans rfl⟩ (fun hHeld => ?_); refine with_tabW replica_Elect.tab18 replica_Elect.bits18 (fun HT_ HW_ => ?_)
           generalize w53.drew = w54 at HO_0 HO_28 HL143_2 BK136 BK144 HB hHeld ⊢
           refine pure_ (i := 0) (N := some 74) (v := ?_) (a' := ?_) #[true, false, false, false, false, false, false, false, false, false, false, false] rfl rfl (any_of HT_.out (by kernel_rfl)) (fun _ _ _ h => h) (Or.inl ⟨by rfl, ?_⟩) ?_ ?_
           rotate_left
           ·
            intro w'
            go_simp
            with_reducible rfl
           rotate_left
           ·
            simp only [Act.put, lt1_, lt2_, lt3_, i64_w, i32_w]
            rfl
           refine pure_ (i := 1) (N := some 75) (v := ?_) (a' := ?_) #[true, true, false, false, false, false, false, false, false, false, false, false] rfl rfl (any_of HT_.out (by kernel_rfl)) (fun _ _ _ h => h) (Or.inl ⟨by rfl, ?_⟩) ?_ ?_
           rotate_left
           ·
            intro w'
            go_simp
            with_reducible rfl
           rotate_left
           ·
            simp only [Act.put, lt1_, lt2_, lt3_, i64_w, i32_w]
            rfl
           refine pure_ (i := 2) (N := some 76) (v := ?_) (a' := ?_) #[true, true, true, false, false, false, false, false, false, false, false, false] rfl rfl (any_of HT_.out (by kernel_rfl)) (fun _ _ _ h => h) (Or.inl ⟨by rfl, ?_⟩) ?_ ?_
           rotate_left
           ·
            intro w'
            go_simp
            with_reducible rfl
           rotate_left
           ·
            simp only [Act.put, lt1_, lt2_, lt3_, i64_w, i32_w]
            rfl
           refine pure_ (i := 3) (N := some 77) (v := ?_) (a' := ?_) #[true, true, true, true, false, false, false, false, false, false, false, false] rfl rfl (any_of HT_.out (by kernel_rfl)) (fun _ _ _ h => h) (Or.inl ⟨by rfl, ?_⟩) ?_ ?_
           rotate_left
           ·
            intro w'
            go_simp
            with_reducible rfl
           rotate_left
           ·
            simp only [Act.put, lt1_, lt2_, lt3_, i64_w, i32_w]
            rfl
           refine pure_ (i := 5) (N := some 79) (v := ?_) (a' := ?_) #[true, true, true, true, false, true, false, false, false, false, false, false] rfl rfl (any_of HT_.out (by kernel_rfl)) (fun _ _ _ h => h) (Or.inl ⟨by rfl, ?_⟩) ?_ ?_
           rotate_left
           ·
            intro w'
            go_simp
            with_reducible rfl
           rotate_left
           ·
            simp only [Act.put, lt1_, lt2_, lt3_, i64_w, i32_w]
            rfl
           refine take_ (i := 4) (N := some 78) (v := ?_) (a' := ?_) #[true, true, true, true, true, true, false, false, false, false, false, false] rfl rfl (take_ofW HT_.out HW_.out (by kernel_rfl)) (fun _ _ _ h => h) (Or.inl ⟨by rfl, ?_⟩) hHeld ?_ ?_
           rotate_left
           ·
            rintro w' ⟨s0, s1, s2⟩
            go_simp
            with_reducible rfl
           rotate_left
           ·
            simp only [Act.put, lt1_, lt2_, lt3_, i64_w, i32_w]
            rfl
           refine take_ (i := 6) (N := some 80) (v := ?_) (a' := ?_) #[true, true, true, true, true, true, true, false, false, false, false, false] rfl rfl (take_ofW HT_.out HW_.out (by kernel_rfl)) (fun _ _ _ h => h) (Or.inl ⟨by rfl, ?_⟩) hHeld ?_ ?_
           rotate_left
           ·
            rintro w' ⟨s0, s1, s2⟩
            go_simp
            with_reducible rfl
           rotate_left
           ·
            simp only [Act.put, lt1_, lt2_, lt3_, i64_w, i32_w]
            rfl
           refine one_ (i := 7) (N := some 81) #[true, true, true, true, true, true, true, true, false, false, false, false] rfl rfl (one_of HT_.out (by kernel_rfl)) (by decide) (fun K hK => ?_)
           refine goes_ Try.func29 (by kernel_rfl) rfl #[.slice A143_2 ((rd_T35 l0 x7_2).f2).length c143_2] (by rfl) rfl rfl au_ ?_
           with_reducible refine (replica_copied.calls k2 (fun k_ => ((P0_ k_ ∨ w.heap.size ≤ k_) ∧ (k_ ≠ gb136 ∧ k_ ≠ gb144))) _ _ ((rd_T35 l0 x7_2).f2) t145 _ ?side1 A49.out).mono ?_
           (case side1 => exact HL143_2.out)
           rintro e w55 ⟨v146, rfl, ho0, hb⟩
           refine ⟨_, rfl, ?_⟩
           have n0_ := am_ (Kd.V_elder' (pV_ HO_0.out) (Kd.N_base ho0) hb)
           have n1_ := am_ (Kd.V_elder' (pV_ HO_28.out) (Kd.N_base ho0) hb)
           have n2_ := am_ (Kd.V_elder' (pV_ HL143_2.out) (Kd.N_base ho0) hb)
           have n3_ := am_ (nl_ (nm_ (ok' := fun k_ => (P0_ k_ ∨ w.heap.size ≤ k_) ∧ k_ ≠ gb136 ∧ k_ ≠ gb144) ho0 (fun k_ hk_ => ⟨Or.elim hk_ (fun hs_ => hs_.1) (fun hn_ => (.inr (Nat.le_trans (bz_ (pb2_ HB.out GE136.out GE144.out)) hn_))), Or.elim hk_ (fun hs_ => hs_.2.1) (fun hn_ => (fb_ (g := gb136) (o := .cells #[.int .i64 0, .int .i64 0, .slice none 0 0] 35 (0, 0)) (pk_ BK136.out) k_ hn_)), Or.elim hk_ (fun hs_ => hs_.2.2) (fun hn_ => (fb_ (g := gb144) (o := .cells #[.int .i64 ((rd_T35 l0 x7_2).f0), .int .i64 ((rd_T35 l0 x7_2).f1), .slice A143_2 ((rd_T35 l0 x7_2).f2).length c143_2] 35 (0, 0)) (pk_ BK144.out) k_ hn_))⟩)) (bz_ (pb2_ HB.out GE136.out GE144.out)))
           have n4_ := am_ (bw_ (g := gb136) (o := .cells #[.int .i64 0, .int .i64 0, .slice none 0 0] 35 (0, 0)) (pk_ BK136.out) hb)
           have n5_ := am_ (bw_ (g := gb144) (o := .cells #[.int .i64 ((rd_T35 l0 x7_2).f0), .int .i64 ((rd_T35 l0 x7_2).f1), .slice A143_2 ((rd_T35 l0 x7_2).f2).length c143_2] 35 (0, 0)) (pk_ BK144.out) hb)
           have n6_ := am_ (sp_ (pb2_ HB.out GE136.out GE144.out) hb)
           clear HO_0
           clear HO_28
           clear HL143_2
           clear BK136
           clear BK144
           clear HB
           have HO_0 := n0_
           have HO_28 := n1_
           have HL143_2 := n2_
           have HO147 := n3_
           have BK136 := n4_
           have BK144 := n5_
           have HB := n6_
           clear n0_ n1_ n2_ n3_ n4_ n5_ n6_
           (try clear hb)
           (try clear hb2)
           (try clear hk)
           (try clear hi)
           (try clear ho0)
           obtain ⟨Ao56, co56, eo56⟩ := Kd.N_slice HO147.out
           (first | subst eo56 | (injection eo56 with f1_ f2_ f3_; have f4_ := f1_.symm; have f5_ := f3_.symm; clear f1_ f2_ f3_; subst f4_; subst f5_))
           refine hK.out _ _ ⟨(bc_ BK144.out 0).trans rfl, (bc_ BK144.out 1).trans rfl, (bc_ BK144.out 2).trans rfl⟩ (fun hHeld => ?_)
           clear hK K
           refine norm_ (a' := ?_) ?_ ?_
           rotate_left
           ·
            show Act.put _ (some 81) _ = _
            simp only [Act.put, lt1_, lt2_, lt3_, i64_w, i32_w]
            rfl
           refine pure_ (i := 8) (N := some 82) (v := ?_) (a' := ?_) #[true, true, true, true, true, true, true, true, true, false, false, false] rfl rfl (any_of HT_.out (by kernel_rfl)) (fun _ _ _ h => h) (Or.inl ⟨by rfl, ?_⟩) ?_ ?_
           rotate_left
           ·
            intro w'
            go_simp
            with_reducible rfl
           rotate_left
           ·
            simp only [Act.put, lt1_, lt2_, lt3_, i64_w, i32_w]
            rfl
           refine pure_ (i := 9) (N := some 4) (v := ?_) (a' := ?_) #[true, true, true, true, true, true, true, true, true, true, false, false] rfl rfl (any_of HT_.out (by kernel_rfl)) (fun _ _ _ h => h) (Or.inl ⟨by rfl, ?_⟩) ?_ ?_
           rotate_left
           ·
            intro w'
            go_simp
            with_reducible rfl
           rotate_left
           ·
            simp only [Act.put, lt1_, lt2_, lt3_, i64_w, i32_w]
            rfl
           refine one_ (i := 10) (N := none) #[true, true, true, true, true, true, true, true, true, true, true, false] rfl rfl (one_of HT_.out (by kernel_rfl)) (by decide) (fun K hK => ?_)
           have hs57 : w55.cell? ⟨gb136, 0, none⟩ = some (.int .i64 0) := (bc_ BK136.out 0).trans rfl
           have hfs57 := bf_ BK136.out 0
           have hns57_1 := NB144_136.out
           have hms57_1 := NB136_144.out
           have hs58 : w55.cell? ⟨gb136, 1, none⟩ = some (.int .i64 0) := (bc_ BK136.out 1).trans rfl
           have hfs58 := bf_ BK136.out 1
           have hns58_1 := NB144_136.out
           have hms58_1 := NB136_144.out
           have hs59 : w55.cell? ⟨gb136, 2, none⟩ = some (.slice none 0 0) := (bc_ BK136.out 2).trans rfl
           have hfs59 := bf_ BK136.out 2
           have hns59_1 := NB144_136.out
           have hms59_1 := NB136_144.out
           refine skip_ (w1 := ?_) (by rfl) rfl ?_ ?_
           rotate_left
           ·
            go_simp
            rfl
           refine hK.out _ _ ⟨((cell_far (p := ⟨gb136, _, none⟩) NB144_136.out _).trans (((cell_far (p := ⟨gb136, _, none⟩) NB144_136.out _).trans (((cell_far (p := ⟨gb136, _, none⟩) NB144_136.out _).trans (hHeld.1)))))), ((cell_far (p := ⟨gb136, _, none⟩) NB144_136.out _).trans (((cell_far (p := ⟨gb136, _, none⟩) NB144_136.out _).trans (((cell_far (p := ⟨gb136, _, none⟩) NB144_136.out _).trans (hHeld.2.1)))))), ((cell_far (p := ⟨gb136, _, none⟩) NB144_136.out _).trans (((cell_far (p := ⟨gb136, _, none⟩) NB144_136.out _).trans (((cell_far (p := ⟨gb136, _, none⟩) NB144_136.out _).trans (hHeld.2.2))))))⟩ (fun hHeld => ?_)
           clear hK K
           refine pure_ (i := 11) (N := some 6) (v := ?_) (a' := ?_) #[true, true, true, true, true, true, true, true, true, true, true, true] rfl rfl (any_of HT_.out (by kernel_rfl)) (fun _ _ _ h => h) (Or.inl ⟨by rfl, ?_⟩) ?_ ?_
           rotate_left
           ·
            intro w'
            go_simp
            with_reducible rfl
           rotate_left
           ·
            simp only [Act.put, lt1_, lt2_, lt3_, i64_w, i32_w]
            rfl
           refine done_ (done_of HT_.out (by kernel_rfl)) ?_
           try go_wp2
           refine bodyPost_ret (results_list (rs := [.tmp 4, .cell 5 35, .tmp 6]) rfl (by simp) (.tmp (.cell gb136 35 #[.int .i64 (wrap64 (x9_2 + 1)), .int .i64 ((rd_T35 l0 x7_2).f1), .slice Ao56 t145.length co56] (0, 0) _ rfl (by (with_reducible repeat (first | refine bn_ ?_ _ | refine bd_ ?_ | refine ba_ ?_ _)); refine blk_put (cs := #[.int .i64 (wrap64 (x9_2 + 1)), .int .i64 ((rd_T35 l0 x7_2).f1), .slice none 0 0]) ?_ 2 _ rfl; (with_reducible repeat (first | refine bn_ ?_ _ | refine bd_ ?_ | refine ba_ ?_ _)); refine blk_put (cs := #[.int .i64 (wrap64 (x9_2 + 1)), .int .i64 0, .slice none 0 0]) ?_ 1 _ rfl; (with_reducible repeat (first | refine bn_ ?_ _ | refine bd_ ?_ | refine ba_ ?_ _)); refine blk_put (cs := #[.int .i64 0, .int .i64 0, .slice none 0 0]) ?_ 0 _ rfl; (with_reducible repeat (first | refine bn_ ?_ _ | refine bd_ ?_ | refine ba_ ?_ _)); exact BK136.out) Try.underlying35 rfl (by kernel_rfl) (.tmp .nil)))) rfl ?_
           exact ⟨_, by first | rfl | (simp [errW_none, errW_some] <;> rfl) | (simp [*, errW_none, errW_some] <;> rfl), by (with_reducible repeat (first | apply na_ | apply nn_ | apply nd_)); exact nm_ (nf_ (p := ⟨gb136, 2, none⟩) (nf_ (p := ⟨gb136, 1, none⟩) (nf_ (p := ⟨gb136, 0, none⟩) (nm_ HO147.out (fun k_ hk => (⟨hk, hk.2.1⟩ : _ ∧ k_ ≠ gb136))) (fun _ hk => hk.2) (.int .i64 (wrap64 (x9_2 + 1)))) (fun _ hk => hk.2) (.int .i64 ((rd_T35 l0 x7_2).f1))) (fun _ hk => hk.2) (.slice Ao56 t145.length co56)) (fun _ hk => hk.1.1), pb2_ HB.out GE136.out GE144.out⟩
          ·
           rw [if_neg c48] at H
           exact absurd H (by simp)
         ·
          rw [if_neg c47] at H
          exact absurd H (by simp)
end Go.Proofs.Ytbigcpjlahkggaa.Q
