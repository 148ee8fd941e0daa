import Derived.Test.YtbigcpjlahkggaaKReplicaCommits2
import Derived.Lib.SlBytesConst
set_option linter.unusedVariables false
set_option linter.unusedSimpArgs false
section
namespace Go.Proofs.Ytbigcpjlahkggaa.Q
open Go.RowKit Go.Proofs.YtbigcpjlahkggaaW.PrintWords Go.Proofs.YtbigcpjlahkggaaW.PrintLast Go.Proofs.YtbigcpjlahkggaaW.PrintMore
attribute [local go_sem] max2_int min2_int max_two min_two max_three min_three max_four min_four
attribute [local go_sem ↓] isSome_setCell
attribute [local go_sem] string_gtr
set_option linter.unusedVariables false
set_option linter.unusedSimpArgs false
mutual
def replica_Committed.l0 : Nat → List Int → List Int → Int → Int → Int → Int → List (S87) → Option (Int)
 | 0, _, _, _, _, _, _, _ => none
 | k + 1, x5, x16, x17, x18, x210000, x210001, x210002 => if x18 < x17 then (if 0 ≤ x18 then (if x18 < (x16.length : Int) then (if x18 < (x5.length : Int) then (replica_Committed.l0 k (x5.set (x18 : Int).toNat (mx 0 (mn (rd x16 x18) (x210002.length : Int)))) x16 x17 (wrap64 (x18 + 1)) x210000 x210001 x210002) else (none)) else (none)) else (none)) else ((slices_Sort_int_int.f x5).bind fun t216 => (if (x5.length : Int) > 0 then (if 0 ≤ (wrap64 (Int.tdiv (wrap64 ((x5.length : Int) - 1)) 2)) then (if (wrap64 (Int.tdiv (wrap64 ((x5.length : Int) - 1)) 2)) < (x5.length : Int) then (replica_Committed.j1 k (rd t216 (wrap64 (Int.tdiv (wrap64 ((x5.length : Int) - 1)) 2))) x210000 x210001 x210002) else (none)) else (none)) else (replica_Committed.j1 k 0 x210000 x210001 x210002)))
def replica_Committed.j1 : Nat → Int → Int → Int → List (S87) → Option (Int)
 | 0, _, _, _, _ => none
 | k + 1, x8, x210000, x210001, x210002 => replica_Committed.l1 k x8 x210000 x210001 x210002
def replica_Committed.l1 : Nat → Int → Int → Int → List (S87) → Option (Int)
 | 0, _, _, _, _ => none
 | k + 1, x8, x210000, x210001, x210002 => if x8 > 0 then (if 0 ≤ (wrap64 (x8 - 1)) then (if (wrap64 (x8 - 1)) < (x210002.length : Int) then (if ((rd_T87 x210002 (wrap64 (x8 - 1))).f0) = x210000 then (some (mx x8 x210001)) else (replica_Committed.l1 k (wrap64 (x8 - 1)) x210000 x210001 x210002)) else (none)) else (none)) else (some (mx x8 x210001))
end
def replica_Committed.f (k : Nat) (a0_0 : Int) (a0_1 : Int) (l0_2 : List (S87)) (l1 : List Int) : Option (Int) := (replica_Node_valid.f k a0_0 a0_1 l0_2).bind fun t210 => (if t210 = true then (if 0 ≤ (l1.length : Int) then (if ((l1.length : Int) : Int).toNat ≤ 35184372088832 then (replica_Committed.l0 k (List.replicate ((l1.length : Int) : Int).toNat 0) l1 (l1.length : Int) 0 a0_0 a0_1 l0_2) else (none)) else (none)) else (some 0))
set_option maxHeartbeats 8000000 in
set_option maxRecDepth 100000 in
theorem replica_Committed.calls (k : Nat) (a0_0 : Int) (a0_1 : Int) (A0_2 : Option Addr) (c0_2 : Nat) (l0_2 : List (S87)) (A1 : Option Addr) (c1 : Nat) (l1 : List Int) (r : Int) (w : World) (hr0_2 : Kd.C k87 w A0_2 l0_2.length l0_2) (hc0_2 : l0_2.length ≤ c0_2) (hr1 : Kd.C (Kd.int .i64) w A1 l1.length l1) (hc1 : l1.length ≤ c1) (h : replica_Committed.f k a0_0 a0_1 l0_2 l1 = some r) :
  Calls Try.prog 23 #[.agg #[.int .i64 a0_0, .int .i64 a0_1, .slice A0_2 l0_2.length c0_2], .slice A1 l1.length c1] w fun e w' => e = .returned (.int .i64 r) ∧ Below w.heap.size w w' := by
 have hu35 := Try.underlying35
 have HR0_2 := am_ hr0_2
 have HC0_2 := am_ hc0_2
 clear hr0_2 hc0_2
 have HR1 := am_ hr1
 have HC1 := am_ hc1
 clear hr1 hc1
 have HB := am_ (Below.refl w.heap.size w)
 have H : ((replica_Node_valid.f k a0_0 a0_1 l0_2).bind fun t210 => (if t210 = true then (if 0 ≤ (l1.length : Int) then (if ((l1.length : Int) : Int).toNat ≤ 35184372088832 then (replica_Committed.l0 k (List.replicate ((l1.length : Int) : Int).toNat 0) l1 (l1.length : Int) 0 a0_0 a0_1 l0_2) else (none)) else (none)) else (some 0))) = some r := h
 clear h
 replace H := Option.bind_eq_some_iff.mp H
 obtain ⟨t210, A30, H⟩ := H
 replace H : (if t210 = true then (if 0 ≤ (l1.length : Int) then (if ((l1.length : Int) : Int).toNat ≤ 35184372088832 then (replica_Committed.l0 k (List.replicate ((l1.length : Int) : Int).toNat 0) l1 (l1.length : Int) 0 a0_0 a0_1 l0_2) else (none)) else (none)) else (some 0)) = some r := H
 have A3 := am_ A30
 clear A30
 by_cases c4 : t210 = true
 ·
  subst c4
  have H1 : (if 0 ≤ (l1.length : Int) then (if ((l1.length : Int) : Int).toNat ≤ 35184372088832 then (replica_Committed.l0 k (List.replicate ((l1.length : Int) : Int).toNat 0) l1 (l1.length : Int) 0 a0_0 a0_1 l0_2) else (none)) else (none)) = some r := by rw [if_pos rfl] at H; exact H
  clear H
  have H := H1
  clear H1
  by_cases c5 : 0 ≤ (l1.length : Int)
  ·
   rw [if_pos c5] at H
   have c5b0 := eq_true c5
   have c5b1 : decide (0 ≤ (l1.length : Int)) = true := de_ c5
   clear c5
   by_cases c6 : ((l1.length : Int) : Int).toNat ≤ 35184372088832
   ·
    rw [if_pos c6] at H
    have c6b0 := eq_true c6
    have c6b1 : decide (((l1.length : Int) : Int).toNat ≤ 35184372088832) = true := de_ c6
    clear c6
    obtain ⟨y211, hy211⟩ : ∃ y_ : List Int, y_ = (List.replicate ((l1.length : Int) : Int).toNat 0) := ⟨_, rfl⟩
    replace H : (replica_Committed.l0 k y211 l1 (l1.length : Int) 0 a0_0 a0_1 l0_2) = some r := by first | (rw [hy211]; with_reducible exact H) | (have H2_ := (Option.bind_some _ _).symm.trans H; rw [hy211]; with_reducible exact H2_) | (have H2_ := (Option.bind_some _ _).symm.trans H; with_reducible exact H2_) | with_reducible exact H | (rw [hy211]; exact H) | exact H
    have Ny211 := am_ hy211
    clear hy211
    have H' := am_ H
    clear H
    go_enter Try.func23, Try.ntmps23
    go_wp2_with (first | ((with_reducible refine gate_dst (N := 2) rfl ?_); refine box_event ?hg (N := 2) ?hd (cs := #[.int .i64 a0_0, .int .i64 a0_1, .slice A0_2 l0_2.length c0_2]) (t := 35) ?hr ?_; (case hd => rfl); (case hg => rfl); (case hr => first | (go_simp; done) | (go_simp; rfl)); intro gb209 hg w7 hbox hb; have n0_ := am_ (sp_ (pb0_ HB.out) hb); have n1_ := am_ (hbox); have n2_ := am_ ((by rw [hg]; exact (bz_ (pb0_ HB.out)) : w.heap.size ≤ gb209)); have n3_ := am_ ((by rw [hg]; exact (bz_ (pb0_ HB.out)) : w.heap.size ≤ gb209)); clear HB; have HB := n0_; have BK209 := n1_; have GW209 := n2_; have GE209 := n3_; clear n0_ n1_ n2_ n3_; clear hb hbox hg; have hcz8_0 : w7.cell? ⟨gb209, 0, none⟩ = some (.int .i64 a0_0) := (bc_ BK209.out 0).trans rfl; have hcz8_1 : w7.cell? ⟨gb209, 1, none⟩ = some (.int .i64 a0_1) := (bc_ BK209.out 1).trans rfl; have hcz8_2 : w7.cell? ⟨gb209, 2, none⟩ = some (.slice A0_2 l0_2.length c0_2) := (bc_ BK209.out 2).trans rfl; have hfz8_0 := bf_ BK209.out 0; have hfz8_1 := bf_ BK209.out 1; have hfz8_2 := bf_ BK209.out 2) | (go_at_call 27; (with_reducible refine (replica_Node_valid.calls k a0_0 a0_1 _ _ l0_2 true _ ?side1 ?side2 A3.out).mono ?_); (case side1 => repeat (first | exact (Kd.C_below HR0_2.out HB.out) | (with_reducible refine Kd.C_alloc ?_ _) | (with_reducible refine Kd.C_drewN ?_ _) | (with_reducible refine Kd.C_drew ?_))); (case side2 => exact HC0_2.out); rintro e w9 ⟨rfl, hb⟩; have n0_ := am_ (bw_ (g := gb209) (o := .cells #[.int .i64 a0_0, .int .i64 a0_1, .slice A0_2 l0_2.length c0_2] 35 (0, 0)) (pk_ BK209.out) hb); have n1_ := am_ (sp_ (pb1_ HB.out GE209.out) hb); clear BK209; clear HB; have BK209 := n0_; have HB := n1_; clear n0_ n1_; (try clear hb); (try clear hb2); (try clear hk); (try clear hi)) | ((with_reducible refine gate_dst (N := 15) rfl ?_); refine Kd.R_make (Kd.int .i64) _ 3 rfl (N := 15) rfl 64 _ _ rfl (l1.length : Int) rfl rfl Try.underlying64 (.int .i64 0) 8 info3 rfl (by decide) (by omega) 0 (ok := fun _ => True) (okp := fun _ => True) rfl (fun _ hk => hk) trivial (ot_ (by first | (with_reducible assumption) | assumption)) (Nat.le_trans (Nat.mul_le_mul_right _ (ot_ (by first | (with_reducible assumption) | assumption) : (l1.length : Int).toNat ≤ 35184372088832)) (by omega)) (Below.refl _ _) (Nat.le_refl _) ?_; intro v212 w10 ho11 hb hg_ hnew_; clear hg_ hnew_; (first | rw [← Ny211.out] at ho11 | (simp only [Int.reduceToNat] at ho11; rw [← Ny211.out] at ho11)); have n0_ := am_ (Kd.R_lower ho11 (bz_ (pb1_ HB.out GE209.out))); have n1_ := am_ (bw_ (g := gb209) (o := .cells #[.int .i64 a0_0, .int .i64 a0_1, .slice A0_2 l0_2.length c0_2] 35 (0, 0)) (pk_ BK209.out) hb); have n2_ := am_ (sp_ (pb1_ HB.out GE209.out) hb); clear BK209; clear HB; have HO213 := n0_; have BK209 := n1_; have HB := n2_; clear n0_ n1_ n2_; clear hb ho11))
    repeat (go_quiet (first | ((with_reducible refine gate_dst (N := 2) rfl ?_); refine box_event ?hg (N := 2) ?hd (cs := #[.int .i64 a0_0, .int .i64 a0_1, .slice A0_2 l0_2.length c0_2]) (t := 35) ?hr ?_; (case hd => rfl); (case hg => rfl); (case hr => first | (go_simp; done) | (go_simp; rfl)); intro gb209 hg w7 hbox hb; have n0_ := am_ (sp_ (pb0_ HB.out) hb); have n1_ := am_ (hbox); have n2_ := am_ ((by rw [hg]; exact (bz_ (pb0_ HB.out)) : w.heap.size ≤ gb209)); have n3_ := am_ ((by rw [hg]; exact (bz_ (pb0_ HB.out)) : w.heap.size ≤ gb209)); clear HB; have HB := n0_; have BK209 := n1_; have GW209 := n2_; have GE209 := n3_; clear n0_ n1_ n2_ n3_; clear hb hbox hg; have hcz8_0 : w7.cell? ⟨gb209, 0, none⟩ = some (.int .i64 a0_0) := (bc_ BK209.out 0).trans rfl; have hcz8_1 : w7.cell? ⟨gb209, 1, none⟩ = some (.int .i64 a0_1) := (bc_ BK209.out 1).trans rfl; have hcz8_2 : w7.cell? ⟨gb209, 2, none⟩ = some (.slice A0_2 l0_2.length c0_2) := (bc_ BK209.out 2).trans rfl; have hfz8_0 := bf_ BK209.out 0; have hfz8_1 := bf_ BK209.out 1; have hfz8_2 := bf_ BK209.out 2) | (go_at_call 27; (with_reducible refine (replica_Node_valid.calls k a0_0 a0_1 _ _ l0_2 true _ ?side1 ?side2 A3.out).mono ?_); (case side1 => repeat (first | exact (Kd.C_below HR0_2.out HB.out) | (with_reducible refine Kd.C_alloc ?_ _) | (with_reducible refine Kd.C_drewN ?_ _) | (with_reducible refine Kd.C_drew ?_))); (case side2 => exact HC0_2.out); rintro e w9 ⟨rfl, hb⟩; have n0_ := am_ (bw_ (g := gb209) (o := .cells #[.int .i64 a0_0, .int .i64 a0_1, .slice A0_2 l0_2.length c0_2] 35 (0, 0)) (pk_ BK209.out) hb); have n1_ := am_ (sp_ (pb1_ HB.out GE209.out) hb); clear BK209; clear HB; have BK209 := n0_; have HB := n1_; clear n0_ n1_; (try clear hb); (try clear hb2); (try clear hk); (try clear hi)) | ((with_reducible refine gate_dst (N := 15) rfl ?_); refine Kd.R_make (Kd.int .i64) _ 3 rfl (N := 15) rfl 64 _ _ rfl (l1.length : Int) rfl rfl Try.underlying64 (.int .i64 0) 8 info3 rfl (by decide) (by omega) 0 (ok := fun _ => True) (okp := fun _ => True) rfl (fun _ hk => hk) trivial (ot_ (by first | (with_reducible assumption) | assumption)) (Nat.le_trans (Nat.mul_le_mul_right _ (ot_ (by first | (with_reducible assumption) | assumption) : (l1.length : Int).toNat ≤ 35184372088832)) (by omega)) (Below.refl _ _) (Nat.le_refl _) ?_; intro v212 w10 ho11 hb hg_ hnew_; clear hg_ hnew_; (first | rw [← Ny211.out] at ho11 | (simp only [Int.reduceToNat] at ho11; rw [← Ny211.out] at ho11)); have n0_ := am_ (Kd.R_lower ho11 (bz_ (pb1_ HB.out GE209.out))); have n1_ := am_ (bw_ (g := gb209) (o := .cells #[.int .i64 a0_0, .int .i64 a0_1, .slice A0_2 l0_2.length c0_2] 35 (0, 0)) (pk_ BK209.out) hb); have n2_ := am_ (sp_ (pb1_ HB.out GE209.out) hb); clear BK209; clear HB; have HO213 := n0_; have BK209 := n1_; have HB := n2_; clear n0_ n1_ n2_; clear hb ho11)); try go_wp2_with (first | ((with_reducible refine gate_dst (N := 2) rfl ?_); refine box_event ?hg (N := 2) ?hd (cs := #[.int .i64 a0_0, .int .i64 a0_1, .slice A0_2 l0_2.length c0_2]) (t := 35) ?hr ?_; (case hd => rfl); (case hg => rfl); (case hr => first | (go_simp; done) | (go_simp; rfl)); intro gb209 hg w7 hbox hb; have n0_ := am_ (sp_ (pb0_ HB.out) hb); have n1_ := am_ (hbox); have n2_ := am_ ((by rw [hg]; exact (bz_ (pb0_ HB.out)) : w.heap.size ≤ gb209)); have n3_ := am_ ((by rw [hg]; exact (bz_ (pb0_ HB.out)) : w.heap.size ≤ gb209)); clear HB; have HB := n0_; have BK209 := n1_; have GW209 := n2_; have GE209 := n3_; clear n0_ n1_ n2_ n3_; clear hb hbox hg; have hcz8_0 : w7.cell? ⟨gb209, 0, none⟩ = some (.int .i64 a0_0) := (bc_ BK209.out 0).trans rfl; have hcz8_1 : w7.cell? ⟨gb209, 1, none⟩ = some (.int .i64 a0_1) := (bc_ BK209.out 1).trans rfl; have hcz8_2 : w7.cell? ⟨gb209, 2, none⟩ = some (.slice A0_2 l0_2.length c0_2) := (bc_ BK209.out 2).trans rfl; have hfz8_0 := bf_ BK209.out 0; have hfz8_1 := bf_ BK209.out 1; have hfz8_2 := bf_ BK209.out 2) | (go_at_call 27; (with_reducible refine (replica_Node_valid.calls k a0_0 a0_1 _ _ l0_2 true _ ?side1 ?side2 A3.out).mono ?_); (case side1 => repeat (first | exact (Kd.C_below HR0_2.out HB.out) | (with_reducible refine Kd.C_alloc ?_ _) | (with_reducible refine Kd.C_drewN ?_ _) | (with_reducible refine Kd.C_drew ?_))); (case side2 => exact HC0_2.out); rintro e w9 ⟨rfl, hb⟩; have n0_ := am_ (bw_ (g := gb209) (o := .cells #[.int .i64 a0_0, .int .i64 a0_1, .slice A0_2 l0_2.length c0_2] 35 (0, 0)) (pk_ BK209.out) hb); have n1_ := am_ (sp_ (pb1_ HB.out GE209.out) hb); clear BK209; clear HB; have BK209 := n0_; have HB := n1_; clear n0_ n1_; (try clear hb); (try clear hb2); (try clear hk); (try clear hi)) | ((with_reducible refine gate_dst (N := 15) rfl ?_); refine Kd.R_make (Kd.int .i64) _ 3 rfl (N := 15) rfl 64 _ _ rfl (l1.length : Int) rfl rfl Try.underlying64 (.int .i64 0) 8 info3 rfl (by decide) (by omega) 0 (ok := fun _ => True) (okp := fun _ => True) rfl (fun _ hk => hk) trivial (ot_ (by first | (with_reducible assumption) | assumption)) (Nat.le_trans (Nat.mul_le_mul_right _ (ot_ (by first | (with_reducible assumption) | assumption) : (l1.length : Int).toNat ≤ 35184372088832)) (by omega)) (Below.refl _ _) (Nat.le_refl _) ?_; intro v212 w10 ho11 hb hg_ hnew_; clear hg_ hnew_; (first | rw [← Ny211.out] at ho11 | (simp only [Int.reduceToNat] at ho11; rw [← Ny211.out] at ho11)); have n0_ := am_ (Kd.R_lower ho11 (bz_ (pb1_ HB.out GE209.out))); have n1_ := am_ (bw_ (g := gb209) (o := .cells #[.int .i64 a0_0, .int .i64 a0_1, .slice A0_2 l0_2.length c0_2] 35 (0, 0)) (pk_ BK209.out) hb); have n2_ := am_ (sp_ (pb1_ HB.out GE209.out) hb); clear BK209; clear HB; have HO213 := n0_; have BK209 := n1_; have HB := n2_; clear n0_ n1_ n2_; clear hb ho11)))
    go_loopg [18] k (fun kq v18 w' => ∃ (x5_1 : List Int) (x18_1 : Int), v18 = .int .i64 x18_1 ∧ Aside0 (replica_Committed.l0 kq x5_1 l1 (l1.length : Int) x18_1 a0_0 a0_1 l0_2 = some r) ∧ Aside0 (kq ≤ k) ∧ Aside0 (Kd.R (Kd.int .i64) 3 w' w.heap.size (fun _ => True) v212 x5_1) ∧ Aside0 (w'.heap[gb209]? = some (.cells #[.int .i64 a0_0, .int .i64 a0_1, (.slice A0_2 l0_2.length c0_2)] 35 (0, 0))) ∧ Aside0 (Below w.heap.size w w'))
    case atStart => exact ⟨(y211), (0), (by first | rfl | (simp; done) | (simp [*]; done)), H', ⟨Nat.le_refl _⟩, ⟨by (with_reducible repeat (first | apply Kd.R_alloc | apply Kd.R_drewN | apply Kd.R_drew)); exact HO213.out⟩, ⟨by (with_reducible repeat (first | refine bn_ ?_ _ | refine bd_ ?_ | refine ba_ ?_ _)); exact BK209.out⟩, ⟨pb1_ HB.out GE209.out⟩⟩
    case round =>
     clear H'
     try clear c1
     try clear c2
     try clear p2
     try clear c4
     try clear c5
     try clear c5b0
     try clear c5b1
     try clear c6
     try clear c6b0
     try clear c6b1
     try clear hcz8_0
     try clear hcz8_1
     try clear hcz8_2
     try clear hfz8_0
     try clear hfz8_1
     try clear hfz8_2
     obtain ⟨x5_1, x18_1, rfl, HA, HK1, HO_5, BK209, HB⟩ := hrel
     cases gk with
     | zero => exact absurd HA.out (by simp [replica_Committed.l0])
     | succ k1 =>
      have H := HA.out
      clear HA
      simp only [replica_Committed.l0] at H
      by_cases c12 : x18_1 < (l1.length : Int)
      ·
       rw [if_pos c12] at H
       have c12b0 : decide (x18_1 < (l1.length : Int)) = true := de_ c12
       clear c12
       by_cases c13 : 0 ≤ x18_1
       ·
        rw [if_pos c13] at H
        have c13b0 : decide (0 ≤ x18_1) = true := de_ c13
        clear c13
        by_cases c14 : x18_1 < (l1.length : Int)
        ·
         rw [if_pos c14] at H
         have c14b0 : decide (x18_1 < (l1.length : Int)) = true := de_ c14
         clear c14
         obtain ⟨ji15, hji15⟩ : ∃ j_ : Int, (mn (rd l1 x18_1) (l0_2.length : Int)) = j_ := ⟨_, rfl⟩
         replace H : (if x18_1 < (x5_1.length : Int) then (replica_Committed.l0 k1 (x5_1.set (x18_1 : Int).toNat (mx 0 (ji15))) l1 (l1.length : Int) (wrap64 (x18_1 + 1)) a0_0 a0_1 l0_2) else (none)) = some r := by first | (rw [hji15] at H; exact H) | (simp only [hji15] at H ⊢; exact H)
         have hji15_ : (if (l0_2.length : Int) < (rd l1 x18_1) then (l0_2.length : Int) else (rd l1 x18_1)) = ji15 := hji15
         obtain ⟨ji16, hji16⟩ : ∃ j_ : Int, (mx 0 (ji15)) = j_ := ⟨_, rfl⟩
         replace H : (if x18_1 < (x5_1.length : Int) then (replica_Committed.l0 k1 (x5_1.set (x18_1 : Int).toNat (ji16)) l1 (l1.length : Int) (wrap64 (x18_1 + 1)) a0_0 a0_1 l0_2) else (none)) = some r := by first | (rw [hji16] at H; exact H) | (simp only [hji16] at H ⊢; exact H)
         have hji16_ : (if 0 < (ji15) then (ji15) else 0) = ji16 := hji16
         by_cases c17 : x18_1 < (x5_1.length : Int)
         ·
          rw [if_pos c17] at H
          have c17b0 : decide (x18_1 < (x5_1.length : Int)) = true := de_ c17
          clear c17
          obtain ⟨y215, hy215⟩ : ∃ y_ : List Int, y_ = (x5_1.set (x18_1 : Int).toNat (ji16)) := ⟨_, rfl⟩
          replace H : (replica_Committed.l0 k1 y215 l1 (l1.length : Int) (wrap64 (x18_1 + 1)) a0_0 a0_1 l0_2) = some r := by first | (rw [hy215]; with_reducible exact H) | (have H2_ := (Option.bind_some _ _).symm.trans H; rw [hy215]; with_reducible exact H2_) | (have H2_ := (Option.bind_some _ _).symm.trans H; with_reducible exact H2_) | with_reducible exact H | (rw [hy215]; exact H) | exact H
          have Ny215 := am_ hy215
          clear hy215
          have H' := am_ H
          clear H
          have p214 : 0 ≤ (x18_1 : Int) := ot_ (by first | (with_reducible assumption) | assumption)
          have q214 : x18_1 < (l1.length : Int) := ot_ (by first | (with_reducible assumption) | assumption)
          obtain ⟨ad214, e214, hx214_0⟩ := Kd.at_int HR1.out x18_1 p214 q214
          cases e214
          replace hx214_0 := (HB.out.cell (bk_ w _ hx214_0)).trans hx214_0
          replace p214 := eq_true p214
          replace q214 := eq_true q214
          have hcz19_0 : wr.cell? ⟨gb209, 0, none⟩ = some (.int .i64 a0_0) := (bc_ BK209.out 0).trans rfl
          have hcz19_1 : wr.cell? ⟨gb209, 1, none⟩ = some (.int .i64 a0_1) := (bc_ BK209.out 1).trans rfl
          have hcz19_2 : wr.cell? ⟨gb209, 2, none⟩ = some (.slice A0_2 l0_2.length c0_2) := (bc_ BK209.out 2).trans rfl
          have hfz19_0 := bf_ BK209.out 0
          have hfz19_1 := bf_ BK209.out 1
          have hfz19_2 := bf_ BK209.out 2
          have p18 : 0 ≤ (x18_1 : Int) := ot_ (by first | (with_reducible assumption) | assumption)
          have q18 : (x18_1 : Int) < ((x5_1.length : Int) : Int) := ot_ (by first | (with_reducible assumption) | assumption)
          obtain ⟨go18, co18, eo18, gb18, gl18, cl18, HG18⟩ := Kd.R_form HO_5.out (by omega)
          (first | cases eo18 | (injection eo18 with ea_ en_ ec_; (first | subst ea_ | (injection ea_ with ea_; subst ea_)); subst ec_; clear en_))
          have GB18 := am_ gb18
          have GG18 := am_ HG18
          clear gb18 gl18 HG18
          obtain ⟨hx18_0, hf18_0⟩ := Kd.R_celln 0 HO_5.out (x18_1 : Int) p18 q18
          replace p18 := eq_true p18
          replace q18 := eq_true q18
          have HP20 := Kd.R_putg HO_5.out (x18_1 : Int) ji16
          go_wp2_with (first | ((with_reducible refine gate_store (t := 3) (p := 31) rfl ?_); (try (rw [drewN_self wr]; generalize hq_ : World.drewN wr _ = wr; have n0_ := am_ (Kd.R_at hq_ HO_5.out); have n1_ := am_ (blk_at hq_ BK209.out); have n2_ := am_ (below_at hq_ HB.out); clear hq_ HO_5 BK209 HB; have HO_5 := n0_; have BK209 := n1_; have HB := n2_; clear n0_ n1_ n2_; (try (have HP20 := Kd.R_putg HO_5.out (x18_1 : Int) ji16)))); refine store_event (t := 3) (p := 31) (v := ?vo_w21) (w1 := (wr.setCell ⟨go18, (x18_1 : Int).toNat, none⟩ (.int .i64 ji16))) ?hg ?ho ?hn ?hr ?_; (case ho => rfl); (case hg => rfl); (case hn => rfl); (case hr => first | (go_simp; done) | (go_simp; rfl)); intro w21 hw; have hg : wr.grownBy w21 (some go18) := (by rw [hw]; exact HP20.2); have hp_ : Kd.R (Kd.int .i64) 3 w21 w.heap.size (fun _ => True) (.slice (some ⟨go18, 0, none⟩) x5_1.length co18) y215 := (by rw [hw, Ny215.out]; exact HP20.1); clear HP20; have n0_ := am_ (hp_); have n1_ := am_ (blk_grown (g := gb209) (o := .cells #[.int .i64 a0_0, .int .i64 a0_1, .slice A0_2 l0_2.length c0_2] 35 (0, 0)) (pk_ BK209.out) hg (Kd.R_ne HO_5.out BK209.out (by decide))); have n2_ := am_ ((by rw [hw]; exact bs_ (HB.out) GB18.out : Below w.heap.size w w21)); clear HO_5; clear BK209; clear HB; have HO_5 := n0_; have BK209 := n1_; have HB := n2_; clear n0_ n1_ n2_; clear hg hw hp_))
          repeat (go_quiet (first | ((with_reducible refine gate_store (t := 3) (p := 31) rfl ?_); (try (rw [drewN_self wr]; generalize hq_ : World.drewN wr _ = wr; have n0_ := am_ (Kd.R_at hq_ HO_5.out); have n1_ := am_ (blk_at hq_ BK209.out); have n2_ := am_ (below_at hq_ HB.out); clear hq_ HO_5 BK209 HB; have HO_5 := n0_; have BK209 := n1_; have HB := n2_; clear n0_ n1_ n2_; (try (have HP20 := Kd.R_putg HO_5.out (x18_1 : Int) ji16)))); refine store_event (t := 3) (p := 31) (v := ?vo_w21) (w1 := (wr.setCell ⟨go18, (x18_1 : Int).toNat, none⟩ (.int .i64 ji16))) ?hg ?ho ?hn ?hr ?_; (case ho => rfl); (case hg => rfl); (case hn => rfl); (case hr => first | (go_simp; done) | (go_simp; rfl)); intro w21 hw; have hg : wr.grownBy w21 (some go18) := (by rw [hw]; exact HP20.2); have hp_ : Kd.R (Kd.int .i64) 3 w21 w.heap.size (fun _ => True) (.slice (some ⟨go18, 0, none⟩) x5_1.length co18) y215 := (by rw [hw, Ny215.out]; exact HP20.1); clear HP20; have n0_ := am_ (hp_); have n1_ := am_ (blk_grown (g := gb209) (o := .cells #[.int .i64 a0_0, .int .i64 a0_1, .slice A0_2 l0_2.length c0_2] 35 (0, 0)) (pk_ BK209.out) hg (Kd.R_ne HO_5.out BK209.out (by decide))); have n2_ := am_ ((by rw [hw]; exact bs_ (HB.out) GB18.out : Below w.heap.size w w21)); clear HO_5; clear BK209; clear HB; have HO_5 := n0_; have BK209 := n1_; have HB := n2_; clear n0_ n1_ n2_; clear hg hw hp_)); try go_wp2_with (first | ((with_reducible refine gate_store (t := 3) (p := 31) rfl ?_); (try (rw [drewN_self wr]; generalize hq_ : World.drewN wr _ = wr; have n0_ := am_ (Kd.R_at hq_ HO_5.out); have n1_ := am_ (blk_at hq_ BK209.out); have n2_ := am_ (below_at hq_ HB.out); clear hq_ HO_5 BK209 HB; have HO_5 := n0_; have BK209 := n1_; have HB := n2_; clear n0_ n1_ n2_; (try (have HP20 := Kd.R_putg HO_5.out (x18_1 : Int) ji16)))); refine store_event (t := 3) (p := 31) (v := ?vo_w21) (w1 := (wr.setCell ⟨go18, (x18_1 : Int).toNat, none⟩ (.int .i64 ji16))) ?hg ?ho ?hn ?hr ?_; (case ho => rfl); (case hg => rfl); (case hn => rfl); (case hr => first | (go_simp; done) | (go_simp; rfl)); intro w21 hw; have hg : wr.grownBy w21 (some go18) := (by rw [hw]; exact HP20.2); have hp_ : Kd.R (Kd.int .i64) 3 w21 w.heap.size (fun _ => True) (.slice (some ⟨go18, 0, none⟩) x5_1.length co18) y215 := (by rw [hw, Ny215.out]; exact HP20.1); clear HP20; have n0_ := am_ (hp_); have n1_ := am_ (blk_grown (g := gb209) (o := .cells #[.int .i64 a0_0, .int .i64 a0_1, .slice A0_2 l0_2.length c0_2] 35 (0, 0)) (pk_ BK209.out) hg (Kd.R_ne HO_5.out BK209.out (by decide))); have n2_ := am_ ((by rw [hw]; exact bs_ (HB.out) GB18.out : Below w.heap.size w w21)); clear HO_5; clear BK209; clear HB; have HO_5 := n0_; have BK209 := n1_; have HB := n2_; clear n0_ n1_ n2_; clear hg hw hp_)))
          go_roundg k1
          case measure => have := HK1.out; omega
          case rel => exact ⟨(y215), (wrap64 (x18_1 + 1)), (by first | rfl | (simp; done) | (simp [*]; done)), H', ⟨by have := HK1.out; omega⟩, ⟨by (with_reducible repeat (first | apply Kd.R_alloc | apply Kd.R_drewN | apply Kd.R_drew)); exact HO_5.out⟩, ⟨by (with_reducible repeat (first | refine bn_ ?_ _ | refine bd_ ?_ | refine ba_ ?_ _)); exact BK209.out⟩, ⟨pb1_ HB.out GE209.out⟩⟩
         ·
          rw [if_neg c17] at H
          exact absurd H (by simp)
        ·
         rw [if_neg c14] at H
         exact absurd H (by simp)
       ·
        rw [if_neg c13] at H
        exact absurd H (by simp)
      ·
       rw [if_neg c12] at H
       have c12b0 : decide (x18_1 < (l1.length : Int)) = false := df_ c12
       clear c12
       replace H := Option.bind_eq_some_iff.mp H
       obtain ⟨t216, A220, H⟩ := H
       replace H : (if (x5_1.length : Int) > 0 then (if 0 ≤ (wrap64 (Int.tdiv (wrap64 ((x5_1.length : Int) - 1)) 2)) then (if (wrap64 (Int.tdiv (wrap64 ((x5_1.length : Int) - 1)) 2)) < (x5_1.length : Int) then (replica_Committed.j1 k1 (rd t216 (wrap64 (Int.tdiv (wrap64 ((x5_1.length : Int) - 1)) 2))) a0_0 a0_1 l0_2) else (none)) else (none)) else (replica_Committed.j1 k1 0 a0_0 a0_1 l0_2)) = some r := H
       have A22 := am_ A220
       clear A220
       have HC23 := am_ H
       clear H
       obtain ⟨Ao24, co24, eo24⟩ := Kd.R_slice HO_5.out
       subst eo24
       go_upto_if 38 with (first | (go_at_call 43; (with_reducible refine (slices_Sort_int_int.calls (fun k_ => some k_ = (.slice Ao24 x5_1.length co24 : Value).ownBlock) (.slice Ao24 x5_1.length co24) x5_1 t216 w _ ?side1 ?side2 A22.out).mono ?_); (case side1 => repeat (first | (with_reducible first | exact HB.out | apply bl_ | apply pb_ | apply b1_ | refine bs_ ?_ GE209.out) | exact HB.out)); (case side2 => exact Kd.R_tight rfl HO_5.out); rintro e w25 ⟨rfl, hy0, hb, hkp⟩; have n0_ := am_ (Kd.R_reok rfl hy0 (fun k_ e_ => HO_5.out.1 k_ e_)); have n1_ := am_ (blk_kept (pk_ BK209.out) hkp (fun hs_ => (fun e_ => (Kd.R_ne HO_5.out BK209.out (by decide)) e_) hs_)); have n2_ := am_ (hb); clear HO_5; clear BK209; clear HB; have HO_5 := n0_; have BK209 := n1_; have HB := n2_; clear n0_ n1_ n2_; (try clear hb); (try clear hkp); (try clear hy0)))
       repeat (go_quiet (first | (go_at_call 43; (with_reducible refine (slices_Sort_int_int.calls (fun k_ => some k_ = (.slice Ao24 x5_1.length co24 : Value).ownBlock) (.slice Ao24 x5_1.length co24) x5_1 t216 w _ ?side1 ?side2 A22.out).mono ?_); (case side1 => repeat (first | (with_reducible first | exact HB.out | apply bl_ | apply pb_ | apply b1_ | refine bs_ ?_ GE209.out) | exact HB.out)); (case side2 => exact Kd.R_tight rfl HO_5.out); rintro e w25 ⟨rfl, hy0, hb, hkp⟩; have n0_ := am_ (Kd.R_reok rfl hy0 (fun k_ e_ => HO_5.out.1 k_ e_)); have n1_ := am_ (blk_kept (pk_ BK209.out) hkp (fun hs_ => (fun e_ => (Kd.R_ne HO_5.out BK209.out (by decide)) e_) hs_)); have n2_ := am_ (hb); clear HO_5; clear BK209; clear HB; have HO_5 := n0_; have BK209 := n1_; have HB := n2_; clear n0_ n1_ n2_; (try clear hb); (try clear hkp); (try clear hy0))); go_upto_if 38 with (first | (go_at_call 43; (with_reducible refine (slices_Sort_int_int.calls (fun k_ => some k_ = (.slice Ao24 x5_1.length co24 : Value).ownBlock) (.slice Ao24 x5_1.length co24) x5_1 t216 w _ ?side1 ?side2 A22.out).mono ?_); (case side1 => repeat (first | (with_reducible first | exact HB.out | apply bl_ | apply pb_ | apply b1_ | refine bs_ ?_ GE209.out) | exact HB.out)); (case side2 => exact Kd.R_tight rfl HO_5.out); rintro e w25 ⟨rfl, hy0, hb, hkp⟩; have n0_ := am_ (Kd.R_reok rfl hy0 (fun k_ e_ => HO_5.out.1 k_ e_)); have n1_ := am_ (blk_kept (pk_ BK209.out) hkp (fun hs_ => (fun e_ => (Kd.R_ne HO_5.out BK209.out (by decide)) e_) hs_)); have n2_ := am_ (hb); clear HO_5; clear BK209; clear HB; have HO_5 := n0_; have BK209 := n1_; have HB := n2_; clear n0_ n1_ n2_; (try clear hb); (try clear hkp); (try clear hy0))))
       (try simp only [Act.put, lt1_, lt2_, lt3_])
       go_cut [8] (fun v8 wc => ∃ (kq : Nat) (x8_22 : Int), v8 = .int .i64 x8_22 ∧ Aside0 (replica_Committed.j1 kq x8_22 a0_0 a0_1 l0_2 = some r) ∧ Aside0 (kq ≤ k1) ∧ Aside0 (wc.heap[gb209]? = some (.cells #[.int .i64 a0_0, .int .i64 a0_1, (.slice A0_2 l0_2.length c0_2)] 35 (0, 0))) ∧ Aside0 (Below w.heap.size w wc))
       case first =>
        have H := HC23.out
        clear HC23
        by_cases c26 : (x5_1.length : Int) > 0
        ·
         rw [if_pos c26] at H
         have c26b0 : decide (0 < (x5_1.length : Int)) = true := de_ c26
         have c26b1 : decide (0 < x5_1.length) = true := de_ (by omega)
         clear c26
         (first | rw [c26b0] | (simp only [i64_w, i32_w]; rw [c26b0]) | rw [c26b2] | rw [c26b1] | skip)
         obtain ⟨ji27, hji27⟩ : ∃ j_ : Int, (wrap64 (Int.tdiv (wrap64 ((x5_1.length : Int) - 1)) 2)) = j_ := ⟨_, rfl⟩
         replace H : (if 0 ≤ (ji27) then (if (ji27) < (x5_1.length : Int) then (replica_Committed.j1 k1 (rd t216 (ji27)) a0_0 a0_1 l0_2) else (none)) else (none)) = some r := by first | (rw [hji27] at H; exact H) | (simp only [hji27] at H ⊢; exact H)
         have hji27w : (IntKind.i64.wrap (Int.tdiv (wrap64 ((x5_1.length : Int) - 1)) 2)) = ji27 := (i64_w _).trans hji27
         by_cases c28 : 0 ≤ (ji27)
         ·
          rw [if_pos c28] at H
          have c28b0 : decide (0 ≤ (ji27)) = true := de_ c28
          clear c28
          by_cases c29 : (ji27) < (x5_1.length : Int)
          ·
           rw [if_pos c29] at H
           have c29b0 : decide ((ji27) < (x5_1.length : Int)) = true := de_ c29
           clear c29
           have H' := am_ H
           clear H
           have p217 : 0 ≤ ((ji27) : Int) := ot_ (by first | (with_reducible assumption) | assumption)
           have q217 : (ji27) < (t216.length : Int) := (by have h_ : ((ji27) : Int) < ((x5_1.length : Int) : Int) := ot_ (by first | (with_reducible assumption) | assumption); have e_ := (Kd.R_reads' HO_5.out).1; omega)
           have ql217 : (((ji27) : Int) < ((x5_1.length : Int) : Int)) = True := eq_true (ot_ (by first | (with_reducible assumption) | assumption))
           obtain ⟨ad217, e217, hx217_0⟩ := Kd.at_int (Kd.R_reads' HO_5.out).2.2 (ji27) p217 q217
           cases e217
           replace p217 := eq_true p217
           replace q217 := eq_true q217
           go_wp2
           repeat (go_quiet (fail); try go_wp2)
           go_meet
           case rel => exact ⟨_, (rd t216 (ji27)), (by first | rfl | (simp; done) | (simp only [← hji27] <;> (first | rfl | simp)) | (simp [*]; done)), H', ⟨by have := HK1.out; first | omega | exact Nat.le_refl _⟩, ⟨by (with_reducible repeat (first | refine bn_ ?_ _ | refine bd_ ?_ | refine ba_ ?_ _)); exact BK209.out⟩, ⟨pb1_ HB.out GE209.out⟩⟩
          ·
           rw [if_neg c29] at H
           exact absurd H (by simp)
         ·
          rw [if_neg c28] at H
          exact absurd H (by simp)
        ·
         rw [if_neg c26] at H
         have c26b0 : decide (0 < (x5_1.length : Int)) = false := df_ c26
         have c26b1 : decide (0 < x5_1.length) = false := df_ (by omega)
         clear c26
         (first | rw [c26b0] | (simp only [i64_w, i32_w]; rw [c26b0]) | rw [c26b2] | rw [c26b1] | skip)
         have H' := am_ H
         clear H
         go_wp2
         repeat (go_quiet (fail); try go_wp2)
         go_meet
         case rel => exact ⟨_, (0), (by first | rfl | (simp; done) | (simp [*]; done)), H', ⟨by have := HK1.out; first | omega | exact Nat.le_refl _⟩, ⟨by (with_reducible repeat (first | refine bn_ ?_ _ | refine bd_ ?_ | refine ba_ ?_ _)); exact BK209.out⟩, ⟨pb1_ HB.out GE209.out⟩⟩
       case rest =>
        clear HC23
        try clear c1
        try clear p1
        try clear q1
        try clear hx1
        try clear c2
        try clear p2
        try clear q2
        try clear hx2
        try clear c4
        try clear c5
        try clear c5b0
        try clear c5b1
        try clear c6
        try clear c6b0
        try clear c6b1
        try clear p6
        try clear c12
        try clear c12b0
        try clear c13
        try clear c13b0
        try clear c14
        try clear c14b0
        try clear c17
        try clear c17b0
        try clear p18
        try clear q18
        try clear hx18
        try clear hf18
        try clear p21
        try clear q21
        try clear hx21
        try clear c23
        try clear c26
        try clear c26b0
        try clear c26b1
        try clear c26b2
        try clear c28
        try clear c28b0
        try clear c29
        try clear c29b0
        try clear hcz19_0
        try clear hcz19_1
        try clear hcz19_2
        try clear hcz8_0
        try clear hcz8_1
        try clear hcz8_2
        try clear hfz19_0
        try clear hfz19_1
        try clear hfz19_2
        try clear hfz8_0
        try clear hfz8_1
        try clear hfz8_2
        try clear hx18_0
        try clear hx214_0
        try clear hx217_0
        try clear p18
        try clear p2
        try clear p214
        try clear p217
        try clear q18
        try clear q214
        try clear q217
        obtain ⟨kq, x8_22, rfl, HA, HJ22, BK209, HB⟩ := hcut
        cases kq with
        | zero => exact absurd HA.out (by simp [replica_Committed.j1])
        | succ kj22 =>
         have H := HA.out
         clear HA
         simp only [replica_Committed.j1] at H
         have H' := am_ H
         clear H
         go_wp2
         repeat (go_quiet (fail); try go_wp2)
         go_loopg [8] kj22 (fun kq v8 w' => ∃ (x8_3 : Int), v8 = .int .i64 x8_3 ∧ Aside0 (replica_Committed.l1 kq x8_3 a0_0 a0_1 l0_2 = some r) ∧ Aside0 (kq ≤ kj22) ∧ Aside0 (w'.heap[gb209]? = some (.cells #[.int .i64 a0_0, .int .i64 a0_1, (.slice A0_2 l0_2.length c0_2)] 35 (0, 0))) ∧ Aside0 (Below w.heap.size w w'))
         case atStart => exact ⟨(x8_22), (by first | rfl | (simp; done) | (simp [*]; done)), H', ⟨Nat.le_refl _⟩, ⟨by (with_reducible repeat (first | refine bn_ ?_ _ | refine bd_ ?_ | refine ba_ ?_ _)); exact BK209.out⟩, ⟨pb1_ HB.out GE209.out⟩⟩
         case round =>
          clear H'
          try clear c1
          try clear p1
          try clear q1
          try clear hx1
          try clear c2
          try clear p2
          try clear q2
          try clear hx2
          try clear c4
          try clear c5
          try clear c5b0
          try clear c5b1
          try clear c6
          try clear c6b0
          try clear c6b1
          try clear p6
          try clear c12
          try clear c12b0
          try clear c13
          try clear c13b0
          try clear c14
          try clear c14b0
          try clear c17
          try clear c17b0
          try clear p18
          try clear q18
          try clear hx18
          try clear hf18
          try clear p21
          try clear q21
          try clear hx21
          try clear c23
          try clear c26
          try clear c26b0
          try clear c26b1
          try clear c26b2
          try clear c28
          try clear c28b0
          try clear c29
          try clear c29b0
          try clear hcz19_0
          try clear hcz19_1
          try clear hcz19_2
          try clear hcz8_0
          try clear hcz8_1
          try clear hcz8_2
          try clear hfz19_0
          try clear hfz19_1
          try clear hfz19_2
          try clear hfz8_0
          try clear hfz8_1
          try clear hfz8_2
          try clear hx18_0
          try clear hx214_0
          try clear hx217_0
          try clear p1
          try clear p18
          try clear p2
          try clear p21
          try clear p214
          try clear p217
          try clear p6
          try clear q1
          try clear q18
          try clear q2
          try clear q21
          try clear q214
          try clear q217
          obtain ⟨x8_3, rfl, HA, HK3, BK209, HB⟩ := hrel
          cases gk with
          | zero => exact absurd HA.out (by simp [replica_Committed.l1])
          | succ k3 =>
           have H := HA.out
           clear HA
           simp only [replica_Committed.l1] at H
           by_cases c30 : x8_3 > 0
           ·
            rw [if_pos c30] at H
            have c30b0 : decide (0 < x8_3) = true := de_ c30
            clear c30
            obtain ⟨ji31, hji31⟩ : ∃ j_ : Int, (wrap64 (x8_3 - 1)) = j_ := ⟨_, rfl⟩
            replace H : (if 0 ≤ (ji31) then (if (ji31) < (l0_2.length : Int) then (if ((rd_T87 l0_2 (ji31)).f0) = a0_0 then (some (mx x8_3 a0_1)) else (replica_Committed.l1 k3 ji31 a0_0 a0_1 l0_2)) else (none)) else (none)) = some r := by first | (rw [hji31] at H; exact H) | (simp only [hji31] at H ⊢; exact H)
            have hji31w : (IntKind.i64.wrap (x8_3 - 1)) = ji31 := (i64_w _).trans hji31
            by_cases c32 : 0 ≤ (ji31)
            ·
             rw [if_pos c32] at H
             have c32b0 : decide (0 ≤ (ji31)) = true := de_ c32
             clear c32
             by_cases c33 : (ji31) < (l0_2.length : Int)
             ·
              rw [if_pos c33] at H
              have c33b0 : decide ((ji31) < (l0_2.length : Int)) = true := de_ c33
              clear c33
              by_cases c34 : ((rd_T87 l0_2 (ji31)).f0) = a0_0
              ·
               rw [if_pos c34] at H
               have c34b0 : (((rd_T87 l0_2 (ji31)).f0) == a0_0) = true := beq_iff_eq.mpr c34
               have c34b1 : (((rd_T87 l0_2 (ji31)).f0) != a0_0) = false := bne_eq_false_iff_eq.mpr c34
               clear c34
               obtain ⟨ji35, hji35⟩ : ∃ j_ : Int, (mx x8_3 a0_1) = j_ := ⟨_, rfl⟩
               replace H : (some ji35) = some r := by first | (rw [hji35] at H; exact H) | (simp only [hji35] at H ⊢; exact H)
               have hji35_ : (if x8_3 < a0_1 then a0_1 else x8_3) = ji35 := hji35
               obtain rfl := si_ H
               have hcz36_0 : wr.cell? ⟨gb209, 0, none⟩ = some (.int .i64 a0_0) := (bc_ BK209.out 0).trans rfl
               have hcz36_1 : wr.cell? ⟨gb209, 1, none⟩ = some (.int .i64 a0_1) := (bc_ BK209.out 1).trans rfl
               have hcz36_2 : wr.cell? ⟨gb209, 2, none⟩ = some (.slice A0_2 l0_2.length c0_2) := (bc_ BK209.out 2).trans rfl
               have hfz36_0 := bf_ BK209.out 0
               have hfz36_1 := bf_ BK209.out 1
               have hfz36_2 := bf_ BK209.out 2
               have p218 : 0 ≤ ((ji31) : Int) := ot_ (by first | (with_reducible assumption) | assumption)
               have q218 : (ji31) < (l0_2.length : Int) := ot_ (by first | (with_reducible assumption) | assumption)
               obtain ⟨ad218, A218_1, c218_1, e218, hx218_0, hx218_1, hl218_1, hi218_1⟩ := at_T87 HR0_2.out (ji31) p218 q218
               cases e218
               replace hx218_0 := (HB.out.cell (bk_ w _ hx218_0)).trans hx218_0
               replace hx218_1 := (HB.out.cell (bk_ w _ hx218_1)).trans hx218_1
               have HR218_1 := am_ hi218_1
               have HC218_1 := am_ hl218_1
               clear hi218_1 hl218_1
               replace p218 := eq_true p218
               replace q218 := eq_true q218
               go_wp2
               repeat (go_quiet (fail); try go_wp2)
               go_ret
               exact ⟨by first | rfl | (simp [errW_none, errW_some] <;> rfl) | (simp only [← hji31, ← hji35]; first | rfl | (simp [errW_none, errW_some] <;> rfl)) | (simp [*, errW_none, errW_some] <;> rfl), pb1_ HB.out GE209.out⟩
              ·
               rw [if_neg c34] at H
               have c34b0 : (((rd_T87 l0_2 (ji31)).f0) == a0_0) = false := beq_eq_false_iff_ne.mpr c34
               have c34b1 : (((rd_T87 l0_2 (ji31)).f0) != a0_0) = true := bne_iff_ne.mpr c34
               have H' := am_ H
               clear H
               have hcz37_0 : wr.cell? ⟨gb209, 0, none⟩ = some (.int .i64 a0_0) := (bc_ BK209.out 0).trans rfl
               have hcz37_1 : wr.cell? ⟨gb209, 1, none⟩ = some (.int .i64 a0_1) := (bc_ BK209.out 1).trans rfl
               have hcz37_2 : wr.cell? ⟨gb209, 2, none⟩ = some (.slice A0_2 l0_2.length c0_2) := (bc_ BK209.out 2).trans rfl
               have hfz37_0 := bf_ BK209.out 0
               have hfz37_1 := bf_ BK209.out 1
               have hfz37_2 := bf_ BK209.out 2
               have p218 : 0 ≤ ((ji31) : Int) := ot_ (by first | (with_reducible assumption) | assumption)
               have q218 : (ji31) < (l0_2.length : Int) := ot_ (by first | (with_reducible assumption) | assumption)
               obtain ⟨ad218, A218_1, c218_1, e218, hx218_0, hx218_1, hl218_1, hi218_1⟩ := at_T87 HR0_2.out (ji31) p218 q218
               cases e218
               replace hx218_0 := (HB.out.cell (bk_ w _ hx218_0)).trans hx218_0
               replace hx218_1 := (HB.out.cell (bk_ w _ hx218_1)).trans hx218_1
               have HR218_1 := am_ hi218_1
               have HC218_1 := am_ hl218_1
               clear hi218_1 hl218_1
               replace p218 := eq_true p218
               replace q218 := eq_true q218
               go_wp2
               repeat (go_quiet (fail); try go_wp2)
               go_roundg k3
               case measure => have := HK1.out; have := HJ22.out; have := HK3.out; omega
               case rel => exact ⟨(ji31), (by first | rfl | (simp; done) | (simp only [← hji31] <;> (first | rfl | simp)) | (simp [*]; done)), H', ⟨by have := HK1.out; have := HJ22.out; have := HK3.out; omega⟩, ⟨by (with_reducible repeat (first | refine bn_ ?_ _ | refine bd_ ?_ | refine ba_ ?_ _)); exact BK209.out⟩, ⟨pb1_ HB.out GE209.out⟩⟩
             ·
              rw [if_neg c33] at H
              exact absurd H (by simp)
            ·
             rw [if_neg c32] at H
             exact absurd H (by simp)
           ·
            rw [if_neg c30] at H
            have c30b0 : decide (0 < x8_3) = false := df_ c30
            clear c30
            obtain ⟨ji38, hji38⟩ : ∃ j_ : Int, (mx x8_3 a0_1) = j_ := ⟨_, rfl⟩
            replace H : (some ji38) = some r := by first | (rw [hji38] at H; exact H) | (simp only [hji38] at H ⊢; exact H)
            have hji38_ : (if x8_3 < a0_1 then a0_1 else x8_3) = ji38 := hji38
            obtain rfl := si_ H
            have hcz39_0 : wr.cell? ⟨gb209, 0, none⟩ = some (.int .i64 a0_0) := (bc_ BK209.out 0).trans rfl
            have hcz39_1 : wr.cell? ⟨gb209, 1, none⟩ = some (.int .i64 a0_1) := (bc_ BK209.out 1).trans rfl
            have hcz39_2 : wr.cell? ⟨gb209, 2, none⟩ = some (.slice A0_2 l0_2.length c0_2) := (bc_ BK209.out 2).trans rfl
            have hfz39_0 := bf_ BK209.out 0
            have hfz39_1 := bf_ BK209.out 1
            have hfz39_2 := bf_ BK209.out 2
            go_wp2
            repeat (go_quiet (fail); try go_wp2)
            go_ret
            exact ⟨by first | rfl | (simp [errW_none, errW_some] <;> rfl) | (simp only [← hji38]; first | rfl | (simp [errW_none, errW_some] <;> rfl)) | (simp [*, errW_none, errW_some] <;> rfl), pb1_ HB.out GE209.out⟩
   ·
    rw [if_neg c6] at H
    exact absurd H (by simp)
  ·
   rw [if_neg c5] at H
   exact absurd H (by simp)
 ·
  replace c4 := Bool.eq_false_iff.mpr c4
  subst c4
  have H1 : (some 0) = some r := by rw [if_neg (show ¬ (false = true) by decide)] at H; exact H
  clear H
  have H := H1
  clear H1
  obtain rfl := si_ H
  go_enter Try.func23, Try.ntmps23
  go_wp2_with (first | ((with_reducible refine gate_dst (N := 2) rfl ?_); refine box_event ?hg (N := 2) ?hd (cs := #[.int .i64 a0_0, .int .i64 a0_1, .slice A0_2 l0_2.length c0_2]) (t := 35) ?hr ?_; (case hd => rfl); (case hg => rfl); (case hr => first | (go_simp; done) | (go_simp; rfl)); intro gb209 hg w40 hbox hb; have n0_ := am_ (sp_ (pb0_ HB.out) hb); have n1_ := am_ (hbox); have n2_ := am_ ((by rw [hg]; exact (bz_ (pb0_ HB.out)) : w.heap.size ≤ gb209)); have n3_ := am_ ((by rw [hg]; exact (bz_ (pb0_ HB.out)) : w.heap.size ≤ gb209)); clear HB; have HB := n0_; have BK209 := n1_; have GW209 := n2_; have GE209 := n3_; clear n0_ n1_ n2_ n3_; clear hb hbox hg; have hcz41_0 : w40.cell? ⟨gb209, 0, none⟩ = some (.int .i64 a0_0) := (bc_ BK209.out 0).trans rfl; have hcz41_1 : w40.cell? ⟨gb209, 1, none⟩ = some (.int .i64 a0_1) := (bc_ BK209.out 1).trans rfl; have hcz41_2 : w40.cell? ⟨gb209, 2, none⟩ = some (.slice A0_2 l0_2.length c0_2) := (bc_ BK209.out 2).trans rfl; have hfz41_0 := bf_ BK209.out 0; have hfz41_1 := bf_ BK209.out 1; have hfz41_2 := bf_ BK209.out 2) | (go_at_call 27; (with_reducible refine (replica_Node_valid.calls k a0_0 a0_1 _ _ l0_2 false _ ?side1 ?side2 A3.out).mono ?_); (case side1 => repeat (first | exact (Kd.C_below HR0_2.out HB.out) | (with_reducible refine Kd.C_alloc ?_ _) | (with_reducible refine Kd.C_drewN ?_ _) | (with_reducible refine Kd.C_drew ?_))); (case side2 => exact HC0_2.out); rintro e w42 ⟨rfl, hb⟩; have n0_ := am_ (bw_ (g := gb209) (o := .cells #[.int .i64 a0_0, .int .i64 a0_1, .slice A0_2 l0_2.length c0_2] 35 (0, 0)) (pk_ BK209.out) hb); have n1_ := am_ (sp_ (pb1_ HB.out GE209.out) hb); clear BK209; clear HB; have BK209 := n0_; have HB := n1_; clear n0_ n1_; (try clear hb); (try clear hb2); (try clear hk); (try clear hi)))
  repeat (go_quiet (first | ((with_reducible refine gate_dst (N := 2) rfl ?_); refine box_event ?hg (N := 2) ?hd (cs := #[.int .i64 a0_0, .int .i64 a0_1, .slice A0_2 l0_2.length c0_2]) (t := 35) ?hr ?_; (case hd => rfl); (case hg => rfl); (case hr => first | (go_simp; done) | (go_simp; rfl)); intro gb209 hg w40 hbox hb; have n0_ := am_ (sp_ (pb0_ HB.out) hb); have n1_ := am_ (hbox); have n2_ := am_ ((by rw [hg]; exact (bz_ (pb0_ HB.out)) : w.heap.size ≤ gb209)); have n3_ := am_ ((by rw [hg]; exact (bz_ (pb0_ HB.out)) : w.heap.size ≤ gb209)); clear HB; have HB := n0_; have BK209 := n1_; have GW209 := n2_; have GE209 := n3_; clear n0_ n1_ n2_ n3_; clear hb hbox hg; have hcz41_0 : w40.cell? ⟨gb209, 0, none⟩ = some (.int .i64 a0_0) := (bc_ BK209.out 0).trans rfl; have hcz41_1 : w40.cell? ⟨gb209, 1, none⟩ = some (.int .i64 a0_1) := (bc_ BK209.out 1).trans rfl; have hcz41_2 : w40.cell? ⟨gb209, 2, none⟩ = some (.slice A0_2 l0_2.length c0_2) := (bc_ BK209.out 2).trans rfl; have hfz41_0 := bf_ BK209.out 0; have hfz41_1 := bf_ BK209.out 1; have hfz41_2 := bf_ BK209.out 2) | (go_at_call 27; (with_reducible refine (replica_Node_valid.calls k a0_0 a0_1 _ _ l0_2 false _ ?side1 ?side2 A3.out).mono ?_); (case side1 => repeat (first | exact (Kd.C_below HR0_2.out HB.out) | (with_reducible refine Kd.C_alloc ?_ _) | (with_reducible refine Kd.C_drewN ?_ _) | (with_reducible refine Kd.C_drew ?_))); (case side2 => exact HC0_2.out); rintro e w42 ⟨rfl, hb⟩; have n0_ := am_ (bw_ (g := gb209) (o := .cells #[.int .i64 a0_0, .int .i64 a0_1, .slice A0_2 l0_2.length c0_2] 35 (0, 0)) (pk_ BK209.out) hb); have n1_ := am_ (sp_ (pb1_ HB.out GE209.out) hb); clear BK209; clear HB; have BK209 := n0_; have HB := n1_; clear n0_ n1_; (try clear hb); (try clear hb2); (try clear hk); (try clear hi))); try go_wp2_with (first | ((with_reducible refine gate_dst (N := 2) rfl ?_); refine box_event ?hg (N := 2) ?hd (cs := #[.int .i64 a0_0, .int .i64 a0_1, .slice A0_2 l0_2.length c0_2]) (t := 35) ?hr ?_; (case hd => rfl); (case hg => rfl); (case hr => first | (go_simp; done) | (go_simp; rfl)); intro gb209 hg w40 hbox hb; have n0_ := am_ (sp_ (pb0_ HB.out) hb); have n1_ := am_ (hbox); have n2_ := am_ ((by rw [hg]; exact (bz_ (pb0_ HB.out)) : w.heap.size ≤ gb209)); have n3_ := am_ ((by rw [hg]; exact (bz_ (pb0_ HB.out)) : w.heap.size ≤ gb209)); clear HB; have HB := n0_; have BK209 := n1_; have GW209 := n2_; have GE209 := n3_; clear n0_ n1_ n2_ n3_; clear hb hbox hg; have hcz41_0 : w40.cell? ⟨gb209, 0, none⟩ = some (.int .i64 a0_0) := (bc_ BK209.out 0).trans rfl; have hcz41_1 : w40.cell? ⟨gb209, 1, none⟩ = some (.int .i64 a0_1) := (bc_ BK209.out 1).trans rfl; have hcz41_2 : w40.cell? ⟨gb209, 2, none⟩ = some (.slice A0_2 l0_2.length c0_2) := (bc_ BK209.out 2).trans rfl; have hfz41_0 := bf_ BK209.out 0; have hfz41_1 := bf_ BK209.out 1; have hfz41_2 := bf_ BK209.out 2) | (go_at_call 27; (with_reducible refine (replica_Node_valid.calls k a0_0 a0_1 _ _ l0_2 false _ ?side1 ?side2 A3.out).mono ?_); (case side1 => repeat (first | exact (Kd.C_below HR0_2.out HB.out) | (with_reducible refine Kd.C_alloc ?_ _) | (with_reducible refine Kd.C_drewN ?_ _) | (with_reducible refine Kd.C_drew ?_))); (case side2 => exact HC0_2.out); rintro e w42 ⟨rfl, hb⟩; have n0_ := am_ (bw_ (g := gb209) (o := .cells #[.int .i64 a0_0, .int .i64 a0_1, .slice A0_2 l0_2.length c0_2] 35 (0, 0)) (pk_ BK209.out) hb); have n1_ := am_ (sp_ (pb1_ HB.out GE209.out) hb); clear BK209; clear HB; have BK209 := n0_; have HB := n1_; clear n0_ n1_; (try clear hb); (try clear hb2); (try clear hk); (try clear hi))))
  go_ret
  exact ⟨by first | rfl | (simp [errW_none, errW_some] <;> rfl) | (simp [*, errW_none, errW_some] <;> rfl), pb1_ HB.out GE209.out⟩
end Go.Proofs.Ytbigcpjlahkggaa.Q
end
section
namespace Go.Proofs.YtbigcpjlahkggaaW.PrintMore
open Go.RowKit Go.Proofs.YtbigcpjlahkggaaW.PrintWords Go.Proofs.YtbigcpjlahkggaaW.PrintLast
theorem cell_marked {w w1 : World} {g : Nat} {cur : Array Value} {e : TypeId} {f1 f2 : Nat × Nat} (h1 : w.heap[g]? = some (.cells cur e f1)) (h2 : w1.heap[g]? = some (.cells cur e f2)) (o : Nat) : w1.cell? ⟨g, o, none⟩ = w.cell? ⟨g, o, none⟩ := by
  simp [World.cell?, h1, h2]
theorem run_convert_marked {P : Program} (w : World) (t e : TypeId) (g n c : Nat) (cur : Array Value) (ht : P.underlying t = some (.slice e)) (he : P.underlying e = some (.int .u8)) (hb : w.heap[g]? = some (.cells cur e (0, 0))) :
    ∃ w1, (convert t t (.slice (some ⟨g, 0, none⟩) n c)).run P w = .ok (.slice (some ⟨g, 0, none⟩) n c) w1 ∧ w.grownBy w1 (some g) ∧ ∃ f, w1.heap[g]? = some (.cells cur e f) := by
  have hsh : w.shape? g = some (e, cur.size) := by
    unfold World.shape?
    rw [hb]
  have hlt : g < w.heap.size := (Array.getElem?_eq_some_iff.1 hb).1
  refine ⟨w.freeze ⟨g, cur.size, none⟩ 1, ?_, ?_, ?_⟩
  · simp [convert, run_underlying ht, run_underlying he, markStringish, hsh]
  · unfold World.freeze
    rw [if_neg (by decide)]
    refine ⟨rfl, rfl, rfl, by simp, fun k hk hne => ?_⟩
    have : g ≠ k := fun e => hne (by rw [e])
    simp [Array.getElem?_modify, this]
  · unfold World.freeze
    rw [if_neg (by decide)]
    simp only [Array.getElem?_modify, if_true, hb, Option.map_some]
    exact ⟨_, rfl⟩
section
variable {P : Program} {ops : Array Oper} {Q : Exit → Act → World → Prop}
theorem convLit_ {rest : List Oper} {oi : Oper} {a : Act} {w : World} (N : Option Tmp) (hd : oi.dst = N) (hg : oi.guard = none) {t e : TypeId} {s : Operand} (hop : oi.op = .convert t t s) (ht : P.underlying t = some (.slice e)) (he : P.underlying e = some (.int .u8))
    {v : Value} (hs : a.eval s = v) {xs : List Int} {base : Nat} {ok : Nat → Prop} (hR : (Kd.int .u8).R e w base ok v xs) (hne : v ≠ .slice none 0 0)
    (h : ∀ w1, w.grownBy w1 v.ownBlock → Kd.V (Kd.int .u8) e w1 base (fun k => some k = v.ownBlock) v xs → wpList P ops Q rest (a.put N v) w1) : wpList P ops Q (oi :: rest) a w := by
  refine wpList_plain hg fun K hK => ?_
  have ho := Kd.own_of_R hR
  obtain ⟨A, c, hv, hl, hC⟩ := Kd.R_reads hR
  rcases ho.2 with ⟨rfl, _⟩ | ⟨g, cap, cur, rfl, hgb, hh, hn, hcap, hcs, hcur⟩
  · exact absurd rfl hne
  · injection hv with hA _ hc
    subst hA
    obtain ⟨w1, hrun0, hgrow, f, hf⟩ := run_convert_marked w t e g xs.length cap cur ht he hh
    have hrun : (execOp a.eval oi).run P w = .ok (.value (.slice (some ⟨g, 0, none⟩) xs.length cap)) w1 := by
      unfold execOp
      simp [hop, hs, hrun0]
    unfold Oper.wp
    rw [hrun]
    have hk : wpList P ops Q rest (a.put N (.slice (some ⟨g, 0, none⟩) xs.length cap)) w1 := by
      refine h w1 hgrow ⟨_, _, rfl, hn, ?_⟩
      intro W' hW
      have hlt : g < w1.heap.size := (Array.getElem?_eq_some_iff.1 hf).1
      have hW' : W'.heap[g]? = some (.cells cur e f) := (hW g rfl hlt).trans hf
      refine ⟨hC.1, hC.2.1, fun hp => ?_⟩
      obtain ⟨ad, e1, hcells⟩ := hC.2.2 hp
      cases e1
      refine ⟨_, rfl, fun j p hj => ?_⟩
      obtain ⟨cs, h1, h2, h3⟩ := hcells j p hj
      refine ⟨cs, h1, h2, fun i u hu => ?_⟩
      have := h3 i u hu
      rw [show (⟨g, 0, none⟩ : Addr).add (j * (Kd.int .u8).sz + i) = ⟨g, j * (Kd.int .u8).sz + i, none⟩ from by unfold Addr.add; split <;> simp_all] at this ⊢
      rw [cell_marked hh hW']
      exact this
    subst hd
    exact hK _ _ hk
end
end Go.Proofs.YtbigcpjlahkggaaW.PrintMore
end
section
namespace Go.Proofs.Ytbigcpjlahkggaa.Q
open Go.RowKit Go.Proofs.YtbigcpjlahkggaaW.PrintWords Go.Proofs.YtbigcpjlahkggaaW.PrintLast Go.Proofs.YtbigcpjlahkggaaW.PrintMore
attribute [local go_sem] max2_int min2_int max_two min_two max_three min_three max_four min_four
attribute [local go_sem ↓] isSome_setCell
attribute [local go_sem] string_gtr
set_option linter.unusedVariables false
set_option linter.unusedSimpArgs false
def replica_better.f (k : Nat) (a0_0 : Int) (a0_1 : Int) (l0_2 : List (S87)) (a1_0 : Int) (a1_1 : Int) (l1_2 : List (S87)) : Option (Int) := (replica_Node_end.f a0_0 a0_1 l0_2 (l0_2.length : Int)).bind fun t119 => ((replica_Node_end.f a1_0 a1_1 l1_2 (l1_2.length : Int)).bind fun t120 => ((cmp_Compare_int.f t119 t120).bind fun t121 => ((cmp_Compare_int.f (l0_2.length : Int) (l1_2.length : Int)).bind fun t122 => ((cmp_Or_int.f k (([t121, t122] : List Int))).bind fun t126 => (some t126)))))
def replica_better.T1 : Bool × List (List Nat × List Nat) := (true, [([], []), ([], []), ([1], [1]), ([2], [2]), ([0, 3], [0, 3]), ([], []), ([], []), ([6], [6]), ([7], [7]), ([5, 8, 4], [5, 8]), ([4, 9, 9], [4, 9]), ([], []), ([11], [11]), ([12], [12]), ([], []), ([14], [14]), ([15], [15]), ([13, 16, 10], [13, 16]), ([10, 17], [10, 17]), ([18, 17], [18]), ([19, 19, 0, 1, 2, 3, 4, 5, 6, 7, 8, 9, 10, 11, 12, 13, 14, 15, 16, 17, 18, 19], [19])])
def replica_better.B1 : List Nat := [0, 0, 2, 6, 15, 0, 0, 64, 192, 511, 1023, 0, 2048, 6144, 0, 16384, 49152, 131071, 262143, 524287, 1048575]
theorem replica_better.tab1 : rtab .any (opsOf Try.f41 1) = replica_better.T1 := by kernel_rfl
theorem replica_better.bits1 : waitsOk replica_better.T1.2 replica_better.B1 = true := by kernel_rfl
set_option maxHeartbeats 8000000 in
set_option maxRecDepth 100000 in
theorem replica_better.calls (k : Nat) (a0_0 : Int) (a0_1 : Int) (A0_2 : Option Addr) (c0_2 : Nat) (l0_2 : List (S87)) (a1_0 : Int) (a1_1 : Int) (A1_2 : Option Addr) (c1_2 : Nat) (l1_2 : List (S87)) (r : Int) (w : World) (hr0_2 : Kd.C k87 w A0_2 l0_2.length l0_2) (hc0_2 : l0_2.length ≤ c0_2) (hr1_2 : Kd.C k87 w A1_2 l1_2.length l1_2) (hc1_2 : l1_2.length ≤ c1_2) (h : replica_better.f k a0_0 a0_1 l0_2 a1_0 a1_1 l1_2 = some r) :
  Calls Try.prog 41 #[.agg #[.int .i64 a0_0, .int .i64 a0_1, .slice A0_2 l0_2.length c0_2], .agg #[.int .i64 a1_0, .int .i64 a1_1, .slice A1_2 l1_2.length c1_2]] w fun e w' => e = .returned (.int .i64 r) ∧ Below w.heap.size w w' := by
 have hu35 := Try.underlying35
 have HR0_2 := am_ hr0_2
 have HC0_2 := am_ hc0_2
 clear hr0_2 hc0_2
 have HR1_2 := am_ hr1_2
 have HC1_2 := am_ hc1_2
 clear hr1_2 hc1_2
 have HB := am_ (Below.refl w.heap.size w)
 have H : ((replica_Node_end.f a0_0 a0_1 l0_2 (l0_2.length : Int)).bind fun t119 => ((replica_Node_end.f a1_0 a1_1 l1_2 (l1_2.length : Int)).bind fun t120 => ((cmp_Compare_int.f t119 t120).bind fun t121 => ((cmp_Compare_int.f (l0_2.length : Int) (l1_2.length : Int)).bind fun t122 => ((cmp_Or_int.f k (([t121, t122] : List Int))).bind fun t126 => (some t126)))))) = some r := h
 clear h
 replace H := Option.bind_eq_some_iff.mp H
 obtain ⟨t119, A30, H⟩ := H
 replace H : ((replica_Node_end.f a1_0 a1_1 l1_2 (l1_2.length : Int)).bind fun t120 => ((cmp_Compare_int.f t119 t120).bind fun t121 => ((cmp_Compare_int.f (l0_2.length : Int) (l1_2.length : Int)).bind fun t122 => ((cmp_Or_int.f k (([t121, t122] : List Int))).bind fun t126 => (some t126))))) = some r := H
 have A3 := am_ A30
 clear A30
 replace H := Option.bind_eq_some_iff.mp H
 obtain ⟨t120, A40, H⟩ := H
 replace H : ((cmp_Compare_int.f t119 t120).bind fun t121 => ((cmp_Compare_int.f (l0_2.length : Int) (l1_2.length : Int)).bind fun t122 => ((cmp_Or_int.f k (([t121, t122] : List Int))).bind fun t126 => (some t126)))) = some r := H
 have A4 := am_ A40
 clear A40
 replace H := Option.bind_eq_some_iff.mp H
 obtain ⟨t121, A50, H⟩ := H
 replace H : ((cmp_Compare_int.f (l0_2.length : Int) (l1_2.length : Int)).bind fun t122 => ((cmp_Or_int.f k (([t121, t122] : List Int))).bind fun t126 => (some t126))) = some r := H
 have A5 := am_ A50
 clear A50
 replace H := Option.bind_eq_some_iff.mp H
 obtain ⟨t122, A60, H⟩ := H
 replace H : ((cmp_Or_int.f k (([t121, t122] : List Int))).bind fun t126 => (some t126)) = some r := H
 have A6 := am_ A60
 clear A60
 obtain ⟨y123, hy123⟩ : ∃ y_ : List Int, y_ = (([t121, t122] : List Int)) := ⟨_, rfl⟩
 replace H : ((cmp_Or_int.f k y123).bind fun t126 => (some t126)) = some r := by first | (rw [hy123]; with_reducible exact H) | (have H2_ := (Option.bind_some _ _).symm.trans H; rw [hy123]; with_reducible exact H2_) | (have H2_ := (Option.bind_some _ _).symm.trans H; with_reducible exact H2_) | with_reducible exact H | (rw [hy123]; exact H) | exact H
 have Ny123 := am_ hy123
 clear hy123
 replace H := Option.bind_eq_some_iff.mp H
 obtain ⟨t126, A70, H⟩ := H
 replace H : (some t126) = some r := H
 have A7 := am_ A70
 clear A70
 obtain rfl := si_ H
 go_enter Try.func41, Try.ntmps41
 try go_wp2_with (first | ((with_reducible refine gate_dst (N := 2) rfl ?_); refine box_event ?hg (N := 2) ?hd (cs := #[.int .i64 a0_0, .int .i64 a0_1, .slice A0_2 l0_2.length c0_2]) (t := 35) ?hr ?_; (case hd => rfl); (case hg => rfl); (case hr => first | (go_simp; done) | (go_simp; rfl)); intro gb117 hg w8 hbox hb; have n0_ := am_ (sp_ (pb0_ HB.out) hb); have n1_ := am_ (hbox); have n2_ := am_ ((by rw [hg]; exact (bz_ (pb0_ HB.out)) : w.heap.size ≤ gb117)); have n3_ := am_ ((by rw [hg]; exact (bz_ (pb0_ HB.out)) : w.heap.size ≤ gb117)); clear HB; have HB := n0_; have BK117 := n1_; have GW117 := n2_; have GE117 := n3_; clear n0_ n1_ n2_ n3_; clear hb hbox hg) | ((with_reducible refine gate_dst (N := 3) rfl ?_); refine box_event ?hg (N := 3) ?hd (cs := #[.int .i64 a1_0, .int .i64 a1_1, .slice A1_2 l1_2.length c1_2]) (t := 35) ?hr ?_; (case hd => rfl); (case hg => rfl); (case hr => first | (go_simp; done) | (go_simp; rfl)); intro gb118 hg w9 hbox hb; have n0_ := am_ (bw_ (g := gb117) (o := .cells #[.int .i64 a0_0, .int .i64 a0_1, .slice A0_2 l0_2.length c0_2] 35 (0, 0)) (pk_ BK117.out) hb); have n1_ := am_ (sp_ (pb1_ HB.out GE117.out) hb); have n2_ := am_ (hbox); have n3_ := am_ ((by rw [hg]; exact (bz_ (pb1_ HB.out GE117.out)) : w.heap.size ≤ gb118)); have n4_ := am_ ((by rw [hg]; exact (bz_ (pb1_ HB.out GE117.out)) : w.heap.size ≤ gb118)); have n5_ := am_ ((by rw [hg]; exact Nat.ne_of_lt (blk_lt (g := gb117) (o := .cells #[.int .i64 a0_0, .int .i64 a0_1, .slice A0_2 l0_2.length c0_2] 35 (0, 0)) (pk_ BK117.out)) : gb117 ≠ gb118)); have n6_ := am_ ((by rw [hg]; exact Nat.ne_of_gt (blk_lt (g := gb117) (o := .cells #[.int .i64 a0_0, .int .i64 a0_1, .slice A0_2 l0_2.length c0_2] 35 (0, 0)) (pk_ BK117.out)) : gb118 ≠ gb117)); clear BK117; clear HB; have BK117 := n0_; have HB := n1_; have BK118 := n2_; have GW118 := n3_; have GE118 := n4_; have NB117_118 := n5_; have NB118_117 := n6_; clear n0_ n1_ n2_ n3_ n4_ n5_ n6_; clear hb hbox hg))
 have n0_ := am_ (bd_ BK117.out)
 have n1_ := am_ (bd_ BK118.out)
 have n2_ := am_ (b1_ HB.out)
 clear BK117
 clear BK118
 clear HB
 have BK117 := n0_
 have BK118 := n1_
 have HB := n2_
 clear n0_ n1_ n2_
 refine start_ (n := 21) (S := fun w' => w'.cell? ⟨gb117, 0, none⟩ = some (.int .i64 a0_0) ∧ w'.cell? ⟨gb117, 1, none⟩ = some (.int .i64 a0_1) ∧ w'.cell? ⟨gb117, 2, none⟩ = some (.slice A0_2 l0_2.length c0_2) ∧ w'.cell? ⟨gb118, 0, none⟩ = some (.int .i64 a1_0) ∧ w'.cell? ⟨gb118, 1, none⟩ = some (.int .i64 a1_1) ∧ w'.cell? ⟨gb118, 2, none⟩ = some (.slice A1_2 l1_2.length c1_2)) (ds := []) #[false, false, false, false, false, false, false, false, false, false, false, false, false, false, false, false, false, false, false, false, false] (by kernel_rfl) rfl rfl ⟨(bc_ BK117.out 0).trans rfl, (bc_ BK117.out 1).trans rfl, (bc_ BK117.out 2).trans rfl, (bc_ BK118.out 0).trans rfl, (bc_ BK118.out 1).trans rfl, (bc_ BK118.out 2).trans rfl⟩ (fun hHeld => ?_); refine with_tabW replica_better.tab1 replica_better.bits1 (fun HT_ HW_ => ?_)
 generalize w9.drew = w10 at BK117 BK118 HB hHeld ⊢
 refine pure_ (i := 1) (N := some 6) (v := ?_) (a' := ?_) #[false, true, false, false, false, false, false, false, false, false, false, false, false, false, false, false, false, false, false, false, false] rfl rfl (any_of HT_.out (by kernel_rfl)) (fun _ _ _ h => h) (Or.inl ⟨by rfl, ?_⟩) ?_ ?_
 rotate_left
 ·
  intro w'
  go_simp
  with_reducible rfl
 rotate_left
 ·
  simp only [Act.put, lt1_, lt2_, lt3_, i64_w, i32_w]
  rfl
 refine pure_ (i := 6) (N := some 11) (v := ?_) (a' := ?_) #[false, true, false, false, false, false, true, false, false, false, false, false, false, false, false, false, false, false, false, false, false] rfl rfl (any_of HT_.out (by kernel_rfl)) (fun _ _ _ h => h) (Or.inl ⟨by rfl, ?_⟩) ?_ ?_
 rotate_left
 ·
  intro w'
  go_simp
  with_reducible rfl
 rotate_left
 ·
  simp only [Act.put, lt1_, lt2_, lt3_, i64_w, i32_w]
  rfl
 refine pure_ (i := 11) (N := some 16) (v := ?_) (a' := ?_) #[false, true, false, false, false, false, true, false, false, false, false, true, false, false, false, false, false, false, false, false, false] rfl rfl (any_of HT_.out (by kernel_rfl)) (fun _ _ _ h => h) (Or.inl ⟨by rfl, ?_⟩) ?_ ?_
 rotate_left
 ·
  intro w'
  go_simp
  with_reducible rfl
 rotate_left
 ·
  simp only [Act.put, lt1_, lt2_, lt3_, i64_w, i32_w]
  rfl
 refine pure_ (i := 14) (N := some 19) (v := ?_) (a' := ?_) #[false, true, false, false, false, false, true, false, false, false, false, true, false, false, true, false, false, false, false, false, false] rfl rfl (any_of HT_.out (by kernel_rfl)) (fun _ _ _ h => h) (Or.inl ⟨by rfl, ?_⟩) ?_ ?_
 rotate_left
 ·
  intro w'
  go_simp
  with_reducible rfl
 rotate_left
 ·
  simp only [Act.put, lt1_, lt2_, lt3_, i64_w, i32_w]
  rfl
 refine take_ (i := 0) (N := some 5) (v := ?_) (a' := ?_) #[true, true, false, false, false, false, true, false, false, false, false, true, false, false, true, false, false, false, false, false, false] rfl rfl (take_ofW HT_.out HW_.out (by kernel_rfl)) (fun _ _ _ h => h) (Or.inl ⟨by rfl, ?_⟩) hHeld ?_ ?_
 rotate_left
 ·
  rintro w' ⟨s0, s1, s2, s3, s4, s5⟩
  go_simp
  with_reducible rfl
 rotate_left
 ·
  simp only [Act.put, lt1_, lt2_, lt3_, i64_w, i32_w]
  rfl
 refine take_ (i := 2) (N := some 7) (v := ?_) (a' := ?_) #[true, true, true, false, false, false, true, false, false, false, false, true, false, false, true, false, false, false, false, false, false] rfl rfl (take_ofW HT_.out HW_.out (by kernel_rfl)) (fun _ _ _ h => h) (Or.inl ⟨by rfl, ?_⟩) hHeld ?_ ?_
 rotate_left
 ·
  rintro w' ⟨s0, s1, s2, s3, s4, s5⟩
  go_simp
  with_reducible rfl
 rotate_left
 ·
  simp only [Act.put, lt1_, lt2_, lt3_, i64_w, i32_w]
  rfl
 refine pure_ (i := 3) (N := some 8) (v := ?_) (a' := ?_) #[true, true, true, true, false, false, true, false, false, false, false, true, false, false, true, false, false, false, false, false, false] rfl rfl (any_of HT_.out (by kernel_rfl)) (fun _ _ _ h => h) (Or.inl ⟨by rfl, ?_⟩) ?_ ?_
 rotate_left
 ·
  intro w'
  go_simp
  with_reducible rfl
 rotate_left
 ·
  simp only [Act.put, lt1_, lt2_, lt3_, i64_w, i32_w]
  rfl
 refine take_ (i := 5) (N := some 10) (v := ?_) (a' := ?_) #[true, true, true, true, false, true, true, false, false, false, false, true, false, false, true, false, false, false, false, false, false] rfl rfl (take_ofW HT_.out HW_.out (by kernel_rfl)) (fun _ _ _ h => h) (Or.inl ⟨by rfl, ?_⟩) hHeld ?_ ?_
 rotate_left
 ·
  rintro w' ⟨s0, s1, s2, s3, s4, s5⟩
  go_simp
  with_reducible rfl
 rotate_left
 ·
  simp only [Act.put, lt1_, lt2_, lt3_, i64_w, i32_w]
  rfl
 refine take_ (i := 7) (N := some 12) (v := ?_) (a' := ?_) #[true, true, true, true, false, true, true, true, false, false, false, true, false, false, true, false, false, false, false, false, false] rfl rfl (take_ofW HT_.out HW_.out (by kernel_rfl)) (fun _ _ _ h => h) (Or.inl ⟨by rfl, ?_⟩) hHeld ?_ ?_
 rotate_left
 ·
  rintro w' ⟨s0, s1, s2, s3, s4, s5⟩
  go_simp
  with_reducible rfl
 rotate_left
 ·
  simp only [Act.put, lt1_, lt2_, lt3_, i64_w, i32_w]
  rfl
 refine pure_ (i := 8) (N := some 13) (v := ?_) (a' := ?_) #[true, true, true, true, false, true, true, true, true, false, false, true, false, false, true, false, false, false, false, false, false] rfl rfl (any_of HT_.out (by kernel_rfl)) (fun _ _ _ h => h) (Or.inl ⟨by rfl, ?_⟩) ?_ ?_
 rotate_left
 ·
  intro w'
  go_simp
  with_reducible rfl
 rotate_left
 ·
  simp only [Act.put, lt1_, lt2_, lt3_, i64_w, i32_w]
  rfl
 refine take_ (i := 12) (N := some 17) (v := ?_) (a' := ?_) #[true, true, true, true, false, true, true, true, true, false, false, true, true, false, true, false, false, false, false, false, false] rfl rfl (take_ofW HT_.out HW_.out (by kernel_rfl)) (fun _ _ _ h => h) (Or.inl ⟨by rfl, ?_⟩) hHeld ?_ ?_
 rotate_left
 ·
  rintro w' ⟨s0, s1, s2, s3, s4, s5⟩
  go_simp
  with_reducible rfl
 rotate_left
 ·
  simp only [Act.put, lt1_, lt2_, lt3_, i64_w, i32_w]
  rfl
 refine pure_ (i := 13) (N := some 18) (v := ?_) (a' := ?_) #[true, true, true, true, false, true, true, true, true, false, false, true, true, true, true, false, false, false, false, false, false] rfl rfl (any_of HT_.out (by kernel_rfl)) (fun _ _ _ h => h) (Or.inl ⟨by rfl, ?_⟩) ?_ ?_
 rotate_left
 ·
  intro w'
  go_simp
  with_reducible rfl
 rotate_left
 ·
  simp only [Act.put, lt1_, lt2_, lt3_, i64_w, i32_w]
  rfl
 refine take_ (i := 15) (N := some 20) (v := ?_) (a' := ?_) #[true, true, true, true, false, true, true, true, true, false, false, true, true, true, true, true, false, false, false, false, false] rfl rfl (take_ofW HT_.out HW_.out (by kernel_rfl)) (fun _ _ _ h => h) (Or.inl ⟨by rfl, ?_⟩) hHeld ?_ ?_
 rotate_left
 ·
  rintro w' ⟨s0, s1, s2, s3, s4, s5⟩
  go_simp
  with_reducible rfl
 rotate_left
 ·
  simp only [Act.put, lt1_, lt2_, lt3_, i64_w, i32_w]
  rfl
 refine pure_ (i := 16) (N := some 21) (v := ?_) (a' := ?_) #[true, true, true, true, false, true, true, true, true, false, false, true, true, true, true, true, true, false, false, false, false] rfl rfl (any_of HT_.out (by kernel_rfl)) (fun _ _ _ h => h) (Or.inl ⟨by rfl, ?_⟩) ?_ ?_
 rotate_left
 ·
  intro w'
  go_simp
  with_reducible rfl
 rotate_left
 ·
  simp only [Act.put, lt1_, lt2_, lt3_, i64_w, i32_w]
  rfl
 refine one_ (i := 4) (N := some 9) #[true, true, true, true, true, true, true, true, true, false, false, true, true, true, true, true, true, false, false, false, false] rfl rfl (one_of HT_.out (by kernel_rfl)) (by decide) (fun K hK => ?_)
 refine goes_ Try.func28 (by kernel_rfl) rfl #[.agg #[.int .i64 a0_0, .int .i64 a0_1, .slice A0_2 l0_2.length c0_2], .int .i64 (l0_2.length : Int)] (by rfl) rfl rfl au_ ?_
 with_reducible refine (replica_Node_end.calls a0_0 a0_1 _ _ l0_2 (l0_2.length : Int) t119 _ ?side1 ?side2 A3.out).mono ?_
 (case side1 => repeat (first | exact (Kd.C_below HR0_2.out HB.out) | (with_reducible refine Kd.C_alloc ?_ _) | (with_reducible refine Kd.C_drewN ?_ _) | (with_reducible refine Kd.C_drew ?_)))
 (case side2 => exact HC0_2.out)
 rintro e w11 ⟨rfl, hb⟩
 refine ⟨_, rfl, ?_⟩
 have n0_ := am_ (bw_ (g := gb117) (o := .cells #[.int .i64 a0_0, .int .i64 a0_1, .slice A0_2 l0_2.length c0_2] 35 (0, 0)) (pk_ BK117.out) hb)
 have n1_ := am_ (bw_ (g := gb118) (o := .cells #[.int .i64 a1_0, .int .i64 a1_1, .slice A1_2 l1_2.length c1_2] 35 (0, 0)) (pk_ BK118.out) hb)
 have n2_ := am_ (sp_ (pb2_ HB.out GE117.out GE118.out) hb)
 clear BK117
 clear BK118
 clear HB
 have BK117 := n0_
 have BK118 := n1_
 have HB := n2_
 clear n0_ n1_ n2_
 (try clear hb)
 (try clear hb2)
 (try clear hk)
 (try clear hi)
 refine hK.out _ _ ⟨(bc_ BK117.out 0).trans rfl, (bc_ BK117.out 1).trans rfl, (bc_ BK117.out 2).trans rfl, (bc_ BK118.out 0).trans rfl, (bc_ BK118.out 1).trans rfl, (bc_ BK118.out 2).trans rfl⟩ (fun hHeld => ?_)
 clear hK K
 refine norm_ (a' := ?_) ?_ ?_
 rotate_left
 ·
  show Act.put _ (some 9) _ = _
  simp only [Act.put, lt1_, lt2_, lt3_, i64_w, i32_w]
  rfl
 refine one_ (i := 9) (N := some 14) #[true, true, true, true, true, true, true, true, true, true, false, true, true, true, true, true, true, false, false, false, false] rfl rfl (one_of HT_.out (by kernel_rfl)) (by decide) (fun K hK => ?_)
 refine goes_ Try.func28 (by kernel_rfl) rfl #[.agg #[.int .i64 a1_0, .int .i64 a1_1, .slice A1_2 l1_2.length c1_2], .int .i64 (l1_2.length : Int)] (by rfl) rfl rfl au_ ?_
 with_reducible refine (replica_Node_end.calls a1_0 a1_1 _ _ l1_2 (l1_2.length : Int) t120 _ ?side1 ?side2 A4.out).mono ?_
 (case side1 => repeat (first | exact (Kd.C_below HR1_2.out HB.out) | (with_reducible refine Kd.C_alloc ?_ _) | (with_reducible refine Kd.C_drewN ?_ _) | (with_reducible refine Kd.C_drew ?_)))
 (case side2 => exact HC1_2.out)
 rintro e w12 ⟨rfl, hb⟩
 refine ⟨_, rfl, ?_⟩
 have n0_ := am_ (bw_ (g := gb117) (o := .cells #[.int .i64 a0_0, .int .i64 a0_1, .slice A0_2 l0_2.length c0_2] 35 (0, 0)) (pk_ BK117.out) hb)
 have n1_ := am_ (bw_ (g := gb118) (o := .cells #[.int .i64 a1_0, .int .i64 a1_1, .slice A1_2 l1_2.length c1_2] 35 (0, 0)) (pk_ BK118.out) hb)
 have n2_ := am_ (sp_ (pb2_ HB.out GE117.out GE118.out) hb)
 clear BK117
 clear BK118
 clear HB
 have BK117 := n0_
 have BK118 := n1_
 have HB := n2_
 clear n0_ n1_ n2_
 (try clear hb)
 (try clear hb2)
 (try clear hk)
 (try clear hi)
 refine hK.out _ _ ⟨(bc_ BK117.out 0).trans rfl, (bc_ BK117.out 1).trans rfl, (bc_ BK117.out 2).trans rfl, (bc_ BK118.out 0).trans rfl, (bc_ BK118.out 1).trans rfl, (bc_ BK118.out 2).trans rfl⟩ (fun hHeld => ?_)
 clear hK K
 refine norm_ (a' := ?_) ?_ ?_
 rotate_left
 ·
  show Act.put _ (some 14) _ = _
  simp only [Act.put, lt1_, lt2_, lt3_, i64_w, i32_w]
  rfl
 refine one_ (i := 10) (N := some 15) #[true, true, true, true, true, true, true, true, true, true, true, true, true, true, true, true, true, false, false, false, false] rfl rfl (one_of HT_.out (by kernel_rfl)) (by decide) (fun K hK => ?_)
 refine goes_ Try.func53 (by kernel_rfl) rfl #[.int .i64 t119, .int .i64 t120] (by rfl) rfl rfl au_ ?_
 with_reducible refine (cmp_Compare_int.calls t119 t120 t121 _ A5.out).mono ?_
 rintro e w' ⟨rfl, ⟨nd, rfl⟩⟩
 refine ⟨_, rfl, ?_⟩
 refine hK.out _ _ ⟨(bc_ BK117.out 0).trans rfl, (bc_ BK117.out 1).trans rfl, (bc_ BK117.out 2).trans rfl, (bc_ BK118.out 0).trans rfl, (bc_ BK118.out 1).trans rfl, (bc_ BK118.out 2).trans rfl⟩ (fun hHeld => ?_)
 clear hK K
 refine norm_ (a' := ?_) ?_ ?_
 rotate_left
 ·
  show Act.put _ (some 15) _ = _
  simp only [Act.put, lt1_, lt2_, lt3_, i64_w, i32_w]
  rfl
 refine one_ (i := 17) (N := some 22) #[true, true, true, true, true, true, true, true, true, true, true, true, true, true, true, true, true, true, false, false, false] rfl rfl (one_of HT_.out (by kernel_rfl)) (by decide) (fun K hK => ?_)
 refine goes_ Try.func53 (by kernel_rfl) rfl #[.int .i64 (l0_2.length : Int), .int .i64 (l1_2.length : Int)] (by rfl) rfl rfl au_ ?_
 with_reducible refine (cmp_Compare_int.calls (l0_2.length : Int) (l1_2.length : Int) t122 _ A6.out).mono ?_
 rintro e w' ⟨rfl, ⟨nd, rfl⟩⟩
 refine ⟨_, rfl, ?_⟩
 refine hK.out _ _ ⟨(bc_ BK117.out 0).trans rfl, (bc_ BK117.out 1).trans rfl, (bc_ BK117.out 2).trans rfl, (bc_ BK118.out 0).trans rfl, (bc_ BK118.out 1).trans rfl, (bc_ BK118.out 2).trans rfl⟩ (fun hHeld => ?_)
 clear hK K
 refine norm_ (a' := ?_) ?_ ?_
 rotate_left
 ·
  show Act.put _ (some 22) _ = _
  simp only [Act.put, lt1_, lt2_, lt3_, i64_w, i32_w]
  rfl
 refine one_ (i := 18) (N := some 23) #[true, true, true, true, true, true, true, true, true, true, true, true, true, true, true, true, true, true, true, false, false] rfl rfl (one_of HT_.out (by kernel_rfl)) (by decide) (fun K hK => ?_)
 refine Kd.R_lit_step (Kd.int .i64) _ 3 ?hg (N := 23) ?hd (xs := ([t121, t122] : List Int)) (inner := [.int .i64 t121, .int .i64 t122]) (ok := fun _ => True) (okp := fun _ => True) ?hr ?hp (fun _ hk => hk) trivial (Below.refl _ _) (Nat.le_refl _) (by simp) ?_; (case hd => rfl); (case hg => rfl); (case hr => first | (go_simp; done) | (go_simp; rfl)); (case hp => exact (Reps.one (show Kd.M (Kd.int .i64) _ _ _ t121 [.int .i64 t121] from rfl) (Reps.one (show Kd.M (Kd.int .i64) _ _ _ t122 [.int .i64 t122] from rfl) (Reps.none _ _))))
 intro v124 w13 ho14 hb hg_ hnew_
 clear hg_ hnew_
 (first | rw [← Ny123.out] at ho14 | (simp only [Int.reduceToNat] at ho14; rw [← Ny123.out] at ho14))
 have n0_ := am_ (Kd.R_lower ho14 (bz_ (pb2_ HB.out GE117.out GE118.out)))
 have n1_ := am_ (bw_ (g := gb117) (o := .cells #[.int .i64 a0_0, .int .i64 a0_1, .slice A0_2 l0_2.length c0_2] 35 (0, 0)) (pk_ BK117.out) hb)
 have n2_ := am_ (bw_ (g := gb118) (o := .cells #[.int .i64 a1_0, .int .i64 a1_1, .slice A1_2 l1_2.length c1_2] 35 (0, 0)) (pk_ BK118.out) hb)
 have n3_ := am_ (sp_ (pb2_ HB.out GE117.out GE118.out) hb)
 clear BK117
 clear BK118
 clear HB
 have HO125 := n0_
 have BK117 := n1_
 have BK118 := n2_
 have HB := n3_
 clear n0_ n1_ n2_ n3_
 clear hb ho14
 obtain ⟨Ao15, co15, eo15⟩ := Kd.R_slice HO125.out
 (first | subst eo15 | (injection eo15 with f1_ f2_ f3_; have f4_ := f1_.symm; have f5_ := f3_.symm; clear f1_ f2_ f3_; subst f4_; subst f5_))
 refine hK.out _ _ ⟨(bc_ BK117.out 0).trans rfl, (bc_ BK117.out 1).trans rfl, (bc_ BK117.out 2).trans rfl, (bc_ BK118.out 0).trans rfl, (bc_ BK118.out 1).trans rfl, (bc_ BK118.out 2).trans rfl⟩ (fun hHeld => ?_)
 clear hK K
 refine norm_ (a' := ?_) ?_ ?_
 rotate_left
 ·
  show Act.put _ (some 23) _ = _
  simp only [Act.put, lt1_, lt2_, lt3_, i64_w, i32_w]
  rfl
 refine one_ (i := 19) (N := some 24) #[true, true, true, true, true, true, true, true, true, true, true, true, true, true, true, true, true, true, true, true, false] rfl rfl (one_of HT_.out (by kernel_rfl)) (by decide) (fun K hK => ?_)
 refine goes_ Try.func52 (by kernel_rfl) rfl #[.slice Ao15 y123.length co15] (by rfl) rfl rfl au_ ?_
 with_reducible refine (cmp_Or_int.calls k _ _ y123 t126 _ ?side1 ?side2 A7.out).mono ?_
 (case side1 => repeat (first | exact (Kd.R_reads' HO125.out).2.2 | (with_reducible refine Kd.C_alloc ?_ _) | (with_reducible refine Kd.C_drewN ?_ _) | (with_reducible refine Kd.C_drew ?_)))
 (case side2 => exact (Kd.R_reads' HO125.out).2.1)
 rintro e w' ⟨rfl, ⟨nd, rfl⟩⟩
 refine ⟨_, rfl, ?_⟩
 refine hK.out _ _ ⟨(bc_ BK117.out 0).trans rfl, (bc_ BK117.out 1).trans rfl, (bc_ BK117.out 2).trans rfl, (bc_ BK118.out 0).trans rfl, (bc_ BK118.out 1).trans rfl, (bc_ BK118.out 2).trans rfl⟩ (fun hHeld => ?_)
 clear hK K
 refine norm_ (a' := ?_) ?_ ?_
 rotate_left
 ·
  show Act.put _ (some 24) _ = _
  simp only [Act.put, lt1_, lt2_, lt3_, i64_w, i32_w]
  rfl
 refine pure_ (i := 20) (N := some 4) (v := ?_) (a' := ?_) #[true, true, true, true, true, true, true, true, true, true, true, true, true, true, true, true, true, true, true, true, true] rfl rfl (any_of HT_.out (by kernel_rfl)) (fun _ _ _ h => h) (Or.inl ⟨by rfl, ?_⟩) ?_ ?_
 rotate_left
 ·
  intro w'
  go_simp
  with_reducible rfl
 rotate_left
 ·
  simp only [Act.put, lt1_, lt2_, lt3_, i64_w, i32_w]
  rfl
 refine done_ (done_of HT_.out (by kernel_rfl)) ?_
 try go_wp2
 go_ret
 exact ⟨by first | rfl | (simp [errW_none, errW_some] <;> rfl) | (simp [*, errW_none, errW_some] <;> rfl), pb2_ HB.out GE117.out GE118.out⟩
end Go.Proofs.Ytbigcpjlahkggaa.Q
end
section
namespace Go.Proofs.Ytbigcpjlahkggaa.Q
open Go.RowKit Go.Proofs.YtbigcpjlahkggaaW.PrintWords Go.Proofs.YtbigcpjlahkggaaW.PrintLast Go.Proofs.YtbigcpjlahkggaaW.PrintMore
attribute [local go_sem] max2_int min2_int max_two min_two max_three min_three max_four min_four
attribute [local go_sem ↓] isSome_setCell
attribute [local go_sem] string_gtr
set_option linter.unusedVariables false
set_option linter.unusedSimpArgs false
theorem clone_info : (Try.prog.info? 5).map (fun i => (i.zero, i.size, i.bytes)) = some (some (.int .u8 0), 1, 1) := by kernel_rfl
def slices_Clone_byte_byte.f (l0 : List Int) : Option (List Int) := if l0.length ≤ 140737488355328 then some l0 else none
theorem bytes_cells {w : World} {A : Option Addr} {xs : List Int} (h : Kd.C (Kd.int .u8) w A xs.length xs) (hp : 0 < xs.length) : ∃ ad, A = some ad ∧ ∀ (j : Nat) u, (nums .u8 xs)[j]? = some u → w.cell? (ad.add j) = some u := by
 obtain ⟨ad, e, hc⟩ := h.2.2 hp
 refine ⟨ad, e, fun j u hu => ?_⟩
 unfold nums at hu
 rw [List.getElem?_map] at hu
 obtain ⟨x, hx, rfl⟩ := Option.map_eq_some_iff.1 hu
 obtain ⟨c, hl, hk, hcell⟩ := hc j x hx
 obtain rfl : c = [.int .u8 x] := hk
 have := hcell 0 (.int .u8 x) rfl
 rw [show (Kd.int .u8).sz = 1 from rfl, Nat.mul_one, Nat.add_zero] at this
 exact this
set_option maxHeartbeats 2000000 in
set_option maxRecDepth 100000 in
theorem clone_some (a : Addr) (c : Nat) (xs : List Int) (w : World) (hbig : xs.length ≤ 140737488355328) (hc : ∀ (j : Nat) u, (nums .u8 xs)[j]? = some u → w.cell? (a.add j) = some u) :
  Calls Try.prog 34 #[.slice (some a) xs.length c] w fun e w' => ∃ v', e = .returned v' ∧ w'.ownsRow w.heap.size 5 1 v' xs.length (nums .u8 xs) ∧ Below w.heap.size w w' := by
 obtain ⟨i0, hi, hz0, hz1, hz2⟩ := info_parts clone_info
 have q25 : ∀ (w : World) (a : Option Addr) (n c n' c' : Nat), (binOp .eql 25 (.slice a n c) (.slice none n' c')).run Try.prog w = .ok (.bool a.isNone) w := fun w a n c n' c' => Lib.run_eql_slice_nil w _ _ a n c n' c' Try.underlying25
 have HA := am_ hc
 have hlen : (nums .u8 xs).length = xs.length * 1 := by simp [nums]
 have HL := am_ hlen
 clear hc hlen
 go_enter Try.func34, Try.ntmps34
 go_wp2_with (at_builtin; refine wpList_append_own _ rfl _ _ 25 rfl w.heap.size 5 i0 (.int .u8 0) 1 1 Try.underlying25 hi hz0 hz1 hz2 rfl (by decide) _ _ _ rfl (World.ownsRow_made w #[] 0 (Nat.le_refl _) (Nat.zero_le _) (by simp)) a xs.length c (nums .u8 xs) rfl ?qc1 ?qc2 ?qc3 ?qc4 ?qc5 ?qc6 ?_)
 case qc1 => exact HL.out
 case qc2 =>
  intro j u hj
  exact Lib.cell?_alloc_some _ (HA.out j u hj)
 case qc3 =>
  intro u hu
  unfold nums at hu
  obtain ⟨x, _, rfl⟩ := List.mem_map.1 hu
  rfl
 case qc4 => rw [Nat.zero_add]; unfold maxLen; omega
 case qc5 => rw [Nat.zero_add]; omega
 case qc6 => simp
 intro v' w1 hown hgrow hnil
 go_wp2
 go_ret
 refine ⟨v', rfl, by simpa using hown, ?_⟩
 exact ((Below.refl _ w).alloc (Nat.le_refl _) _).grown hgrow (by simp) (by intro k hk; simp [Value.ownBlock] at hk; omega)
set_option maxHeartbeats 2000000 in
theorem clone_nil (n c : Nat) (w : World) : Calls Try.prog 34 #[.slice none n c] w fun e w' => e = .returned (.slice none 0 0) ∧ w' = w := by
 have q25 : ∀ (w : World) (a : Option Addr) (n c n' c' : Nat), (binOp .eql 25 (.slice a n c) (.slice none n' c')).run Try.prog w = .ok (.bool a.isNone) w := fun w a n c n' c' => Lib.run_eql_slice_nil w _ _ a n c n' c' Try.underlying25
 go_enter Try.func34, Try.ntmps34
 go_wp2
 go_ret
 exact ⟨rfl, rfl⟩
theorem slices_Clone_byte_byte.calls (P0_ : Nat → Prop) (A0 : Option Addr) (c0 : Nat) (l0 : List Int) (r : List Int) (w : World) (hs0 : Kd.V (Kd.int .u8) 5 w w.heap.size (fun k_ => P0_ k_) (.slice A0 l0.length c0) l0) (h : slices_Clone_byte_byte.f l0 = some r) :
  Calls Try.prog 34 #[.slice A0 l0.length c0] w fun e w' => ∃ v0_ : Value, e = .returned (v0_) ∧ Kd.V (Kd.int .u8) 5 w' w.heap.size (fun k_ => (P0_ k_ ∨ w.heap.size ≤ k_)) v0_ r ∧ Below w.heap.size w w' := by
 unfold slices_Clone_byte_byte.f at h
 split at h
 case isFalse => cases h
 rename_i hb
 obtain rfl := si_ h
 obtain ⟨_, _, hC⟩ := Kd.V_reads' hs0
 have fin : ∀ a, A0 = some a → (∀ (j : Nat) u, (nums .u8 l0)[j]? = some u → w.cell? (a.add j) = some u) → Calls Try.prog 34 #[.slice A0 l0.length c0] w fun e w' => ∃ v0_ : Value, e = .returned (v0_) ∧ Kd.V (Kd.int .u8) 5 w' w.heap.size (fun k_ => (P0_ k_ ∨ w.heap.size ≤ k_)) v0_ l0 ∧ Below w.heap.size w w' := by
  rintro a rfl hc
  refine (clone_some a c0 l0 w hb hc).mono ?_
  rintro e w' ⟨v', rfl, ho, hbl⟩
  refine ⟨v', rfl, ?_, hbl⟩
  have hR : (Kd.int .u8).R 5 w' w.heap.size (fun k_ => (P0_ k_ ∨ w.heap.size ≤ k_)) v' l0 := Kd.R_of_own ho (fun k hk => .inr (own_base ho k hk))
  exact Kd.R_V hR
 by_cases hp : 0 < l0.length
 ·
  obtain ⟨ad, e, hc⟩ := bytes_cells hC hp
  exact fin ad e hc
 ·
  obtain rfl : l0 = [] := List.length_eq_zero_iff.1 (by omega)
  cases A0 with
  | some a => exact fin a rfl (fun j u hu => by simp [nums] at hu)
  | none =>
   refine (clone_nil _ _ w).mono ?_
   rintro e w' ⟨rfl, rfl⟩
   exact ⟨_, rfl, Kd.V_nil _ _ _ _ _, Below.refl _ _⟩
end Go.Proofs.Ytbigcpjlahkggaa.Q
end
