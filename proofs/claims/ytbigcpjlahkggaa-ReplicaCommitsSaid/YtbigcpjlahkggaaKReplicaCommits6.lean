import Derived.Test.YtbigcpjlahkggaaKReplicaCommits5
set_option linter.unusedVariables false
set_option linter.unusedSimpArgs false
namespace Go.Proofs.Ytbigcpjlahkggaa.Q
open Go.RowKit Go.Proofs.YtbigcpjlahkggaaW.PrintWords Go.Proofs.YtbigcpjlahkggaaW.PrintLast Go.Proofs.YtbigcpjlahkggaaW.PrintMore
attribute [local go_sem] max2_int min2_int max_two min_two max_three min_three max_four min_four
attribute [local go_sem ↓] isSome_setCell
attribute [local go_sem] string_gtr
set_option linter.unusedVariables false
set_option linter.unusedSimpArgs false
def replica_Append.f (k : Nat) (a0_0 : Int) (a0_1 : Int) (l0_2 : List (S87)) (l1 : List Int) : Option (Int × Int × (List (S87)) × Int) := (replica_Node_valid.f k a0_0 a0_1 l0_2).bind fun t150 => (if t150 = true then (if a0_0 = 0 then (some (0, 0, ([] : List (S87)), 13)) else (if (l1.length : Int) > 65536 then (some (0, 0, ([] : List (S87)), 6)) else ((replica_copied.f k l0_2).bind fun t151 => ((slices_Clone_byte_byte.f l1).bind fun t154 => (if t151.length < 4398046511104 then (some (a0_0, a0_1, (t151 ++ [(⟨a0_0, t154⟩ : S87)]), 0)) else (none)))))) else (some (0, 0, ([] : List (S87)), 8)))
def replica_Append.T7 : Bool × List (List Nat × List Nat) := (true, [([], []), ([0], [0]), ([1], [1]), ([], []), ([3], [3]), ([], []), ([5, 2], [5]), ([4, 6], [4, 6]), ([7], [7]), ([2, 8, 6], [2, 8]), ([9, 9, 0, 1, 2, 3, 4, 5, 6, 7, 8, 9], [9])])
def replica_Append.B7 : List Nat := [0, 1, 3, 0, 8, 0, 39, 127, 255, 511, 1023]
theorem replica_Append.tab7 : rtab .any (opsOf Try.f13 7) = replica_Append.T7 := by kernel_rfl
theorem replica_Append.bits7 : waitsOk replica_Append.T7.2 replica_Append.B7 = true := by kernel_rfl
set_option maxHeartbeats 8000000 in
set_option maxRecDepth 100000 in
theorem replica_Append.calls (k : Nat) (a0_0 : Int) (a0_1 : Int) (P0_2_ : Nat → Prop) (A0_2 : Option Addr) (c0_2 : Nat) (l0_2 : List (S87)) (P1_ : Nat → Prop) (A1 : Option Addr) (c1 : Nat) (l1 : List Int) (r1 : Int) (r2 : Int) (r3 : List (S87)) (r4 : Int) (w : World) (hs0_2 : Kd.V k87 87 w w.heap.size (fun k_ => P0_2_ k_) (.slice A0_2 l0_2.length c0_2) l0_2) (hs1 : Kd.V (Kd.int .u8) 5 w w.heap.size (fun k_ => P1_ k_) (.slice A1 l1.length c1) l1) (h : replica_Append.f k a0_0 a0_1 l0_2 l1 = some (r1, r2, r3, r4)) :
  Calls Try.prog 13 #[.agg #[.int .i64 a0_0, .int .i64 a0_1, .slice A0_2 l0_2.length c0_2], .slice A1 l1.length c1] w fun e w' => ∃ v2_ : Value, e = .returned (.tuple #[.agg #[.int .i64 r1, .int .i64 r2, v2_], .int .i64 r4]) ∧ Kd.N k87 87 w' w.heap.size (fun k_ => ((P0_2_ k_ ∨ P1_ k_) ∨ w.heap.size ≤ k_)) v2_ r3 ∧ Below w.heap.size w w' := by
 have hu35 := Try.underlying35
 have hu87 := Try.underlying87
 have HO0_2 := am_ (show Kd.V k87 87 w w.heap.size (fun k_ => ((P0_2_ k_ ∨ P1_ k_) ∨ w.heap.size ≤ k_)) (.slice A0_2 l0_2.length c0_2) l0_2 from vm_ hs0_2 (fun k_ hk => .inl (.inl hk)))
 have HO1 := am_ (show Kd.V (Kd.int .u8) 5 w w.heap.size (fun k_ => ((P0_2_ k_ ∨ P1_ k_) ∨ w.heap.size ≤ k_)) (.slice A1 l1.length c1) l1 from vm_ hs1 (fun k_ hk => .inl (.inr hk)))
 have HB := am_ (Below.refl w.heap.size w)
 have H : ((replica_Node_valid.f k a0_0 a0_1 l0_2).bind fun t150 => (if t150 = true then (if a0_0 = 0 then (some (0, 0, ([] : List (S87)), 13)) else (if (l1.length : Int) > 65536 then (some (0, 0, ([] : List (S87)), 6)) else ((replica_copied.f k l0_2).bind fun t151 => ((slices_Clone_byte_byte.f l1).bind fun t154 => (if t151.length < 4398046511104 then (some (a0_0, a0_1, (t151 ++ [(⟨a0_0, t154⟩ : S87)]), 0)) else (none)))))) else (some (0, 0, ([] : List (S87)), 8)))) = some (r1, r2, r3, r4) := h
 clear h
 replace H := Option.bind_eq_some_iff.mp H
 obtain ⟨t150, A30, H⟩ := H
 replace H : (if t150 = true then (if a0_0 = 0 then (some (0, 0, ([] : List (S87)), 13)) else (if (l1.length : Int) > 65536 then (some (0, 0, ([] : List (S87)), 6)) else ((replica_copied.f k l0_2).bind fun t151 => ((slices_Clone_byte_byte.f l1).bind fun t154 => (if t151.length < 4398046511104 then (some (a0_0, a0_1, (t151 ++ [(⟨a0_0, t154⟩ : S87)]), 0)) else (none)))))) else (some (0, 0, ([] : List (S87)), 8))) = some (r1, r2, r3, r4) := H
 have A3 := am_ A30
 clear A30
 by_cases c4 : t150 = true
 ·
  subst c4
  have H1 : (if a0_0 = 0 then (some (0, 0, ([] : List (S87)), 13)) else (if (l1.length : Int) > 65536 then (some (0, 0, ([] : List (S87)), 6)) else ((replica_copied.f k l0_2).bind fun t151 => ((slices_Clone_byte_byte.f l1).bind fun t154 => (if t151.length < 4398046511104 then (some (a0_0, a0_1, (t151 ++ [(⟨a0_0, t154⟩ : S87)]), 0)) else (none)))))) = some (r1, r2, r3, r4) := by rw [if_pos rfl] at H; exact H
  clear H
  have H := H1
  clear H1
  by_cases c5 : a0_0 = 0
  ·
   rw [if_pos c5] at H
   have c5b0 : (a0_0 == 0) = true := beq_iff_eq.mpr c5
   have c5b1 : (a0_0 != 0) = false := bne_eq_false_iff_eq.mpr c5
   clear c5
   simp only [Option.some.injEq, Prod.mk.injEq] at H
   obtain ⟨rfl, rfl, rfl, rfl⟩ := H
   go_enter Try.func13, Try.ntmps13
   go_wp2_with (first | ((with_reducible refine gate_dst (N := 2) rfl ?_); refine box_event ?hg (N := 2) ?hd (cs := #[.int .i64 a0_0, .int .i64 a0_1, .slice A0_2 l0_2.length c0_2]) (t := 35) ?hr ?_; (case hd => rfl); (case hg => rfl); (case hr => first | (go_simp; done) | (go_simp; rfl)); intro gb148 hg w6 hbox hb; have n0_ := am_ (vb_ (Kd.V_elderB (pV_ HO0_2.out) gb148 (le_ hg.symm)) hb); have n1_ := am_ (vb_ (Kd.V_elderB (pV_ HO1.out) gb148 (le_ hg.symm)) hb); have n2_ := am_ (sp_ (pb0_ HB.out) hb); have n3_ := am_ (hbox); have n4_ := am_ ((by rw [hg]; exact (bz_ (pb0_ HB.out)) : w.heap.size ≤ gb148)); have n5_ := am_ ((by rw [hg]; exact (bz_ (pb0_ HB.out)) : w.heap.size ≤ gb148)); clear HO0_2; clear HO1; clear HB; have HO0_2 := n0_; have HO1 := n1_; have HB := n2_; have BK148 := n3_; have GW148 := n4_; have GE148 := n5_; clear n0_ n1_ n2_ n3_ n4_ n5_; clear hb hbox hg) | ((with_reducible refine gate_dst (N := 4) rfl ?_); refine box_event ?hg (N := 4) ?hd (cs := #[.int .i64 0, .int .i64 0, .slice none 0 0]) (t := 35) ?hr ?_; (case hd => rfl); (case hg => rfl); (case hr => first | (go_simp; done) | (go_simp; rfl)); intro gb149 hg w7 hbox hb; have n0_ := am_ (vb_ (Kd.V_elderB (pV_ HO0_2.out) gb149 (le_ hg.symm)) hb); have n1_ := am_ (vb_ (Kd.V_elderB (pV_ HO1.out) gb149 (le_ hg.symm)) hb); have n2_ := am_ (bw_ (g := gb148) (o := .cells #[.int .i64 a0_0, .int .i64 a0_1, .slice A0_2 l0_2.length c0_2] 35 (0, 0)) (pk_ BK148.out) hb); have n3_ := am_ (sp_ (pb1_ HB.out GE148.out) hb); have n4_ := am_ (hbox); have n5_ := am_ ((by rw [hg]; exact (bz_ (pb1_ HB.out GE148.out)) : w.heap.size ≤ gb149)); have n6_ := am_ ((by rw [hg]; exact (bz_ (pb1_ HB.out GE148.out)) : w.heap.size ≤ gb149)); have n7_ := am_ ((by rw [hg]; exact Nat.ne_of_lt (blk_lt (g := gb148) (o := .cells #[.int .i64 a0_0, .int .i64 a0_1, .slice A0_2 l0_2.length c0_2] 35 (0, 0)) (pk_ BK148.out)) : gb148 ≠ gb149)); have n8_ := am_ ((by rw [hg]; exact Nat.ne_of_gt (blk_lt (g := gb148) (o := .cells #[.int .i64 a0_0, .int .i64 a0_1, .slice A0_2 l0_2.length c0_2] 35 (0, 0)) (pk_ BK148.out)) : gb149 ≠ gb148)); clear HO0_2; clear HO1; clear BK148; clear HB; have HO0_2 := n0_; have HO1 := n1_; have BK148 := n2_; have HB := n3_; have BK149 := n4_; have GW149 := n5_; have GE149 := n6_; have NB148_149 := n7_; have NB149_148 := n8_; clear n0_ n1_ n2_ n3_ n4_ n5_ n6_ n7_ n8_; clear hb hbox hg; have hnb8 := NB148_149.out; have hnc8 := NB149_148.out; have hcz9_0 : w7.cell? ⟨gb148, 0, none⟩ = some (.int .i64 a0_0) := (bc_ BK148.out 0).trans rfl; have hcz9_1 : w7.cell? ⟨gb148, 1, none⟩ = some (.int .i64 a0_1) := (bc_ BK148.out 1).trans rfl; have hcz9_2 : w7.cell? ⟨gb148, 2, none⟩ = some (.slice A0_2 l0_2.length c0_2) := (bc_ BK148.out 2).trans rfl; have hfz9_0 := bf_ BK148.out 0; have hfz9_1 := bf_ BK148.out 1; have hfz9_2 := bf_ BK148.out 2) | ((with_reducible refine gate_callee (f := 27) rfl ?_); refine goesL_ (some 9) rfl rfl Try.func27 (by kernel_rfl) rfl #[.agg #[.int .i64 a0_0, .int .i64 a0_1, .slice A0_2 l0_2.length c0_2]] rfl au_ ?_; (with_reducible refine (replica_Node_valid.calls k a0_0 a0_1 _ _ l0_2 true _ ?side1 ?side2 A3.out).mono ?_); (case side1 => repeat (first | exact (Kd.V_reads' HO0_2.out).2.2 | (with_reducible refine Kd.C_alloc ?_ _) | (with_reducible refine Kd.C_drewN ?_ _) | (with_reducible refine Kd.C_drew ?_))); (case side2 => exact (Kd.V_reads' HO0_2.out).2.1); rintro e w10 ⟨rfl, hb⟩; refine ⟨_, rfl, ?_⟩; have n0_ := am_ (vb_ (pV_ HO0_2.out) hb); have n1_ := am_ (vb_ (pV_ HO1.out) hb); have n2_ := am_ (bw_ (g := gb148) (o := .cells #[.int .i64 a0_0, .int .i64 a0_1, .slice A0_2 l0_2.length c0_2] 35 (0, 0)) (pk_ BK148.out) hb); have n3_ := am_ (bw_ (g := gb149) (o := .cells #[.int .i64 0, .int .i64 0, .slice none 0 0] 35 (0, 0)) (pk_ BK149.out) hb); have n4_ := am_ (sp_ (pb2_ HB.out GE148.out GE149.out) hb); clear HO0_2; clear HO1; clear BK148; clear BK149; clear HB; have HO0_2 := n0_; have HO1 := n1_; have BK148 := n2_; have BK149 := n3_; have HB := n4_; clear n0_ n1_ n2_ n3_ n4_; (try clear hb); (try clear hb2); (try clear hk); (try clear hi); have hcz11_0 : w10.cell? ⟨gb148, 0, none⟩ = some (.int .i64 a0_0) := (bc_ BK148.out 0).trans rfl; have hcz11_1 : w10.cell? ⟨gb148, 1, none⟩ = some (.int .i64 a0_1) := (bc_ BK148.out 1).trans rfl; have hcz11_2 : w10.cell? ⟨gb148, 2, none⟩ = some (.slice A0_2 l0_2.length c0_2) := (bc_ BK148.out 2).trans rfl; have hfz11_0 := bf_ BK148.out 0; have hfz11_1 := bf_ BK148.out 1; have hfz11_2 := bf_ BK148.out 2; have hcz12_0 : w10.cell? ⟨gb149, 0, none⟩ = some (.int .i64 0) := (bc_ BK149.out 0).trans rfl; have hcz12_1 : w10.cell? ⟨gb149, 1, none⟩ = some (.int .i64 0) := (bc_ BK149.out 1).trans rfl; have hcz12_2 : w10.cell? ⟨gb149, 2, none⟩ = some (.slice none 0 0) := (bc_ BK149.out 2).trans rfl; have hfz12_0 := bf_ BK149.out 0; have hfz12_1 := bf_ BK149.out 1; have hfz12_2 := bf_ BK149.out 2))
   refine bodyPost_ret (results_ct rfl _ _ gb149 35 #[.int .i64 0, .int .i64 0, .slice none 0 0] (0, 0) _ rfl (by (with_reducible repeat (first | refine bn_ ?_ _ | refine bd_ ?_ | refine ba_ ?_ _)); refine blk_put (cs := #[.int .i64 0, .int .i64 0, .slice none 0 0]) ?_ 2 _ rfl; (with_reducible repeat (first | refine bn_ ?_ _ | refine bd_ ?_ | refine ba_ ?_ _)); refine blk_put (cs := #[.int .i64 0, .int .i64 0, .slice none 0 0]) ?_ 1 _ rfl; (with_reducible repeat (first | refine bn_ ?_ _ | refine bd_ ?_ | refine ba_ ?_ _)); refine blk_put (cs := #[.int .i64 0, .int .i64 0, .slice none 0 0]) ?_ 0 _ rfl; (with_reducible repeat (first | refine bn_ ?_ _ | refine bd_ ?_ | refine ba_ ?_ _)); exact BK149.out) Try.underlying35 rfl (by kernel_rfl)) rfl ?_
   exact ⟨_, by first | rfl | (simp [errW_none, errW_some] <;> rfl) | (simp [*, errW_none, errW_some] <;> rfl), by first | exact Kd.S_nil _ _ _ _ _ | exact Kd.N_nil _ _ _ _ _ | exact Kd.V_nil _ _ _ _ _ | exact Kd.Q_nil _ _ _ _ _ | exact Kd.R_nil _ _ _ _ _, pb2_ HB.out GE148.out GE149.out⟩
  ·
   rw [if_neg c5] at H
   have c5b0 : (a0_0 == 0) = false := beq_eq_false_iff_ne.mpr c5
   have c5b1 : (a0_0 != 0) = true := bne_iff_ne.mpr c5
   by_cases c13 : (l1.length : Int) > 65536
   ·
    rw [if_pos c13] at H
    have c13b0 : decide (65536 < (l1.length : Int)) = true := de_ c13
    have c13b1 : decide (65536 < l1.length) = true := de_ (by omega)
    clear c13
    simp only [Option.some.injEq, Prod.mk.injEq] at H
    obtain ⟨rfl, rfl, rfl, rfl⟩ := H
    go_enter Try.func13, Try.ntmps13
    go_wp2_with (first | ((with_reducible refine gate_dst (N := 2) rfl ?_); refine box_event ?hg (N := 2) ?hd (cs := #[.int .i64 a0_0, .int .i64 a0_1, .slice A0_2 l0_2.length c0_2]) (t := 35) ?hr ?_; (case hd => rfl); (case hg => rfl); (case hr => first | (go_simp; done) | (go_simp; rfl)); intro gb148 hg w14 hbox hb; have n0_ := am_ (vb_ (Kd.V_elderB (pV_ HO0_2.out) gb148 (le_ hg.symm)) hb); have n1_ := am_ (vb_ (Kd.V_elderB (pV_ HO1.out) gb148 (le_ hg.symm)) hb); have n2_ := am_ (sp_ (pb0_ HB.out) hb); have n3_ := am_ (hbox); have n4_ := am_ ((by rw [hg]; exact (bz_ (pb0_ HB.out)) : w.heap.size ≤ gb148)); have n5_ := am_ ((by rw [hg]; exact (bz_ (pb0_ HB.out)) : w.heap.size ≤ gb148)); clear HO0_2; clear HO1; clear HB; have HO0_2 := n0_; have HO1 := n1_; have HB := n2_; have BK148 := n3_; have GW148 := n4_; have GE148 := n5_; clear n0_ n1_ n2_ n3_ n4_ n5_; clear hb hbox hg) | ((with_reducible refine gate_dst (N := 4) rfl ?_); refine box_event ?hg (N := 4) ?hd (cs := #[.int .i64 0, .int .i64 0, .slice none 0 0]) (t := 35) ?hr ?_; (case hd => rfl); (case hg => rfl); (case hr => first | (go_simp; done) | (go_simp; rfl)); intro gb149 hg w15 hbox hb; have n0_ := am_ (vb_ (Kd.V_elderB (pV_ HO0_2.out) gb149 (le_ hg.symm)) hb); have n1_ := am_ (vb_ (Kd.V_elderB (pV_ HO1.out) gb149 (le_ hg.symm)) hb); have n2_ := am_ (bw_ (g := gb148) (o := .cells #[.int .i64 a0_0, .int .i64 a0_1, .slice A0_2 l0_2.length c0_2] 35 (0, 0)) (pk_ BK148.out) hb); have n3_ := am_ (sp_ (pb1_ HB.out GE148.out) hb); have n4_ := am_ (hbox); have n5_ := am_ ((by rw [hg]; exact (bz_ (pb1_ HB.out GE148.out)) : w.heap.size ≤ gb149)); have n6_ := am_ ((by rw [hg]; exact (bz_ (pb1_ HB.out GE148.out)) : w.heap.size ≤ gb149)); have n7_ := am_ ((by rw [hg]; exact Nat.ne_of_lt (blk_lt (g := gb148) (o := .cells #[.int .i64 a0_0, .int .i64 a0_1, .slice A0_2 l0_2.length c0_2] 35 (0, 0)) (pk_ BK148.out)) : gb148 ≠ gb149)); have n8_ := am_ ((by rw [hg]; exact Nat.ne_of_gt (blk_lt (g := gb148) (o := .cells #[.int .i64 a0_0, .int .i64 a0_1, .slice A0_2 l0_2.length c0_2] 35 (0, 0)) (pk_ BK148.out)) : gb149 ≠ gb148)); clear HO0_2; clear HO1; clear BK148; clear HB; have HO0_2 := n0_; have HO1 := n1_; have BK148 := n2_; have HB := n3_; have BK149 := n4_; have GW149 := n5_; have GE149 := n6_; have NB148_149 := n7_; have NB149_148 := n8_; clear n0_ n1_ n2_ n3_ n4_ n5_ n6_ n7_ n8_; clear hb hbox hg; have hnb16 := NB148_149.out; have hnc16 := NB149_148.out; have hcz17_0 : w15.cell? ⟨gb148, 0, none⟩ = some (.int .i64 a0_0) := (bc_ BK148.out 0).trans rfl; have hcz17_1 : w15.cell? ⟨gb148, 1, none⟩ = some (.int .i64 a0_1) := (bc_ BK148.out 1).trans rfl; have hcz17_2 : w15.cell? ⟨gb148, 2, none⟩ = some (.slice A0_2 l0_2.length c0_2) := (bc_ BK148.out 2).trans rfl; have hfz17_0 := bf_ BK148.out 0; have hfz17_1 := bf_ BK148.out 1; have hfz17_2 := bf_ BK148.out 2) | ((with_reducible refine gate_callee (f := 27) rfl ?_); refine goesL_ (some 9) rfl rfl Try.func27 (by kernel_rfl) rfl #[.agg #[.int .i64 a0_0, .int .i64 a0_1, .slice A0_2 l0_2.length c0_2]] rfl au_ ?_; (with_reducible refine (replica_Node_valid.calls k a0_0 a0_1 _ _ l0_2 true _ ?side1 ?side2 A3.out).mono ?_); (case side1 => repeat (first | exact (Kd.V_reads' HO0_2.out).2.2 | (with_reducible refine Kd.C_alloc ?_ _) | (with_reducible refine Kd.C_drewN ?_ _) | (with_reducible refine Kd.C_drew ?_))); (case side2 => exact (Kd.V_reads' HO0_2.out).2.1); rintro e w18 ⟨rfl, hb⟩; refine ⟨_, rfl, ?_⟩; have n0_ := am_ (vb_ (pV_ HO0_2.out) hb); have n1_ := am_ (vb_ (pV_ HO1.out) hb); have n2_ := am_ (bw_ (g := gb148) (o := .cells #[.int .i64 a0_0, .int .i64 a0_1, .slice A0_2 l0_2.length c0_2] 35 (0, 0)) (pk_ BK148.out) hb); have n3_ := am_ (bw_ (g := gb149) (o := .cells #[.int .i64 0, .int .i64 0, .slice none 0 0] 35 (0, 0)) (pk_ BK149.out) hb); have n4_ := am_ (sp_ (pb2_ HB.out GE148.out GE149.out) hb); clear HO0_2; clear HO1; clear BK148; clear BK149; clear HB; have HO0_2 := n0_; have HO1 := n1_; have BK148 := n2_; have BK149 := n3_; have HB := n4_; clear n0_ n1_ n2_ n3_ n4_; (try clear hb); (try clear hb2); (try clear hk); (try clear hi); have hcz19_0 : w18.cell? ⟨gb148, 0, none⟩ = some (.int .i64 a0_0) := (bc_ BK148.out 0).trans rfl; have hcz19_1 : w18.cell? ⟨gb148, 1, none⟩ = some (.int .i64 a0_1) := (bc_ BK148.out 1).trans rfl; have hcz19_2 : w18.cell? ⟨gb148, 2, none⟩ = some (.slice A0_2 l0_2.length c0_2) := (bc_ BK148.out 2).trans rfl; have hfz19_0 := bf_ BK148.out 0; have hfz19_1 := bf_ BK148.out 1; have hfz19_2 := bf_ BK148.out 2; have hcz20_0 : w18.cell? ⟨gb149, 0, none⟩ = some (.int .i64 0) := (bc_ BK149.out 0).trans rfl; have hcz20_1 : w18.cell? ⟨gb149, 1, none⟩ = some (.int .i64 0) := (bc_ BK149.out 1).trans rfl; have hcz20_2 : w18.cell? ⟨gb149, 2, none⟩ = some (.slice none 0 0) := (bc_ BK149.out 2).trans rfl; have hfz20_0 := bf_ BK149.out 0; have hfz20_1 := bf_ BK149.out 1; have hfz20_2 := bf_ BK149.out 2))
    refine bodyPost_ret (results_ct rfl _ _ gb149 35 #[.int .i64 0, .int .i64 0, .slice none 0 0] (0, 0) _ rfl (by (with_reducible repeat (first | refine bn_ ?_ _ | refine bd_ ?_ | refine ba_ ?_ _)); refine blk_put (cs := #[.int .i64 0, .int .i64 0, .slice none 0 0]) ?_ 2 _ rfl; (with_reducible repeat (first | refine bn_ ?_ _ | refine bd_ ?_ | refine ba_ ?_ _)); refine blk_put (cs := #[.int .i64 0, .int .i64 0, .slice none 0 0]) ?_ 1 _ rfl; (with_reducible repeat (first | refine bn_ ?_ _ | refine bd_ ?_ | refine ba_ ?_ _)); refine blk_put (cs := #[.int .i64 0, .int .i64 0, .slice none 0 0]) ?_ 0 _ rfl; (with_reducible repeat (first | refine bn_ ?_ _ | refine bd_ ?_ | refine ba_ ?_ _)); exact BK149.out) Try.underlying35 rfl (by kernel_rfl)) rfl ?_
    exact ⟨_, by first | rfl | (simp [errW_none, errW_some] <;> rfl) | (simp [*, errW_none, errW_some] <;> rfl), by first | exact Kd.S_nil _ _ _ _ _ | exact Kd.N_nil _ _ _ _ _ | exact Kd.V_nil _ _ _ _ _ | exact Kd.Q_nil _ _ _ _ _ | exact Kd.R_nil _ _ _ _ _, pb2_ HB.out GE148.out GE149.out⟩
   ·
    rw [if_neg c13] at H
    have c13b0 : decide (65536 < (l1.length : Int)) = false := df_ c13
    have c13b1 : decide (65536 < l1.length) = false := df_ (by omega)
    clear c13
    replace H := Option.bind_eq_some_iff.mp H
    obtain ⟨t151, A210, H⟩ := H
    replace H : ((slices_Clone_byte_byte.f l1).bind fun t154 => (if t151.length < 4398046511104 then (some (a0_0, a0_1, (t151 ++ [(⟨a0_0, t154⟩ : S87)]), 0)) else (none))) = some (r1, r2, r3, r4) := H
    have A21 := am_ A210
    clear A210
    replace H := Option.bind_eq_some_iff.mp H
    obtain ⟨t154, A220, H⟩ := H
    replace H : (if t151.length < 4398046511104 then (some (a0_0, a0_1, (t151 ++ [(⟨a0_0, t154⟩ : S87)]), 0)) else (none)) = some (r1, r2, r3, r4) := H
    have A22 := am_ A220
    clear A220
    by_cases c23 : t151.length < 4398046511104
    ·
     rw [if_pos c23] at H
     have LMc23 := am_ c23
     clear c23
     obtain ⟨y157, hy157⟩ : ∃ y_ : List (S87), y_ = (t151 ++ [(⟨a0_0, t154⟩ : S87)]) := ⟨_, rfl⟩
     replace H : (some (a0_0, a0_1, y157, 0)) = some (r1, r2, r3, r4) := by first | (rw [hy157]; with_reducible exact H) | (have H2_ := (Option.bind_some _ _).symm.trans H; rw [hy157]; with_reducible exact H2_) | (have H2_ := (Option.bind_some _ _).symm.trans H; with_reducible exact H2_) | with_reducible exact H | (rw [hy157]; exact H) | exact H
     have Ny157 := am_ hy157
     clear hy157
     simp only [Option.some.injEq, Prod.mk.injEq] at H
     obtain ⟨rfl, rfl, rfl, rfl⟩ := H
     go_enter Try.func13, Try.ntmps13
     try go_wp2_with (first | ((with_reducible refine gate_dst (N := 2) rfl ?_); refine box_event ?hg (N := 2) ?hd (cs := #[.int .i64 a0_0, .int .i64 a0_1, .slice A0_2 l0_2.length c0_2]) (t := 35) ?hr ?_; (case hd => rfl); (case hg => rfl); (case hr => first | (go_simp; done) | (go_simp; rfl)); intro gb148 hg w24 hbox hb; have n0_ := am_ (vb_ (Kd.V_elderB (pV_ HO0_2.out) gb148 (le_ hg.symm)) hb); have n1_ := am_ (vb_ (Kd.V_elderB (pV_ HO1.out) gb148 (le_ hg.symm)) hb); have n2_ := am_ (sp_ (pb0_ HB.out) hb); have n3_ := am_ (hbox); have n4_ := am_ ((by rw [hg]; exact (bz_ (pb0_ HB.out)) : w.heap.size ≤ gb148)); have n5_ := am_ ((by rw [hg]; exact (bz_ (pb0_ HB.out)) : w.heap.size ≤ gb148)); clear HO0_2; clear HO1; clear HB; have HO0_2 := n0_; have HO1 := n1_; have HB := n2_; have BK148 := n3_; have GW148 := n4_; have GE148 := n5_; clear n0_ n1_ n2_ n3_ n4_ n5_; clear hb hbox hg) | ((with_reducible refine gate_dst (N := 4) rfl ?_); refine box_event ?hg (N := 4) ?hd (cs := #[.int .i64 0, .int .i64 0, .slice none 0 0]) (t := 35) ?hr ?_; (case hd => rfl); (case hg => rfl); (case hr => first | (go_simp; done) | (go_simp; rfl)); intro gb149 hg w25 hbox hb; have n0_ := am_ (vb_ (Kd.V_elderB (pV_ HO0_2.out) gb149 (le_ hg.symm)) hb); have n1_ := am_ (vb_ (Kd.V_elderB (pV_ HO1.out) gb149 (le_ hg.symm)) hb); have n2_ := am_ (bw_ (g := gb148) (o := .cells #[.int .i64 a0_0, .int .i64 a0_1, .slice A0_2 l0_2.length c0_2] 35 (0, 0)) (pk_ BK148.out) hb); have n3_ := am_ (sp_ (pb1_ HB.out GE148.out) hb); have n4_ := am_ (hbox); have n5_ := am_ ((by rw [hg]; exact (bz_ (pb1_ HB.out GE148.out)) : w.heap.size ≤ gb149)); have n6_ := am_ ((by rw [hg]; exact (bz_ (pb1_ HB.out GE148.out)) : w.heap.size ≤ gb149)); have n7_ := am_ ((by rw [hg]; exact Nat.ne_of_lt (blk_lt (g := gb148) (o := .cells #[.int .i64 a0_0, .int .i64 a0_1, .slice A0_2 l0_2.length c0_2] 35 (0, 0)) (pk_ BK148.out)) : gb148 ≠ gb149)); have n8_ := am_ ((by rw [hg]; exact Nat.ne_of_gt (blk_lt (g := gb148) (o := .cells #[.int .i64 a0_0, .int .i64 a0_1, .slice A0_2 l0_2.length c0_2] 35 (0, 0)) (pk_ BK148.out)) : gb149 ≠ gb148)); clear HO0_2; clear HO1; clear BK148; clear HB; have HO0_2 := n0_; have HO1 := n1_; have BK148 := n2_; have HB := n3_; have BK149 := n4_; have GW149 := n5_; have GE149 := n6_; have NB148_149 := n7_; have NB149_148 := n8_; clear n0_ n1_ n2_ n3_ n4_ n5_ n6_ n7_ n8_; clear hb hbox hg; have hnb26 := NB148_149.out; have hnc26 := NB149_148.out; have hcz27_0 : w25.cell? ⟨gb148, 0, none⟩ = some (.int .i64 a0_0) := (bc_ BK148.out 0).trans rfl; have hcz27_1 : w25.cell? ⟨gb148, 1, none⟩ = some (.int .i64 a0_1) := (bc_ BK148.out 1).trans rfl; have hcz27_2 : w25.cell? ⟨gb148, 2, none⟩ = some (.slice A0_2 l0_2.length c0_2) := (bc_ BK148.out 2).trans rfl; have hfz27_0 := bf_ BK148.out 0; have hfz27_1 := bf_ BK148.out 1; have hfz27_2 := bf_ BK148.out 2) | ((with_reducible refine gate_callee (f := 27) rfl ?_); refine goesL_ (some 9) rfl rfl Try.func27 (by kernel_rfl) rfl #[.agg #[.int .i64 a0_0, .int .i64 a0_1, .slice A0_2 l0_2.length c0_2]] rfl au_ ?_; (with_reducible refine (replica_Node_valid.calls k a0_0 a0_1 _ _ l0_2 true _ ?side1 ?side2 A3.out).mono ?_); (case side1 => repeat (first | exact (Kd.V_reads' HO0_2.out).2.2 | (with_reducible refine Kd.C_alloc ?_ _) | (with_reducible refine Kd.C_drewN ?_ _) | (with_reducible refine Kd.C_drew ?_))); (case side2 => exact (Kd.V_reads' HO0_2.out).2.1); rintro e w28 ⟨rfl, hb⟩; refine ⟨_, rfl, ?_⟩; have n0_ := am_ (vb_ (pV_ HO0_2.out) hb); have n1_ := am_ (vb_ (pV_ HO1.out) hb); have n2_ := am_ (bw_ (g := gb148) (o := .cells #[.int .i64 a0_0, .int .i64 a0_1, .slice A0_2 l0_2.length c0_2] 35 (0, 0)) (pk_ BK148.out) hb); have n3_ := am_ (bw_ (g := gb149) (o := .cells #[.int .i64 0, .int .i64 0, .slice none 0 0] 35 (0, 0)) (pk_ BK149.out) hb); have n4_ := am_ (sp_ (pb2_ HB.out GE148.out GE149.out) hb); clear HO0_2; clear HO1; clear BK148; clear BK149; clear HB; have HO0_2 := n0_; have HO1 := n1_; have BK148 := n2_; have BK149 := n3_; have HB := n4_; clear n0_ n1_ n2_ n3_ n4_; (try clear hb); (try clear hb2); (try clear hk); (try clear hi); have hcz29_0 : w28.cell? ⟨gb148, 0, none⟩ = some (.int .i64 a0_0) := (bc_ BK148.out 0).trans rfl; have hcz29_1 : w28.cell? ⟨gb148, 1, none⟩ = some (.int .i64 a0_1) := (bc_ BK148.out 1).trans rfl; have hcz29_2 : w28.cell? ⟨gb148, 2, none⟩ = some (.slice A0_2 l0_2.length c0_2) := (bc_ BK148.out 2).trans rfl; have hfz29_0 := bf_ BK148.out 0; have hfz29_1 := bf_ BK148.out 1; have hfz29_2 := bf_ BK148.out 2))
     have n0_ := am_ (vd_ HO0_2.out)
     have n1_ := am_ (vd_ HO1.out)
     have n2_ := am_ (bd_ BK148.out)
     have n3_ := am_ (bd_ BK149.out)
     have n4_ := am_ (b1_ HB.out)
     clear HO0_2
     clear HO1
     clear BK148
     clear BK149
     clear HB
     have HO0_2 := n0_
     have HO1 := n1_
     have BK148 := n2_
     have BK149 := n3_
     have HB := n4_
     clear n0_ n1_ n2_ n3_ n4_
     refine start_ (n := 11) (S := fun w' => w'.cell? ⟨gb148, 0, none⟩ = some (.int .i64 a0_0) ∧ w'.cell? ⟨gb148, 1, none⟩ = some (.int .i64 a0_1) ∧ w'.cell? ⟨gb148, 2, none⟩ = some (.slice A0_2 l0_2.length c0_2)) (ds := []) #[false, false, false, false, false, false, false, false, false, false, false] (by kernel_rfl) rfl rfl ⟨(bc_ BK148.out 0).trans rfl, (bc_ BK148.out 1).trans rfl, (bc_ BK148.out 2).trans rfl⟩ (fun hHeld => ?_); refine with_tabW replica_Append.tab7 replica_Append.bits7 (fun HT_ HW_ => ?_)
     generalize w28.drew = w30 at HO0_2 HO1 BK148 BK149 HB hHeld ⊢
     refine pure_ (i := 0) (N := some 22) (v := ?_) (a' := ?_) #[true, false, false, false, false, false, false, false, false, false, false] rfl rfl (any_of HT_.out (by kernel_rfl)) (fun _ _ _ h => h) (Or.inl ⟨by rfl, ?_⟩) ?_ ?_
     rotate_left
     ·
      intro w'
      go_simp
      with_reducible rfl
     rotate_left
     ·
      simp only [Act.put, lt1_, lt2_, lt3_, i64_w, i32_w]
      rfl
     refine pure_ (i := 3) (N := some 25) (v := ?_) (a' := ?_) #[true, false, false, true, false, false, false, false, false, false, false] rfl rfl (any_of HT_.out (by kernel_rfl)) (fun _ _ _ h => h) (Or.inl ⟨by rfl, ?_⟩) ?_ ?_
     rotate_left
     ·
      intro w'
      go_simp
      with_reducible rfl
     rotate_left
     ·
      simp only [Act.put, lt1_, lt2_, lt3_, i64_w, i32_w]
      rfl
     refine pure_ (i := 5) (N := some 27) (v := ?_) (a' := ?_) #[true, false, false, true, false, true, false, false, false, false, false] rfl rfl (any_of HT_.out (by kernel_rfl)) (fun _ _ _ h => h) (Or.inl ⟨by rfl, ?_⟩) ?_ ?_
     rotate_left
     ·
      intro w'
      go_simp
      with_reducible rfl
     rotate_left
     ·
      simp only [Act.put, lt1_, lt2_, lt3_, i64_w, i32_w]
      rfl
     refine take_ (i := 1) (N := some 23) (v := ?_) (a' := ?_) #[true, true, false, true, false, true, false, false, false, false, false] rfl rfl (take_ofW HT_.out HW_.out (by kernel_rfl)) (fun _ _ _ h => h) (Or.inl ⟨by rfl, ?_⟩) hHeld ?_ ?_
     rotate_left
     ·
      rintro w' ⟨s0, s1, s2⟩
      go_simp
      with_reducible rfl
     rotate_left
     ·
      simp only [Act.put, lt1_, lt2_, lt3_, i64_w, i32_w]
      rfl
     refine take_ (i := 4) (N := some 26) (v := ?_) (a' := ?_) #[true, true, false, true, true, true, false, false, false, false, false] rfl rfl (take_ofW HT_.out HW_.out (by kernel_rfl)) (fun _ _ _ h => h) (Or.inl ⟨by rfl, ?_⟩) hHeld ?_ ?_
     rotate_left
     ·
      rintro w' ⟨s0, s1, s2⟩
      go_simp
      with_reducible rfl
     rotate_left
     ·
      simp only [Act.put, lt1_, lt2_, lt3_, i64_w, i32_w]
      rfl
     refine one_ (i := 2) (N := some 24) #[true, true, true, true, true, true, false, false, false, false, false] rfl rfl (one_of HT_.out (by kernel_rfl)) (by decide) (fun K hK => ?_)
     refine goes_ Try.func29 (by kernel_rfl) rfl #[.slice A0_2 l0_2.length c0_2] (by rfl) rfl rfl au_ ?_
     with_reducible refine (replica_copied.calls k (fun k_ => ((((P0_2_ k_ ∨ P1_ k_) ∨ w.heap.size ≤ k_) ∧ k_ ≠ gb148) ∧ k_ ≠ gb149)) _ _ l0_2 t151 _ ?side1 A21.out).mono ?_
     (case side1 => exact HO0_2.out)
     rintro e w31 ⟨v152, rfl, ho0, hb⟩
     refine ⟨_, rfl, ?_⟩
     have n0_ := am_ (Kd.V_elder' (pV_ HO0_2.out) (Kd.N_base ho0) hb)
     have n1_ := am_ (Kd.V_elder' (pV_ HO1.out) (Kd.N_base ho0) hb)
     have n2_ := am_ (nl_ (nm_ (ok' := fun k_ => ((P0_2_ k_ ∨ P1_ k_) ∨ w.heap.size ≤ k_) ∧ k_ ≠ gb148 ∧ k_ ≠ gb149) ho0 (fun k_ hk_ => ⟨Or.elim hk_ (fun hs_ => hs_.1.1) (fun hn_ => (.inr (Nat.le_trans (bz_ (pb2_ HB.out GE148.out GE149.out)) hn_))), Or.elim hk_ (fun hs_ => hs_.1.2) (fun hn_ => (fb_ (g := gb148) (o := .cells #[.int .i64 a0_0, .int .i64 a0_1, .slice A0_2 l0_2.length c0_2] 35 (0, 0)) (pk_ BK148.out) k_ hn_)), Or.elim hk_ (fun hs_ => hs_.2) (fun hn_ => (fb_ (g := gb149) (o := .cells #[.int .i64 0, .int .i64 0, .slice none 0 0] 35 (0, 0)) (pk_ BK149.out) k_ hn_))⟩)) (bz_ (pb2_ HB.out GE148.out GE149.out)))
     have n3_ := am_ (bw_ (g := gb148) (o := .cells #[.int .i64 a0_0, .int .i64 a0_1, .slice A0_2 l0_2.length c0_2] 35 (0, 0)) (pk_ BK148.out) hb)
     have n4_ := am_ (bw_ (g := gb149) (o := .cells #[.int .i64 0, .int .i64 0, .slice none 0 0] 35 (0, 0)) (pk_ BK149.out) hb)
     have n5_ := am_ (sp_ (pb2_ HB.out GE148.out GE149.out) hb)
     clear HO0_2
     clear HO1
     clear BK148
     clear BK149
     clear HB
     have HO0_2 := n0_
     have HO1 := n1_
     have HO153 := n2_
     have BK148 := n3_
     have BK149 := n4_
     have HB := n5_
     clear n0_ n1_ n2_ n3_ n4_ n5_
     (try clear hb)
     (try clear hb2)
     (try clear hk)
     (try clear hi)
     (try clear ho0)
     refine hK.out _ _ ⟨(bc_ BK148.out 0).trans rfl, (bc_ BK148.out 1).trans rfl, (bc_ BK148.out 2).trans rfl⟩ (fun hHeld => ?_)
     clear hK K
     refine norm_ (a' := ?_) ?_ ?_
     rotate_left
     ·
      show Act.put _ (some 24) _ = _
      simp only [Act.put, lt1_, lt2_, lt3_, i64_w, i32_w]
      rfl
     refine one_ (i := 6) (N := some 28) #[true, true, true, true, true, true, true, false, false, false, false] rfl rfl (one_of HT_.out (by kernel_rfl)) (by decide) (fun K hK => ?_)
     refine goes_ Try.func34 (by kernel_rfl) rfl #[.slice A1 l1.length c1] (by rfl) rfl rfl au_ ?_
     with_reducible refine (slices_Clone_byte_byte.calls (fun k_ => (((((P0_2_ k_ ∨ P1_ k_) ∨ w.heap.size ≤ k_) ∧ k_ ≠ gb148) ∧ k_ ≠ gb149) ∧ some k_ ≠ (v152 : Value).ownBlock)) _ _ l1 t154 _ ?side1 A22.out).mono ?_
     (case side1 => exact HO1.out)
     rintro e w32 ⟨v155, rfl, ho0, hb⟩
     refine ⟨_, rfl, ?_⟩
     have n0_ := am_ (vb_ (pV_ HO0_2.out) hb)
     have n1_ := am_ (vb_ (pV_ HO1.out) hb)
     have n2_ := am_ (nb_ (pN_ HO153.out) hb)
     have n3_ := am_ (Kd.V_lower (vm_ (ok' := fun k_ => ((P0_2_ k_ ∨ P1_ k_) ∨ w.heap.size ≤ k_) ∧ some k_ ≠ (v152 : Value).ownBlock ∧ k_ ≠ gb148 ∧ k_ ≠ gb149) ho0 (fun k_ hk_ => ⟨Or.elim hk_ (fun hs_ => hs_.1.1.1) (fun hn_ => (.inr (Nat.le_trans (bz_ (pb2_ HB.out GE148.out GE149.out)) hn_))), Or.elim hk_ (fun hs_ => hs_.2) (fun hn_ => (Kd.fresh' (Kd.N_lt (pN_ HO153.out)) k_ hn_)), Or.elim hk_ (fun hs_ => hs_.1.1.2) (fun hn_ => (fb_ (g := gb148) (o := .cells #[.int .i64 a0_0, .int .i64 a0_1, .slice A0_2 l0_2.length c0_2] 35 (0, 0)) (pk_ BK148.out) k_ hn_)), Or.elim hk_ (fun hs_ => hs_.1.2) (fun hn_ => (fb_ (g := gb149) (o := .cells #[.int .i64 0, .int .i64 0, .slice none 0 0] 35 (0, 0)) (pk_ BK149.out) k_ hn_))⟩)) (bz_ (pb2_ HB.out GE148.out GE149.out)))
     have n4_ := am_ (bw_ (g := gb148) (o := .cells #[.int .i64 a0_0, .int .i64 a0_1, .slice A0_2 l0_2.length c0_2] 35 (0, 0)) (pk_ BK148.out) hb)
     have n5_ := am_ (bw_ (g := gb149) (o := .cells #[.int .i64 0, .int .i64 0, .slice none 0 0] 35 (0, 0)) (pk_ BK149.out) hb)
     have n6_ := am_ (sp_ (pb2_ HB.out GE148.out GE149.out) hb)
     clear HO0_2
     clear HO1
     clear HO153
     clear BK148
     clear BK149
     clear HB
     have HO0_2 := n0_
     have HO1 := n1_
     have HO153 := n2_
     have HO156 := n3_
     have BK148 := n4_
     have BK149 := n5_
     have HB := n6_
     clear n0_ n1_ n2_ n3_ n4_ n5_ n6_
     (try clear hb)
     (try clear hb2)
     (try clear hk)
     (try clear hi)
     (try clear ho0)
     obtain ⟨Ao33, co33, eo33⟩ := Kd.V_slice HO156.out
     (first | subst eo33 | (injection eo33 with f1_ f2_ f3_; have f4_ := f1_.symm; have f5_ := f3_.symm; clear f1_ f2_ f3_; subst f4_; subst f5_))
     refine hK.out _ _ ⟨(bc_ BK148.out 0).trans rfl, (bc_ BK148.out 1).trans rfl, (bc_ BK148.out 2).trans rfl⟩ (fun hHeld => ?_)
     clear hK K
     refine norm_ (a' := ?_) ?_ ?_
     rotate_left
     ·
      show Act.put _ (some 28) _ = _
      simp only [Act.put, lt1_, lt2_, lt3_, i64_w, i32_w]
      rfl
     refine pure_ (i := 7) (N := some 29) (v := ?_) (a' := ?_) #[true, true, true, true, true, true, true, true, false, false, false] rfl rfl (any_of HT_.out (by kernel_rfl)) (fun _ _ _ h => h) (Or.inl ⟨by rfl, ?_⟩) ?_ ?_
     rotate_left
     ·
      intro w'
      go_simp
      with_reducible rfl
     rotate_left
     ·
      simp only [Act.put, lt1_, lt2_, lt3_, i64_w, i32_w]
      rfl
     refine one_ (i := 8) (N := some 30) #[true, true, true, true, true, true, true, true, true, false, false] rfl rfl (one_of HT_.out (by kernel_rfl)) (by decide) (fun K hK => ?_)
     refine value_ (w1 := ?_) (v := ?_) (by rfl) rfl ?_ ?_
     rotate_left 2
     ·
      go_simp
      constructor
      ·
       rfl
      ·
       rfl
     refine hK.out _ _ ⟨(bc_ (ba_ BK148.out _) 0).trans rfl, (bc_ (ba_ BK148.out _) 1).trans rfl, (bc_ (ba_ BK148.out _) 2).trans rfl⟩ (fun hHeld => ?_)
     clear hK K
     refine norm_ (a' := ?_) ?_ ?_
     rotate_left
     ·
      show Act.put _ (some 30) _ = _
      simp only [Act.put, lt1_, lt2_, lt3_, i64_w, i32_w]
      rfl
     refine one_ (i := 9) (N := some 31) #[true, true, true, true, true, true, true, true, true, true, false] rfl rfl (one_of HT_.out (by kernel_rfl)) (by decide) (fun K hK => ?_)
     refine Kd.N_append_step k87 (w0 := w) w.heap.size (by rfl) (.tmp 24) (.tmp 30) 28 87 (.agg #[(.int .i64 0), (.slice none 0 0)]) 32 rfl Try.underlying28 info87 rfl (by decide) (by omega) v152 t151 (⟨a0_0, t154⟩ : S87) [.int .i64 a0_0, .slice Ao33 t154.length co33] (fun k_ => ((P0_2_ k_ ∨ P1_ k_) ∨ w.heap.size ≤ k_) ∧ k_ ≠ gb148 ∧ k_ ≠ gb149) (fun k_ => ((fun k_ => ((P0_2_ k_ ∨ P1_ k_) ∨ w.heap.size ≤ k_) ∧ k_ ≠ gb148 ∧ k_ ≠ gb149)) k_ ∧ some k_ ≠ (v152 : Value).ownBlock) rfl rfl ?aP (fun _ hk => hk) ?aF ?aO ?aB ?aS ?aL ?_
     (case aP => exact (k87_mkF _ _ (⟨a0_0, t154⟩ : S87) (Kd.V_reads' (vm_ (ok' := (fun k_ => ((fun k_ => ((P0_2_ k_ ∨ P1_ k_) ∨ w.heap.size ≤ k_) ∧ k_ ≠ gb148 ∧ k_ ≠ gb149)) k_ ∧ some k_ ≠ (v152 : Value).ownBlock)) (HO156.out) (fun k_ hk => ⟨⟨hk.1, ⟨hk.2.2.1, hk.2.2.2⟩⟩, hk.2.1⟩))).2.1 (Kd.V_F (vm_ (ok' := (fun k_ => ((fun k_ => ((P0_2_ k_ ∨ P1_ k_) ∨ w.heap.size ≤ k_) ∧ k_ ≠ gb148 ∧ k_ ≠ gb149)) k_ ∧ some k_ ≠ (v152 : Value).ownBlock)) (HO156.out) (fun k_ hk => ⟨⟨hk.1, ⟨hk.2.2.1, hk.2.2.2⟩⟩, hk.2.1⟩)))))
     (case aB => exact (pb2_ HB.out GE148.out GE149.out))
     (case aF => exact (fun k_ hk => ⟨(.inr (Nat.le_trans (bz_ (pb2_ HB.out GE148.out GE149.out)) hk)), fb_ (g := gb148) (o := .cells #[.int .i64 a0_0, .int .i64 a0_1, .slice A0_2 l0_2.length c0_2] 35 (0, 0)) (pk_ BK148.out) k_ hk, fb_ (g := gb149) (o := .cells #[.int .i64 0, .int .i64 0, .slice none 0 0] 35 (0, 0)) (pk_ BK149.out) k_ hk⟩))
     (case aO => exact (pN_ HO153.out))
     (case aS => exact (bz_ (pb2_ HB.out GE148.out GE149.out)))
     (case aL => have := LMc23.out; omega)
     intro v158 w34 ho hb hg hat
     rw [← Ny157.out] at ho
     have n0_ := am_ (Kd.V_afterv (ok := (fun k_ => ((P0_2_ k_ ∨ P1_ k_) ∨ w.heap.size ≤ k_) ∧ k_ ≠ gb148 ∧ k_ ≠ gb149)) (by (with_reducible repeat (first | apply va_ | apply vn_ | apply vd_)); exact vm_ HO0_2.out (fun _ hk => ⟨⟨hk.1.1.1, ⟨hk.1.1.2, hk.1.2⟩⟩, hk.2⟩)) hg hat)
     have n1_ := am_ (Kd.V_afterv (ok := (fun k_ => ((P0_2_ k_ ∨ P1_ k_) ∨ w.heap.size ≤ k_) ∧ k_ ≠ gb148 ∧ k_ ≠ gb149)) (by (with_reducible repeat (first | apply va_ | apply vn_ | apply vd_)); exact vm_ HO1.out (fun _ hk => ⟨⟨hk.1.1.1, ⟨hk.1.1.2, hk.1.2⟩⟩, hk.2⟩)) hg hat)
     have n2_ := am_ (blk_grown (g := gb148) (o := .cells #[.int .i64 a0_0, .int .i64 a0_1, .slice A0_2 l0_2.length c0_2] 35 (0, 0)) (pk_ BK148.out) hg (Kd.N_ne HO153.out BK148.out (by decide)))
     have n3_ := am_ (blk_grown (g := gb149) (o := .cells #[.int .i64 0, .int .i64 0, .slice none 0 0] 35 (0, 0)) (pk_ BK149.out) hg (Kd.N_ne HO153.out BK149.out (by decide)))
     have n4_ := am_ (Kd.V_afterv (ok := (fun k_ => ((P0_2_ k_ ∨ P1_ k_) ∨ w.heap.size ≤ k_) ∧ k_ ≠ gb148 ∧ k_ ≠ gb149)) (by (with_reducible repeat (first | apply va_ | apply vn_ | apply vd_)); exact vm_ HO156.out (fun _ hk => ⟨⟨hk.1, ⟨hk.2.2.1, hk.2.2.2⟩⟩, hk.2.1⟩)) hg hat)
     have n5_ := am_ (hb)
     have n6_ := am_ (ho)
     clear HO0_2
     clear HO1
     clear BK148
     clear BK149
     clear HO156
     clear HB
     clear HO153
     have HO0_2 := n0_
     have HO1 := n1_
     have BK148 := n2_
     have BK149 := n3_
     have HO156 := n4_
     have HB := n5_
     have HO159 := n6_
     clear n0_ n1_ n2_ n3_ n4_ n5_ n6_
     clear ho hb hg hat
     refine hK.out _ _ ⟨(bc_ BK148.out 0).trans rfl, (bc_ BK148.out 1).trans rfl, (bc_ BK148.out 2).trans rfl⟩ (fun hHeld => ?_)
     clear hK K
     refine norm_ (a' := ?_) ?_ ?_
     rotate_left
     ·
      show Act.put _ (some 31) _ = _
      simp only [Act.put, lt1_, lt2_, lt3_, i64_w, i32_w]
      rfl
     refine pure_ (i := 10) (N := some 6) (v := ?_) (a' := ?_) #[true, true, true, true, true, true, true, true, true, true, true] rfl rfl (any_of HT_.out (by kernel_rfl)) (fun _ _ _ h => h) (Or.inl ⟨by rfl, ?_⟩) ?_ ?_
     rotate_left
     ·
      intro w'
      go_simp
      with_reducible rfl
     rotate_left
     ·
      simp only [Act.put, lt1_, lt2_, lt3_, i64_w, i32_w]
      rfl
     refine done_ (done_of HT_.out (by kernel_rfl)) ?_
     have hcz35_0 : w34.cell? ⟨gb148, 0, none⟩ = some (.int .i64 a0_0) := (bc_ BK148.out 0).trans rfl
     have hcz35_1 : w34.cell? ⟨gb148, 1, none⟩ = some (.int .i64 a0_1) := (bc_ BK148.out 1).trans rfl
     have hcz35_2 : w34.cell? ⟨gb148, 2, none⟩ = some (.slice A0_2 l0_2.length c0_2) := (bc_ BK148.out 2).trans rfl
     have hfz35_0 := bf_ BK148.out 0
     have hfz35_1 := bf_ BK148.out 1
     have hfz35_2 := bf_ BK148.out 2
     obtain ⟨Ao36, co36, eo36⟩ := Kd.N_slice HO159.out
     subst eo36
     have hcz37_0 : w34.cell? ⟨gb149, 0, none⟩ = some (.int .i64 0) := (bc_ BK149.out 0).trans rfl
     have hcz37_1 : w34.cell? ⟨gb149, 1, none⟩ = some (.int .i64 0) := (bc_ BK149.out 1).trans rfl
     have hcz37_2 : w34.cell? ⟨gb149, 2, none⟩ = some (.slice none 0 0) := (bc_ BK149.out 2).trans rfl
     have hfz37_0 := bf_ BK149.out 0
     have hfz37_1 := bf_ BK149.out 1
     have hfz37_2 := bf_ BK149.out 2
     try go_wp2
     refine bodyPost_ret (results_ct rfl _ _ gb149 35 #[.int .i64 a0_0, .int .i64 a0_1, .slice Ao36 y157.length co36] (0, 0) _ rfl (by (with_reducible repeat (first | refine bn_ ?_ _ | refine bd_ ?_ | refine ba_ ?_ _)); refine blk_put (cs := #[.int .i64 a0_0, .int .i64 a0_1, .slice none 0 0]) ?_ 2 _ rfl; (with_reducible repeat (first | refine bn_ ?_ _ | refine bd_ ?_ | refine ba_ ?_ _)); refine blk_put (cs := #[.int .i64 a0_0, .int .i64 0, .slice none 0 0]) ?_ 1 _ rfl; (with_reducible repeat (first | refine bn_ ?_ _ | refine bd_ ?_ | refine ba_ ?_ _)); refine blk_put (cs := #[.int .i64 0, .int .i64 0, .slice none 0 0]) ?_ 0 _ rfl; (with_reducible repeat (first | refine bn_ ?_ _ | refine bd_ ?_ | refine ba_ ?_ _)); exact BK149.out) Try.underlying35 rfl (by kernel_rfl)) rfl ?_
     exact ⟨_, by first | rfl | (simp [errW_none, errW_some] <;> rfl) | (simp [*, errW_none, errW_some] <;> rfl), by (with_reducible repeat (first | apply na_ | apply nn_ | apply nd_)); exact nm_ (nf_ (p := ⟨gb149, 2, none⟩) (nf_ (p := ⟨gb149, 1, none⟩) (nf_ (p := ⟨gb149, 0, none⟩) (nm_ HO159.out (fun k_ hk => (⟨hk, hk.2.2⟩ : _ ∧ k_ ≠ gb149))) (fun _ hk => hk.2) (.int .i64 a0_0)) (fun _ hk => hk.2) (.int .i64 a0_1)) (fun _ hk => hk.2) (.slice Ao36 y157.length co36)) (fun _ hk => hk.1.1), pb2_ HB.out GE148.out GE149.out⟩
    ·
     rw [if_neg c23] at H
     exact absurd H (by simp)
 ·
  replace c4 := Bool.eq_false_iff.mpr c4
  subst c4
  have H1 : (some (0, 0, ([] : List (S87)), 8)) = some (r1, r2, r3, r4) := by rw [if_neg (show ¬ (false = true) by decide)] at H; exact H
  clear H
  have H := H1
  clear H1
  simp only [Option.some.injEq, Prod.mk.injEq] at H
  obtain ⟨rfl, rfl, rfl, rfl⟩ := H
  go_enter Try.func13, Try.ntmps13
  go_wp2_with (first | ((with_reducible refine gate_dst (N := 2) rfl ?_); refine box_event ?hg (N := 2) ?hd (cs := #[.int .i64 a0_0, .int .i64 a0_1, .slice A0_2 l0_2.length c0_2]) (t := 35) ?hr ?_; (case hd => rfl); (case hg => rfl); (case hr => first | (go_simp; done) | (go_simp; rfl)); intro gb148 hg w38 hbox hb; have n0_ := am_ (vb_ (Kd.V_elderB (pV_ HO0_2.out) gb148 (le_ hg.symm)) hb); have n1_ := am_ (vb_ (Kd.V_elderB (pV_ HO1.out) gb148 (le_ hg.symm)) hb); have n2_ := am_ (sp_ (pb0_ HB.out) hb); have n3_ := am_ (hbox); have n4_ := am_ ((by rw [hg]; exact (bz_ (pb0_ HB.out)) : w.heap.size ≤ gb148)); have n5_ := am_ ((by rw [hg]; exact (bz_ (pb0_ HB.out)) : w.heap.size ≤ gb148)); clear HO0_2; clear HO1; clear HB; have HO0_2 := n0_; have HO1 := n1_; have HB := n2_; have BK148 := n3_; have GW148 := n4_; have GE148 := n5_; clear n0_ n1_ n2_ n3_ n4_ n5_; clear hb hbox hg) | ((with_reducible refine gate_dst (N := 4) rfl ?_); refine box_event ?hg (N := 4) ?hd (cs := #[.int .i64 0, .int .i64 0, .slice none 0 0]) (t := 35) ?hr ?_; (case hd => rfl); (case hg => rfl); (case hr => first | (go_simp; done) | (go_simp; rfl)); intro gb149 hg w39 hbox hb; have n0_ := am_ (vb_ (Kd.V_elderB (pV_ HO0_2.out) gb149 (le_ hg.symm)) hb); have n1_ := am_ (vb_ (Kd.V_elderB (pV_ HO1.out) gb149 (le_ hg.symm)) hb); have n2_ := am_ (bw_ (g := gb148) (o := .cells #[.int .i64 a0_0, .int .i64 a0_1, .slice A0_2 l0_2.length c0_2] 35 (0, 0)) (pk_ BK148.out) hb); have n3_ := am_ (sp_ (pb1_ HB.out GE148.out) hb); have n4_ := am_ (hbox); have n5_ := am_ ((by rw [hg]; exact (bz_ (pb1_ HB.out GE148.out)) : w.heap.size ≤ gb149)); have n6_ := am_ ((by rw [hg]; exact (bz_ (pb1_ HB.out GE148.out)) : w.heap.size ≤ gb149)); have n7_ := am_ ((by rw [hg]; exact Nat.ne_of_lt (blk_lt (g := gb148) (o := .cells #[.int .i64 a0_0, .int .i64 a0_1, .slice A0_2 l0_2.length c0_2] 35 (0, 0)) (pk_ BK148.out)) : gb148 ≠ gb149)); have n8_ := am_ ((by rw [hg]; exact Nat.ne_of_gt (blk_lt (g := gb148) (o := .cells #[.int .i64 a0_0, .int .i64 a0_1, .slice A0_2 l0_2.length c0_2] 35 (0, 0)) (pk_ BK148.out)) : gb149 ≠ gb148)); clear HO0_2; clear HO1; clear BK148; clear HB; have HO0_2 := n0_; have HO1 := n1_; have BK148 := n2_; have HB := n3_; have BK149 := n4_; have GW149 := n5_; have GE149 := n6_; have NB148_149 := n7_; have NB149_148 := n8_; clear n0_ n1_ n2_ n3_ n4_ n5_ n6_ n7_ n8_; clear hb hbox hg; have hnb40 := NB148_149.out; have hnc40 := NB149_148.out; have hcz41_0 : w39.cell? ⟨gb148, 0, none⟩ = some (.int .i64 a0_0) := (bc_ BK148.out 0).trans rfl; have hcz41_1 : w39.cell? ⟨gb148, 1, none⟩ = some (.int .i64 a0_1) := (bc_ BK148.out 1).trans rfl; have hcz41_2 : w39.cell? ⟨gb148, 2, none⟩ = some (.slice A0_2 l0_2.length c0_2) := (bc_ BK148.out 2).trans rfl; have hfz41_0 := bf_ BK148.out 0; have hfz41_1 := bf_ BK148.out 1; have hfz41_2 := bf_ BK148.out 2) | ((with_reducible refine gate_callee (f := 27) rfl ?_); refine goesL_ (some 9) rfl rfl Try.func27 (by kernel_rfl) rfl #[.agg #[.int .i64 a0_0, .int .i64 a0_1, .slice A0_2 l0_2.length c0_2]] rfl au_ ?_; (with_reducible refine (replica_Node_valid.calls k a0_0 a0_1 _ _ l0_2 false _ ?side1 ?side2 A3.out).mono ?_); (case side1 => repeat (first | exact (Kd.V_reads' HO0_2.out).2.2 | (with_reducible refine Kd.C_alloc ?_ _) | (with_reducible refine Kd.C_drewN ?_ _) | (with_reducible refine Kd.C_drew ?_))); (case side2 => exact (Kd.V_reads' HO0_2.out).2.1); rintro e w42 ⟨rfl, hb⟩; refine ⟨_, rfl, ?_⟩; have n0_ := am_ (vb_ (pV_ HO0_2.out) hb); have n1_ := am_ (vb_ (pV_ HO1.out) hb); have n2_ := am_ (bw_ (g := gb148) (o := .cells #[.int .i64 a0_0, .int .i64 a0_1, .slice A0_2 l0_2.length c0_2] 35 (0, 0)) (pk_ BK148.out) hb); have n3_ := am_ (bw_ (g := gb149) (o := .cells #[.int .i64 0, .int .i64 0, .slice none 0 0] 35 (0, 0)) (pk_ BK149.out) hb); have n4_ := am_ (sp_ (pb2_ HB.out GE148.out GE149.out) hb); clear HO0_2; clear HO1; clear BK148; clear BK149; clear HB; have HO0_2 := n0_; have HO1 := n1_; have BK148 := n2_; have BK149 := n3_; have HB := n4_; clear n0_ n1_ n2_ n3_ n4_; (try clear hb); (try clear hb2); (try clear hk); (try clear hi); have hcz43_0 : w42.cell? ⟨gb149, 0, none⟩ = some (.int .i64 0) := (bc_ BK149.out 0).trans rfl; have hcz43_1 : w42.cell? ⟨gb149, 1, none⟩ = some (.int .i64 0) := (bc_ BK149.out 1).trans rfl; have hcz43_2 : w42.cell? ⟨gb149, 2, none⟩ = some (.slice none 0 0) := (bc_ BK149.out 2).trans rfl; have hfz43_0 := bf_ BK149.out 0; have hfz43_1 := bf_ BK149.out 1; have hfz43_2 := bf_ BK149.out 2))
  refine bodyPost_ret (results_ct rfl _ _ gb149 35 #[.int .i64 0, .int .i64 0, .slice none 0 0] (0, 0) _ rfl (by (with_reducible repeat (first | refine bn_ ?_ _ | refine bd_ ?_ | refine ba_ ?_ _)); refine blk_put (cs := #[.int .i64 0, .int .i64 0, .slice none 0 0]) ?_ 2 _ rfl; (with_reducible repeat (first | refine bn_ ?_ _ | refine bd_ ?_ | refine ba_ ?_ _)); refine blk_put (cs := #[.int .i64 0, .int .i64 0, .slice none 0 0]) ?_ 1 _ rfl; (with_reducible repeat (first | refine bn_ ?_ _ | refine bd_ ?_ | refine ba_ ?_ _)); refine blk_put (cs := #[.int .i64 0, .int .i64 0, .slice none 0 0]) ?_ 0 _ rfl; (with_reducible repeat (first | refine bn_ ?_ _ | refine bd_ ?_ | refine ba_ ?_ _)); exact BK149.out) Try.underlying35 rfl (by kernel_rfl)) rfl ?_
  exact ⟨_, by first | rfl | (simp [errW_none, errW_some] <;> rfl) | (simp [*, errW_none, errW_some] <;> rfl), by first | exact Kd.S_nil _ _ _ _ _ | exact Kd.N_nil _ _ _ _ _ | exact Kd.V_nil _ _ _ _ _ | exact Kd.Q_nil _ _ _ _ _ | exact Kd.R_nil _ _ _ _ _, pb2_ HB.out GE148.out GE149.out⟩
def replica_Offer.j0 : Nat → Int → Bool → Int → Int → List (S87) → Option (Int × Int × Int × (List (S87)) × Int × Int)
 | 0, _, _, _, _, _ => none
 | k + 1, x1, x16, x161000, x161001, x161002 => if x16 = true then (some (0, 0, 0, ([] : List (S87)), 0, 7)) else ((replica_Node_end.f x161000 x161001 x161002 x1).bind fun t163 => (if 0 ≤ x1 then (if x1 ≤ (x161002.length : Int) then ((replica_copied.f k (x161002.drop (x1 : Int).toNat)).bind fun t169 => (some (x161000, x1, t163, t169, x161001, 0))) else (none)) else (none)))
def replica_Offer.f (k : Nat) (a0_0 : Int) (a0_1 : Int) (l0_2 : List (S87)) (a1 : Int) : Option (Int × Int × Int × (List (S87)) × Int × Int) := (replica_Node_valid.f k a0_0 a0_1 l0_2).bind fun t162 => (if t162 = true then (if a0_0 = 0 then (some (0, 0, 0, ([] : List (S87)), 0, 13)) else (if a1 < 0 then (replica_Offer.j0 k a1 true a0_0 a0_1 l0_2) else (replica_Offer.j0 k a1 (decide (a1 > (l0_2.length : Int))) a0_0 a0_1 l0_2))) else (some (0, 0, 0, ([] : List (S87)), 0, 8)))
def replica_Offer.T7 : Bool × List (List Nat × List Nat) := (true, [([], []), ([0], [0]), ([], []), ([], []), ([], []), ([3, 4], [3, 4]), ([], []), ([6], [6]), ([], []), ([7, 8], [7, 8]), ([9, 5], [9]), ([], []), ([11], [11]), ([1, 2, 5, 10, 12], [1, 2, 5, 10, 12]), ([13, 10, 0, 1, 2, 3, 4, 5, 6, 7, 8, 9, 10, 11, 12, 13], [13]), ([14, 0, 1, 2, 3, 4, 5, 6, 7, 8, 9, 10, 11, 12, 13, 14], [])])
def replica_Offer.B7 : List Nat := [0, 1, 0, 0, 0, 24, 0, 64, 0, 448, 1016, 0, 2048, 8191, 16383, 32767]
theorem replica_Offer.tab7 : rtab .any (opsOf Try.f10 7) = replica_Offer.T7 := by kernel_rfl
theorem replica_Offer.bits7 : waitsOk replica_Offer.T7.2 replica_Offer.B7 = true := by kernel_rfl
set_option maxHeartbeats 8000000 in
set_option maxRecDepth 100000 in
theorem replica_Offer.calls (k : Nat) (a0_0 : Int) (a0_1 : Int) (P0_2_ : Nat → Prop) (A0_2 : Option Addr) (c0_2 : Nat) (l0_2 : List (S87)) (a1 : Int) (r1 : Int) (r2 : Int) (r3 : Int) (r4 : List (S87)) (r5 : Int) (r6 : Int) (w : World) (hs0_2 : Kd.V k87 87 w w.heap.size (fun k_ => P0_2_ k_) (.slice A0_2 l0_2.length c0_2) l0_2) (h : replica_Offer.f k a0_0 a0_1 l0_2 a1 = some (r1, r2, r3, r4, r5, r6)) :
  Calls Try.prog 10 #[.agg #[.int .i64 a0_0, .int .i64 a0_1, .slice A0_2 l0_2.length c0_2], .int .i64 a1] w fun e w' => ∃ v3_ : Value, e = .returned (.tuple #[.agg #[.int .i64 r1, .int .i64 r2, .int .i64 r3, v3_, .int .i64 r5], .int .i64 r6]) ∧ Kd.N k87 87 w' w.heap.size (fun k_ => (P0_2_ k_ ∨ w.heap.size ≤ k_)) v3_ r4 ∧ Below w.heap.size w w' := by
 have hu35 := Try.underlying35
 have hu30 := Try.underlying30
 have HO0_2 := am_ (show Kd.V k87 87 w w.heap.size (fun k_ => (P0_2_ k_ ∨ w.heap.size ≤ k_)) (.slice A0_2 l0_2.length c0_2) l0_2 from vm_ hs0_2 (fun k_ hk => .inl hk))
 have HB := am_ (Below.refl w.heap.size w)
 have H : ((replica_Node_valid.f k a0_0 a0_1 l0_2).bind fun t162 => (if t162 = true then (if a0_0 = 0 then (some (0, 0, 0, ([] : List (S87)), 0, 13)) else (if a1 < 0 then (replica_Offer.j0 k a1 true a0_0 a0_1 l0_2) else (replica_Offer.j0 k a1 (decide (a1 > (l0_2.length : Int))) a0_0 a0_1 l0_2))) else (some (0, 0, 0, ([] : List (S87)), 0, 8)))) = some (r1, r2, r3, r4, r5, r6) := h
 clear h
 replace H := Option.bind_eq_some_iff.mp H
 obtain ⟨t162, A30, H⟩ := H
 replace H : (if t162 = true then (if a0_0 = 0 then (some (0, 0, 0, ([] : List (S87)), 0, 13)) else (if a1 < 0 then (replica_Offer.j0 k a1 true a0_0 a0_1 l0_2) else (replica_Offer.j0 k a1 (decide (a1 > (l0_2.length : Int))) a0_0 a0_1 l0_2))) else (some (0, 0, 0, ([] : List (S87)), 0, 8))) = some (r1, r2, r3, r4, r5, r6) := H
 have A3 := am_ A30
 clear A30
 by_cases c4 : t162 = true
 ·
  subst c4
  have H1 : (if a0_0 = 0 then (some (0, 0, 0, ([] : List (S87)), 0, 13)) else (if a1 < 0 then (replica_Offer.j0 k a1 true a0_0 a0_1 l0_2) else (replica_Offer.j0 k a1 (decide (a1 > (l0_2.length : Int))) a0_0 a0_1 l0_2))) = some (r1, r2, r3, r4, r5, r6) := by rw [if_pos rfl] at H; exact H
  clear H
  have H := H1
  clear H1
  by_cases c5 : a0_0 = 0
  ·
   rw [if_pos c5] at H
   have c5b0 : (a0_0 == 0) = true := beq_iff_eq.mpr c5
   have c5b1 : (a0_0 != 0) = false := bne_eq_false_iff_eq.mpr c5
   clear c5
   simp only [Option.some.injEq, Prod.mk.injEq] at H
   obtain ⟨rfl, rfl, rfl, rfl, rfl, rfl⟩ := H
   go_enter Try.func10, Try.ntmps10
   go_wp2_with (first | ((with_reducible refine gate_dst (N := 2) rfl ?_); (try (refine gate_guard (by rfl) ?_; dsimp only)); refine box_event ?hg (N := 2) ?hd (cs := #[.int .i64 a0_0, .int .i64 a0_1, .slice A0_2 l0_2.length c0_2]) (t := 35) ?hr ?_; (case hd => rfl); (case hg => rfl); (case hr => first | (go_simp; done) | (go_simp; rfl)); intro gb160 hg w6 hbox hb; have n0_ := am_ (vb_ (Kd.V_elderB (pV_ HO0_2.out) gb160 (le_ hg.symm)) hb); have n1_ := am_ (sp_ (pb0_ HB.out) hb); have n2_ := am_ (hbox); have n3_ := am_ ((by rw [hg]; exact (bz_ (pb0_ HB.out)) : w.heap.size ≤ gb160)); have n4_ := am_ ((by rw [hg]; exact (bz_ (pb0_ HB.out)) : w.heap.size ≤ gb160)); clear HO0_2; clear HB; have HO0_2 := n0_; have HB := n1_; have BK160 := n2_; have GW160 := n3_; have GE160 := n4_; clear n0_ n1_ n2_ n3_ n4_; clear hb hbox hg) | ((with_reducible refine gate_dst (N := 4) rfl ?_); (try (refine gate_guard (by rfl) ?_; dsimp only)); refine box_event ?hg (N := 4) ?hd (cs := #[.int .i64 0, .int .i64 0, .int .i64 0, .slice none 0 0, .int .i64 0]) (t := 30) ?hr ?_; (case hd => rfl); (case hg => rfl); (case hr => first | (go_simp; done) | (go_simp; rfl)); intro gb161 hg w7 hbox hb; have n0_ := am_ (vb_ (Kd.V_elderB (pV_ HO0_2.out) gb161 (le_ hg.symm)) hb); have n1_ := am_ (bw_ (g := gb160) (o := .cells #[.int .i64 a0_0, .int .i64 a0_1, .slice A0_2 l0_2.length c0_2] 35 (0, 0)) (pk_ BK160.out) hb); have n2_ := am_ (sp_ (pb1_ HB.out GE160.out) hb); have n3_ := am_ (hbox); have n4_ := am_ ((by rw [hg]; exact (bz_ (pb1_ HB.out GE160.out)) : w.heap.size ≤ gb161)); have n5_ := am_ ((by rw [hg]; exact (bz_ (pb1_ HB.out GE160.out)) : w.heap.size ≤ gb161)); have n6_ := am_ ((by rw [hg]; exact Nat.ne_of_lt (blk_lt (g := gb160) (o := .cells #[.int .i64 a0_0, .int .i64 a0_1, .slice A0_2 l0_2.length c0_2] 35 (0, 0)) (pk_ BK160.out)) : gb160 ≠ gb161)); have n7_ := am_ ((by rw [hg]; exact Nat.ne_of_gt (blk_lt (g := gb160) (o := .cells #[.int .i64 a0_0, .int .i64 a0_1, .slice A0_2 l0_2.length c0_2] 35 (0, 0)) (pk_ BK160.out)) : gb161 ≠ gb160)); clear HO0_2; clear BK160; clear HB; have HO0_2 := n0_; have BK160 := n1_; have HB := n2_; have BK161 := n3_; have GW161 := n4_; have GE161 := n5_; have NB160_161 := n6_; have NB161_160 := n7_; clear n0_ n1_ n2_ n3_ n4_ n5_ n6_ n7_; clear hb hbox hg; have hnb8 := NB160_161.out; have hnc8 := NB161_160.out; have hcz9_0 : w7.cell? ⟨gb160, 0, none⟩ = some (.int .i64 a0_0) := (bc_ BK160.out 0).trans rfl; have hcz9_1 : w7.cell? ⟨gb160, 1, none⟩ = some (.int .i64 a0_1) := (bc_ BK160.out 1).trans rfl; have hcz9_2 : w7.cell? ⟨gb160, 2, none⟩ = some (.slice A0_2 l0_2.length c0_2) := (bc_ BK160.out 2).trans rfl; have hfz9_0 := bf_ BK160.out 0; have hfz9_1 := bf_ BK160.out 1; have hfz9_2 := bf_ BK160.out 2) | ((with_reducible refine gate_callee (f := 27) rfl ?_); refine goesL_ (some 8) rfl rfl Try.func27 (by kernel_rfl) rfl #[.agg #[.int .i64 a0_0, .int .i64 a0_1, .slice A0_2 l0_2.length c0_2]] rfl au_ ?_; (with_reducible refine (replica_Node_valid.calls k a0_0 a0_1 _ _ l0_2 true _ ?side1 ?side2 A3.out).mono ?_); (case side1 => repeat (first | exact (Kd.V_reads' HO0_2.out).2.2 | (with_reducible refine Kd.C_alloc ?_ _) | (with_reducible refine Kd.C_drewN ?_ _) | (with_reducible refine Kd.C_drew ?_))); (case side2 => exact (Kd.V_reads' HO0_2.out).2.1); rintro e w10 ⟨rfl, hb⟩; refine ⟨_, rfl, ?_⟩; have n0_ := am_ (vb_ (pV_ HO0_2.out) hb); have n1_ := am_ (bw_ (g := gb160) (o := .cells #[.int .i64 a0_0, .int .i64 a0_1, .slice A0_2 l0_2.length c0_2] 35 (0, 0)) (pk_ BK160.out) hb); have n2_ := am_ (bw_ (g := gb161) (o := .cells #[.int .i64 0, .int .i64 0, .int .i64 0, .slice none 0 0, .int .i64 0] 30 (0, 0)) (pk_ BK161.out) hb); have n3_ := am_ (sp_ (pb2_ HB.out GE160.out GE161.out) hb); clear HO0_2; clear BK160; clear BK161; clear HB; have HO0_2 := n0_; have BK160 := n1_; have BK161 := n2_; have HB := n3_; clear n0_ n1_ n2_ n3_; (try clear hb); (try clear hb2); (try clear hk); (try clear hi); have hcz11_0 : w10.cell? ⟨gb160, 0, none⟩ = some (.int .i64 a0_0) := (bc_ BK160.out 0).trans rfl; have hcz11_1 : w10.cell? ⟨gb160, 1, none⟩ = some (.int .i64 a0_1) := (bc_ BK160.out 1).trans rfl; have hcz11_2 : w10.cell? ⟨gb160, 2, none⟩ = some (.slice A0_2 l0_2.length c0_2) := (bc_ BK160.out 2).trans rfl; have hfz11_0 := bf_ BK160.out 0; have hfz11_1 := bf_ BK160.out 1; have hfz11_2 := bf_ BK160.out 2; have hcz12_0 : w10.cell? ⟨gb161, 0, none⟩ = some (.int .i64 0) := (bc_ BK161.out 0).trans rfl; have hcz12_1 : w10.cell? ⟨gb161, 1, none⟩ = some (.int .i64 0) := (bc_ BK161.out 1).trans rfl; have hcz12_2 : w10.cell? ⟨gb161, 2, none⟩ = some (.int .i64 0) := (bc_ BK161.out 2).trans rfl; have hcz12_3 : w10.cell? ⟨gb161, 3, none⟩ = some (.slice none 0 0) := (bc_ BK161.out 3).trans rfl; have hcz12_4 : w10.cell? ⟨gb161, 4, none⟩ = some (.int .i64 0) := (bc_ BK161.out 4).trans rfl; have hfz12_0 := bf_ BK161.out 0; have hfz12_1 := bf_ BK161.out 1; have hfz12_2 := bf_ BK161.out 2; have hfz12_3 := bf_ BK161.out 3; have hfz12_4 := bf_ BK161.out 4))
   refine bodyPost_ret (results_ct rfl _ _ gb161 30 #[.int .i64 0, .int .i64 0, .int .i64 0, .slice none 0 0, .int .i64 0] (0, 0) _ rfl (by (with_reducible repeat (first | refine bn_ ?_ _ | refine bd_ ?_ | refine ba_ ?_ _)); refine blk_put (cs := #[.int .i64 0, .int .i64 0, .int .i64 0, .slice none 0 0, .int .i64 0]) ?_ 4 _ rfl; (with_reducible repeat (first | refine bn_ ?_ _ | refine bd_ ?_ | refine ba_ ?_ _)); refine blk_put (cs := #[.int .i64 0, .int .i64 0, .int .i64 0, .slice none 0 0, .int .i64 0]) ?_ 3 _ rfl; (with_reducible repeat (first | refine bn_ ?_ _ | refine bd_ ?_ | refine ba_ ?_ _)); refine blk_put (cs := #[.int .i64 0, .int .i64 0, .int .i64 0, .slice none 0 0, .int .i64 0]) ?_ 2 _ rfl; (with_reducible repeat (first | refine bn_ ?_ _ | refine bd_ ?_ | refine ba_ ?_ _)); refine blk_put (cs := #[.int .i64 0, .int .i64 0, .int .i64 0, .slice none 0 0, .int .i64 0]) ?_ 1 _ rfl; (with_reducible repeat (first | refine bn_ ?_ _ | refine bd_ ?_ | refine ba_ ?_ _)); refine blk_put (cs := #[.int .i64 0, .int .i64 0, .int .i64 0, .slice none 0 0, .int .i64 0]) ?_ 0 _ rfl; (with_reducible repeat (first | refine bn_ ?_ _ | refine bd_ ?_ | refine ba_ ?_ _)); exact BK161.out) Try.underlying30 rfl (by kernel_rfl)) rfl ?_
   exact ⟨_, by first | rfl | (simp [errW_none, errW_some] <;> rfl) | (simp [*, errW_none, errW_some] <;> rfl), by first | exact Kd.S_nil _ _ _ _ _ | exact Kd.N_nil _ _ _ _ _ | exact Kd.V_nil _ _ _ _ _ | exact Kd.Q_nil _ _ _ _ _ | exact Kd.R_nil _ _ _ _ _, pb2_ HB.out GE160.out GE161.out⟩
  ·
   rw [if_neg c5] at H
   have c5b0 : (a0_0 == 0) = false := beq_eq_false_iff_ne.mpr c5
   have c5b1 : (a0_0 != 0) = true := bne_iff_ne.mpr c5
   have HC13 := am_ H
   clear H
   go_enter Try.func10, Try.ntmps10
   go_upto_region 5 with (first | ((with_reducible refine gate_dst (N := 2) rfl ?_); (try (refine gate_guard (by rfl) ?_; dsimp only)); refine box_event ?hg (N := 2) ?hd (cs := #[.int .i64 a0_0, .int .i64 a0_1, .slice A0_2 l0_2.length c0_2]) (t := 35) ?hr ?_; (case hd => rfl); (case hg => rfl); (case hr => first | (go_simp; done) | (go_simp; rfl)); intro gb160 hg w14 hbox hb; have n0_ := am_ (vb_ (Kd.V_elderB (pV_ HO0_2.out) gb160 (le_ hg.symm)) hb); have n1_ := am_ (sp_ (pb0_ HB.out) hb); have n2_ := am_ (hbox); have n3_ := am_ ((by rw [hg]; exact (bz_ (pb0_ HB.out)) : w.heap.size ≤ gb160)); have n4_ := am_ ((by rw [hg]; exact (bz_ (pb0_ HB.out)) : w.heap.size ≤ gb160)); clear HO0_2; clear HB; have HO0_2 := n0_; have HB := n1_; have BK160 := n2_; have GW160 := n3_; have GE160 := n4_; clear n0_ n1_ n2_ n3_ n4_; clear hb hbox hg) | ((with_reducible refine gate_dst (N := 4) rfl ?_); (try (refine gate_guard (by rfl) ?_; dsimp only)); refine box_event ?hg (N := 4) ?hd (cs := #[.int .i64 0, .int .i64 0, .int .i64 0, .slice none 0 0, .int .i64 0]) (t := 30) ?hr ?_; (case hd => rfl); (case hg => rfl); (case hr => first | (go_simp; done) | (go_simp; rfl)); intro gb161 hg w15 hbox hb; have n0_ := am_ (vb_ (Kd.V_elderB (pV_ HO0_2.out) gb161 (le_ hg.symm)) hb); have n1_ := am_ (bw_ (g := gb160) (o := .cells #[.int .i64 a0_0, .int .i64 a0_1, .slice A0_2 l0_2.length c0_2] 35 (0, 0)) (pk_ BK160.out) hb); have n2_ := am_ (sp_ (pb1_ HB.out GE160.out) hb); have n3_ := am_ (hbox); have n4_ := am_ ((by rw [hg]; exact (bz_ (pb1_ HB.out GE160.out)) : w.heap.size ≤ gb161)); have n5_ := am_ ((by rw [hg]; exact (bz_ (pb1_ HB.out GE160.out)) : w.heap.size ≤ gb161)); have n6_ := am_ ((by rw [hg]; exact Nat.ne_of_lt (blk_lt (g := gb160) (o := .cells #[.int .i64 a0_0, .int .i64 a0_1, .slice A0_2 l0_2.length c0_2] 35 (0, 0)) (pk_ BK160.out)) : gb160 ≠ gb161)); have n7_ := am_ ((by rw [hg]; exact Nat.ne_of_gt (blk_lt (g := gb160) (o := .cells #[.int .i64 a0_0, .int .i64 a0_1, .slice A0_2 l0_2.length c0_2] 35 (0, 0)) (pk_ BK160.out)) : gb161 ≠ gb160)); clear HO0_2; clear BK160; clear HB; have HO0_2 := n0_; have BK160 := n1_; have HB := n2_; have BK161 := n3_; have GW161 := n4_; have GE161 := n5_; have NB160_161 := n6_; have NB161_160 := n7_; clear n0_ n1_ n2_ n3_ n4_ n5_ n6_ n7_; clear hb hbox hg; have hnb16 := NB160_161.out; have hnc16 := NB161_160.out; have hcz17_0 : w15.cell? ⟨gb160, 0, none⟩ = some (.int .i64 a0_0) := (bc_ BK160.out 0).trans rfl; have hcz17_1 : w15.cell? ⟨gb160, 1, none⟩ = some (.int .i64 a0_1) := (bc_ BK160.out 1).trans rfl; have hcz17_2 : w15.cell? ⟨gb160, 2, none⟩ = some (.slice A0_2 l0_2.length c0_2) := (bc_ BK160.out 2).trans rfl; have hfz17_0 := bf_ BK160.out 0; have hfz17_1 := bf_ BK160.out 1; have hfz17_2 := bf_ BK160.out 2) | ((with_reducible refine gate_callee (f := 27) rfl ?_); refine goesL_ (some 8) rfl rfl Try.func27 (by kernel_rfl) rfl #[.agg #[.int .i64 a0_0, .int .i64 a0_1, .slice A0_2 l0_2.length c0_2]] rfl au_ ?_; (with_reducible refine (replica_Node_valid.calls k a0_0 a0_1 _ _ l0_2 true _ ?side1 ?side2 A3.out).mono ?_); (case side1 => repeat (first | exact (Kd.V_reads' HO0_2.out).2.2 | (with_reducible refine Kd.C_alloc ?_ _) | (with_reducible refine Kd.C_drewN ?_ _) | (with_reducible refine Kd.C_drew ?_))); (case side2 => exact (Kd.V_reads' HO0_2.out).2.1); rintro e w18 ⟨rfl, hb⟩; refine ⟨_, rfl, ?_⟩; have n0_ := am_ (vb_ (pV_ HO0_2.out) hb); have n1_ := am_ (bw_ (g := gb160) (o := .cells #[.int .i64 a0_0, .int .i64 a0_1, .slice A0_2 l0_2.length c0_2] 35 (0, 0)) (pk_ BK160.out) hb); have n2_ := am_ (bw_ (g := gb161) (o := .cells #[.int .i64 0, .int .i64 0, .int .i64 0, .slice none 0 0, .int .i64 0] 30 (0, 0)) (pk_ BK161.out) hb); have n3_ := am_ (sp_ (pb2_ HB.out GE160.out GE161.out) hb); clear HO0_2; clear BK160; clear BK161; clear HB; have HO0_2 := n0_; have BK160 := n1_; have BK161 := n2_; have HB := n3_; clear n0_ n1_ n2_ n3_; (try clear hb); (try clear hb2); (try clear hk); (try clear hi); have hcz19_0 : w18.cell? ⟨gb160, 0, none⟩ = some (.int .i64 a0_0) := (bc_ BK160.out 0).trans rfl; have hcz19_1 : w18.cell? ⟨gb160, 1, none⟩ = some (.int .i64 a0_1) := (bc_ BK160.out 1).trans rfl; have hcz19_2 : w18.cell? ⟨gb160, 2, none⟩ = some (.slice A0_2 l0_2.length c0_2) := (bc_ BK160.out 2).trans rfl; have hfz19_0 := bf_ BK160.out 0; have hfz19_1 := bf_ BK160.out 1; have hfz19_2 := bf_ BK160.out 2))
   (try simp only [Act.put, lt1_, lt2_, lt3_])
   go_cut [16] (fun v16 wc => ∃ (kq : Nat) (x16_12 : Bool), v16 = .bool x16_12 ∧ Aside0 (replica_Offer.j0 kq a1 x16_12 a0_0 a0_1 l0_2 = some (r1, r2, r3, r4, r5, r6)) ∧ Aside0 (kq ≤ k) ∧ Aside0 (Kd.V k87 87 wc w.heap.size (fun k_ => (P0_2_ k_ ∨ w.heap.size ≤ k_) ∧ k_ ≠ gb160 ∧ k_ ≠ gb161) (.slice A0_2 l0_2.length c0_2) l0_2) ∧ Aside0 (wc.heap[gb160]? = some (.cells #[.int .i64 a0_0, .int .i64 a0_1, (.slice A0_2 l0_2.length c0_2)] 35 (0, 0))) ∧ Aside0 (wc.heap[gb161]? = some (.cells #[.int .i64 0, .int .i64 0, .int .i64 0, (.slice none 0 0), .int .i64 0] 30 (0, 0))) ∧ Aside0 (Below w.heap.size w wc))
   case first =>
    have H := HC13.out
    clear HC13
    by_cases c20 : a1 < 0
    ·
     rw [if_pos c20] at H
     have c20b0 : decide (a1 < 0) = true := de_ c20
     clear c20
     (first | rw [c20b0] | (simp only [i64_w, i32_w]; rw [c20b0]) | rw [c20b2] | skip)
     have H' := am_ H
     clear H
     go_wp2
     go_meet
     case rel => exact ⟨_, (true), (by first | rfl | (simp; done) | (simp [*]; done)), H', ⟨by first | omega | exact Nat.le_refl _⟩, ⟨by (with_reducible repeat (first | apply va_ | apply vn_ | apply vd_)); exact vm_ HO0_2.out (fun _ hk => ⟨hk.1.1, ⟨hk.1.2, hk.2⟩⟩)⟩, ⟨by (with_reducible repeat (first | refine bn_ ?_ _ | refine bd_ ?_ | refine ba_ ?_ _)); exact BK160.out⟩, ⟨by (with_reducible repeat (first | refine bn_ ?_ _ | refine bd_ ?_ | refine ba_ ?_ _)); exact BK161.out⟩, ⟨pb2_ HB.out GE160.out GE161.out⟩⟩
    ·
     rw [if_neg c20] at H
     have c20b0 : decide (a1 < 0) = false := df_ c20
     clear c20
     (first | rw [c20b0] | (simp only [i64_w, i32_w]; rw [c20b0]) | rw [c20b2] | skip)
     have H' := am_ H
     clear H
     have hnb21 := NB160_161.out
     have hnc21 := NB161_160.out
     have hcz22_0 : w18.cell? ⟨gb160, 0, none⟩ = some (.int .i64 a0_0) := (bc_ BK160.out 0).trans rfl
     have hcz22_1 : w18.cell? ⟨gb160, 1, none⟩ = some (.int .i64 a0_1) := (bc_ BK160.out 1).trans rfl
     have hcz22_2 : w18.cell? ⟨gb160, 2, none⟩ = some (.slice A0_2 l0_2.length c0_2) := (bc_ BK160.out 2).trans rfl
     have hfz22_0 := bf_ BK160.out 0
     have hfz22_1 := bf_ BK160.out 1
     have hfz22_2 := bf_ BK160.out 2
     go_wp2
     go_meet
     case rel => exact ⟨_, (decide (a1 > (l0_2.length : Int))), (by first | rfl | (simp; done) | (simp [*]; done)), H', ⟨by first | omega | exact Nat.le_refl _⟩, ⟨by (with_reducible repeat (first | apply va_ | apply vn_ | apply vd_)); exact vm_ HO0_2.out (fun _ hk => ⟨hk.1.1, ⟨hk.1.2, hk.2⟩⟩)⟩, ⟨by (with_reducible repeat (first | refine bn_ ?_ _ | refine bd_ ?_ | refine ba_ ?_ _)); exact BK160.out⟩, ⟨by (with_reducible repeat (first | refine bn_ ?_ _ | refine bd_ ?_ | refine ba_ ?_ _)); exact BK161.out⟩, ⟨pb2_ HB.out GE160.out GE161.out⟩⟩
   case rest =>
    clear HC13
    try clear c1
    try clear c2
    try clear p2
    try clear c4
    try clear c5
    try clear c5b0
    try clear c5b1
    try clear c8
    try clear c10
    try clear c16
    try clear c20
    try clear c20b0
    try clear c20b2
    try clear c21
    try clear hcz11_0
    try clear hcz11_1
    try clear hcz11_2
    try clear hcz12_0
    try clear hcz12_1
    try clear hcz12_2
    try clear hcz12_3
    try clear hcz12_4
    try clear hcz17_0
    try clear hcz17_1
    try clear hcz17_2
    try clear hcz19_0
    try clear hcz19_1
    try clear hcz19_2
    try clear hcz22_0
    try clear hcz22_1
    try clear hcz22_2
    try clear hcz9_0
    try clear hcz9_1
    try clear hcz9_2
    try clear hfz11_0
    try clear hfz11_1
    try clear hfz11_2
    try clear hfz12_0
    try clear hfz12_1
    try clear hfz12_2
    try clear hfz12_3
    try clear hfz12_4
    try clear hfz17_0
    try clear hfz17_1
    try clear hfz17_2
    try clear hfz19_0
    try clear hfz19_1
    try clear hfz19_2
    try clear hfz22_0
    try clear hfz22_1
    try clear hfz22_2
    try clear hfz9_0
    try clear hfz9_1
    try clear hfz9_2
    obtain ⟨kq, x16_12, rfl, HA, HJ12, HO_161002, BK160, BK161, HB⟩ := hcut
    cases kq with
    | zero => exact absurd HA.out (by simp [replica_Offer.j0])
    | succ kj12 =>
     have H := HA.out
     clear HA
     simp only [replica_Offer.j0] at H
     by_cases c23 : x16_12 = true
     ·
      subst c23
      have H1 : (some (0, 0, 0, ([] : List (S87)), 0, 7)) = some (r1, r2, r3, r4, r5, r6) := by rw [if_pos rfl] at H; exact H
      clear H
      have H := H1
      clear H1
      simp only [Option.some.injEq, Prod.mk.injEq] at H
      obtain ⟨rfl, rfl, rfl, rfl, rfl, rfl⟩ := H
      have hnb24 := NB161_160.out
      have hnc24 := NB160_161.out
      have hcz25_0 : wc.cell? ⟨gb161, 0, none⟩ = some (.int .i64 0) := (bc_ BK161.out 0).trans rfl
      have hcz25_1 : wc.cell? ⟨gb161, 1, none⟩ = some (.int .i64 0) := (bc_ BK161.out 1).trans rfl
      have hcz25_2 : wc.cell? ⟨gb161, 2, none⟩ = some (.int .i64 0) := (bc_ BK161.out 2).trans rfl
      have hcz25_3 : wc.cell? ⟨gb161, 3, none⟩ = some (.slice none 0 0) := (bc_ BK161.out 3).trans rfl
      have hcz25_4 : wc.cell? ⟨gb161, 4, none⟩ = some (.int .i64 0) := (bc_ BK161.out 4).trans rfl
      have hfz25_0 := bf_ BK161.out 0
      have hfz25_1 := bf_ BK161.out 1
      have hfz25_2 := bf_ BK161.out 2
      have hfz25_3 := bf_ BK161.out 3
      have hfz25_4 := bf_ BK161.out 4
      go_wp2
      refine bodyPost_ret (results_ct rfl _ _ gb161 30 #[.int .i64 0, .int .i64 0, .int .i64 0, .slice none 0 0, .int .i64 0] (0, 0) _ rfl (by (with_reducible repeat (first | refine bn_ ?_ _ | refine bd_ ?_ | refine ba_ ?_ _)); refine blk_put (cs := #[.int .i64 0, .int .i64 0, .int .i64 0, .slice none 0 0, .int .i64 0]) ?_ 4 _ rfl; (with_reducible repeat (first | refine bn_ ?_ _ | refine bd_ ?_ | refine ba_ ?_ _)); refine blk_put (cs := #[.int .i64 0, .int .i64 0, .int .i64 0, .slice none 0 0, .int .i64 0]) ?_ 3 _ rfl; (with_reducible repeat (first | refine bn_ ?_ _ | refine bd_ ?_ | refine ba_ ?_ _)); refine blk_put (cs := #[.int .i64 0, .int .i64 0, .int .i64 0, .slice none 0 0, .int .i64 0]) ?_ 2 _ rfl; (with_reducible repeat (first | refine bn_ ?_ _ | refine bd_ ?_ | refine ba_ ?_ _)); refine blk_put (cs := #[.int .i64 0, .int .i64 0, .int .i64 0, .slice none 0 0, .int .i64 0]) ?_ 1 _ rfl; (with_reducible repeat (first | refine bn_ ?_ _ | refine bd_ ?_ | refine ba_ ?_ _)); refine blk_put (cs := #[.int .i64 0, .int .i64 0, .int .i64 0, .slice none 0 0, .int .i64 0]) ?_ 0 _ rfl; (with_reducible repeat (first | refine bn_ ?_ _ | refine bd_ ?_ | refine ba_ ?_ _)); exact BK161.out) Try.underlying30 rfl (by kernel_rfl)) rfl ?_
      exact ⟨_, by first | rfl | (simp [errW_none, errW_some] <;> rfl) | (simp [*, errW_none, errW_some] <;> rfl), by first | exact Kd.S_nil _ _ _ _ _ | exact Kd.N_nil _ _ _ _ _ | exact Kd.V_nil _ _ _ _ _ | exact Kd.Q_nil _ _ _ _ _ | exact Kd.R_nil _ _ _ _ _, pb2_ HB.out GE160.out GE161.out⟩
     ·
      replace c23 := Bool.eq_false_iff.mpr c23
      subst c23
      have H1 : ((replica_Node_end.f a0_0 a0_1 l0_2 a1).bind fun t163 => (if 0 ≤ a1 then (if a1 ≤ (l0_2.length : Int) then ((replica_copied.f kj12 (l0_2.drop (a1 : Int).toNat)).bind fun t169 => (some (a0_0, a1, t163, t169, a0_1, 0))) else (none)) else (none))) = some (r1, r2, r3, r4, r5, r6) := by rw [if_neg (show ¬ (false = true) by decide)] at H; exact H
      clear H
      have H := H1
      clear H1
      replace H := Option.bind_eq_some_iff.mp H
      obtain ⟨t163, A260, H⟩ := H
      replace H : (if 0 ≤ a1 then (if a1 ≤ (l0_2.length : Int) then ((replica_copied.f kj12 (l0_2.drop (a1 : Int).toNat)).bind fun t169 => (some (a0_0, a1, t163, t169, a0_1, 0))) else (none)) else (none)) = some (r1, r2, r3, r4, r5, r6) := H
      have A26 := am_ A260
      clear A260
      by_cases c27 : 0 ≤ a1
      ·
       rw [if_pos c27] at H
       have c27b0 := eq_true c27
       have c27b1 : decide (0 ≤ a1) = true := de_ c27
       clear c27
       by_cases c28 : a1 ≤ (l0_2.length : Int)
       ·
        rw [if_pos c28] at H
        have c28b0 := eq_true c28
        have c28b1 : decide (a1 ≤ (l0_2.length : Int)) = true := de_ c28
        clear c28
        obtain ⟨y164, hy164⟩ : ∃ y_ : List (S87), y_ = (l0_2.drop (a1 : Int).toNat) := ⟨_, rfl⟩
        replace H : ((replica_copied.f kj12 y164).bind fun t169 => (some (a0_0, a1, t163, t169, a0_1, 0))) = some (r1, r2, r3, r4, r5, r6) := by first | (rw [hy164]; with_reducible exact H) | (have H2_ := (Option.bind_some _ _).symm.trans H; rw [hy164]; with_reducible exact H2_) | (have H2_ := (Option.bind_some _ _).symm.trans H; with_reducible exact H2_) | with_reducible exact H | (rw [hy164]; exact H) | exact H
        have Ny164 := am_ hy164
        clear hy164
        replace H := Option.bind_eq_some_iff.mp H
        obtain ⟨t169, A290, H⟩ := H
        replace H : (some (a0_0, a1, t163, t169, a0_1, 0)) = some (r1, r2, r3, r4, r5, r6) := H
        have A29 := am_ A290
        clear A290
        simp only [Option.some.injEq, Prod.mk.injEq] at H
        obtain ⟨rfl, rfl, rfl, rfl, rfl, rfl⟩ := H
        try go_wp2
        have n0_ := am_ (vd_ HO_161002.out)
        have n1_ := am_ (bd_ BK160.out)
        have n2_ := am_ (bd_ BK161.out)
        have n3_ := am_ (b1_ HB.out)
        clear HO_161002
        clear BK160
        clear BK161
        clear HB
        have HO_161002 := n0_
        have BK160 := n1_
        have BK161 := n2_
        have HB := n3_
        clear n0_ n1_ n2_ n3_
        have q31 : (a1 : Int) ≤ ((l0_2.length : Int) : Int) := ot_ (by first | (with_reducible assumption) | assumption)
        obtain ⟨i031, hi031, _, hsz31, _⟩ := info_parts info87
        have hroom31 : l0_2.length ≤ c0_2 := (Kd.V_reads' HO_161002.out).2.1
        have hC31 : Kd.F k87 _ _ A0_2 l0_2.length l0_2 := (Kd.V_at (base := w.heap.size) HO_161002.out).2.2
        have q031 : (0 : Int) ≤ (a1 : Int) := ot_ (by first | (with_reducible assumption) | assumption)
        have hcut31 := cut_from (P := Try.prog) 28 87 .i64 Try.underlying28 hi031 2 hsz31 A0_2 l0_2.length c0_2 a1 q031 q31
        have hr31 := Kd.F_cut (m := (a1 : Int).toNat) (c := c0_2) hC31 (by omega) hroom31
        obtain ⟨A31, hA31⟩ : ∃ A1, A1 = (if c0_2 = (a1 : Int).toNat then A0_2 else (A0_2 : Option Addr).map (·.add ((a1 : Int).toNat * 2))) := ⟨_, rfl⟩
        obtain ⟨c31, hc31⟩ : ∃ c1, c1 = c0_2 - (a1 : Int).toNat := ⟨_, rfl⟩
        have hy31 : y164.length = l0_2.length - (a1 : Int).toNat := (by rw [Ny164.out, List.length_drop] <;> omega)
        rw [show (l0_2).drop (a1 : Int).toNat = y164 from Ny164.out.symm] at hr31
        replace hr31 : Kd.F k87 _ _ A31 y164.length y164 := (by rw [hA31]; exact hr31)
        rw [← hy31, ← hA31, ← hc31] at hcut31
        have HO168 := am_ (show Kd.V k87 87 _ w.heap.size _ (.slice A31 y164.length c31) y164 from Kd.V_mk (by rw [hy31, hc31]; exact Nat.sub_le_sub_right hroom31 _) hr31)
        have HC168 := am_ (show y164.length ≤ c31 from by rw [hy31, hc31]; exact Nat.sub_le_sub_right hroom31 _)
        clear hr31 hC31 hroom31 hi031 hsz31 hc31
        have KY31 := am_ hy31
        have KA31 := am_ hA31
        clear hy31 hA31
        replace q31 := eq_true q31
        refine start_ (n := 16) (S := fun w' => w'.cell? ⟨gb160, 0, none⟩ = some (.int .i64 a0_0) ∧ w'.cell? ⟨gb160, 1, none⟩ = some (.int .i64 a0_1) ∧ w'.cell? ⟨gb160, 2, none⟩ = some (.slice A0_2 l0_2.length c0_2)) (ds := []) #[false, false, false, false, false, false, false, false, false, false, false, false, false, false, false, false] (by kernel_rfl) rfl rfl ⟨(bc_ BK160.out 0).trans rfl, (bc_ BK160.out 1).trans rfl, (bc_ BK160.out 2).trans rfl⟩ (fun hHeld => ?_); refine with_tabW replica_Offer.tab7 replica_Offer.bits7 (fun HT_ HW_ => ?_)
        generalize wc.drew = w30 at HO_161002 BK160 BK161 HB HO168 hHeld ⊢
        refine pure_ (i := 0) (N := some 27) (v := ?_) (a' := ?_) #[true, false, false, false, false, false, false, false, false, false, false, false, false, false, false, false] rfl rfl (any_of HT_.out (by kernel_rfl)) (fun _ _ _ h => h) (Or.inl ⟨by rfl, ?_⟩) ?_ ?_
        rotate_left
        ·
         intro w'
         go_simp
         with_reducible rfl
        rotate_left
        ·
         simp only [Act.put, lt1_, lt2_, lt3_, i64_w, i32_w]
         rfl
        refine pure_ (i := 2) (N := some 29) (v := ?_) (a' := ?_) #[true, false, true, false, false, false, false, false, false, false, false, false, false, false, false, false] rfl rfl (any_of HT_.out (by kernel_rfl)) (fun _ _ _ h => h) (Or.inl ⟨by rfl, ?_⟩) ?_ ?_
        rotate_left
        ·
         intro w'
         go_simp
         with_reducible rfl
        rotate_left
        ·
         simp only [Act.put, lt1_, lt2_, lt3_, i64_w, i32_w]
         rfl
        refine pure_ (i := 4) (N := some 31) (v := ?_) (a' := ?_) #[true, false, true, false, true, false, false, false, false, false, false, false, false, false, false, false] rfl rfl (any_of HT_.out (by kernel_rfl)) (fun _ _ _ h => h) (Or.inl ⟨by rfl, ?_⟩) ?_ ?_
        rotate_left
        ·
         intro w'
         go_simp
         with_reducible rfl
        rotate_left
        ·
         simp only [Act.put, lt1_, lt2_, lt3_, i64_w, i32_w]
         rfl
        refine pure_ (i := 6) (N := some 33) (v := ?_) (a' := ?_) #[true, false, true, false, true, false, true, false, false, false, false, false, false, false, false, false] rfl rfl (any_of HT_.out (by kernel_rfl)) (fun _ _ _ h => h) (Or.inl ⟨by rfl, ?_⟩) ?_ ?_
        rotate_left
        ·
         intro w'
         go_simp
         with_reducible rfl
        rotate_left
        ·
         simp only [Act.put, lt1_, lt2_, lt3_, i64_w, i32_w]
         rfl
        refine pure_ (i := 8) (N := some 35) (v := ?_) (a' := ?_) #[true, false, true, false, true, false, true, false, true, false, false, false, false, false, false, false] rfl rfl (any_of HT_.out (by kernel_rfl)) (fun _ _ _ h => h) (Or.inl ⟨by rfl, ?_⟩) ?_ ?_
        rotate_left
        ·
         intro w'
         go_simp
         with_reducible rfl
        rotate_left
        ·
         simp only [Act.put, lt1_, lt2_, lt3_, i64_w, i32_w]
         rfl
        refine pure_ (i := 11) (N := some 38) (v := ?_) (a' := ?_) #[true, false, true, false, true, false, true, false, true, false, false, true, false, false, false, false] rfl rfl (any_of HT_.out (by kernel_rfl)) (fun _ _ _ h => h) (Or.inl ⟨by rfl, ?_⟩) ?_ ?_
        rotate_left
        ·
         intro w'
         go_simp
         with_reducible rfl
        rotate_left
        ·
         simp only [Act.put, lt1_, lt2_, lt3_, i64_w, i32_w]
         rfl
        refine take_ (i := 1) (N := some 28) (v := ?_) (a' := ?_) #[true, true, true, false, true, false, true, false, true, false, false, true, false, false, false, false] rfl rfl (take_ofW HT_.out HW_.out (by kernel_rfl)) (fun _ _ _ h => h) (Or.inl ⟨by rfl, ?_⟩) hHeld ?_ ?_
        rotate_left
        ·
         rintro w' ⟨s0, s1, s2⟩
         go_simp
         with_reducible rfl
        rotate_left
        ·
         simp only [Act.put, lt1_, lt2_, lt3_, i64_w, i32_w]
         rfl
        refine take_ (i := 3) (N := some 30) (v := ?_) (a' := ?_) #[true, true, true, true, true, false, true, false, true, false, false, true, false, false, false, false] rfl rfl (take_ofW HT_.out HW_.out (by kernel_rfl)) (fun _ _ _ h => h) (Or.inl ⟨by rfl, ?_⟩) hHeld ?_ ?_
        rotate_left
        ·
         rintro w' ⟨s0, s1, s2⟩
         go_simp
         with_reducible rfl
        rotate_left
        ·
         simp only [Act.put, lt1_, lt2_, lt3_, i64_w, i32_w]
         rfl
        refine take_ (i := 7) (N := some 34) (v := ?_) (a' := ?_) #[true, true, true, true, true, false, true, true, true, false, false, true, false, false, false, false] rfl rfl (take_ofW HT_.out HW_.out (by kernel_rfl)) (fun _ _ _ h => h) (Or.inl ⟨by rfl, ?_⟩) hHeld ?_ ?_
        rotate_left
        ·
         rintro w' ⟨s0, s1, s2⟩
         go_simp
         with_reducible rfl
        rotate_left
        ·
         simp only [Act.put, lt1_, lt2_, lt3_, i64_w, i32_w]
         rfl
        refine pure_ (i := 9) (N := some 36) (v := ?_) (a' := ?_) #[true, true, true, true, true, false, true, true, true, true, false, true, false, false, false, false] rfl rfl (any_of HT_.out (by kernel_rfl)) (fun _ _ _ h => h) (Or.inl ⟨by rfl, ?_⟩) ?_ ?_
        rotate_left
        ·
         intro w'
         go_simp
         with_reducible rfl
        rotate_left
        ·
         simp only [Act.put, lt1_, lt2_, lt3_, i64_w, i32_w]
         rfl
        refine take_ (i := 12) (N := some 39) (v := ?_) (a' := ?_) #[true, true, true, true, true, false, true, true, true, true, false, true, true, false, false, false] rfl rfl (take_ofW HT_.out HW_.out (by kernel_rfl)) (fun _ _ _ h => h) (Or.inl ⟨by rfl, ?_⟩) hHeld ?_ ?_
        rotate_left
        ·
         rintro w' ⟨s0, s1, s2⟩
         go_simp
         with_reducible rfl
        rotate_left
        ·
         simp only [Act.put, lt1_, lt2_, lt3_, i64_w, i32_w]
         rfl
        refine one_ (i := 5) (N := some 32) #[true, true, true, true, true, true, true, true, true, true, false, true, true, false, false, false] rfl rfl (one_of HT_.out (by kernel_rfl)) (by decide) (fun K hK => ?_)
        refine goes_ Try.func28 (by kernel_rfl) rfl #[.agg #[.int .i64 a0_0, .int .i64 a0_1, .slice A0_2 l0_2.length c0_2], .int .i64 a1] (by rfl) rfl rfl au_ ?_
        with_reducible refine (replica_Node_end.calls a0_0 a0_1 _ _ l0_2 a1 t163 _ ?side1 ?side2 A26.out).mono ?_
        (case side1 => repeat (first | exact (Kd.V_reads' HO_161002.out).2.2 | (with_reducible refine Kd.C_alloc ?_ _) | (with_reducible refine Kd.C_drewN ?_ _) | (with_reducible refine Kd.C_drew ?_)))
        (case side2 => exact (Kd.V_reads' HO_161002.out).2.1)
        rintro e w32 ⟨rfl, hb⟩
        refine ⟨_, rfl, ?_⟩
        have n0_ := am_ (vb_ (pV_ HO_161002.out) hb)
        have n1_ := am_ (vb_ (pV_ HO168.out) hb)
        have n2_ := am_ (bw_ (g := gb160) (o := .cells #[.int .i64 a0_0, .int .i64 a0_1, .slice A0_2 l0_2.length c0_2] 35 (0, 0)) (pk_ BK160.out) hb)
        have n3_ := am_ (bw_ (g := gb161) (o := .cells #[.int .i64 0, .int .i64 0, .int .i64 0, .slice none 0 0, .int .i64 0] 30 (0, 0)) (pk_ BK161.out) hb)
        have n4_ := am_ (sp_ (pb2_ HB.out GE160.out GE161.out) hb)
        clear HO_161002
        clear HO168
        clear BK160
        clear BK161
        clear HB
        have HO_161002 := n0_
        have HO168 := n1_
        have BK160 := n2_
        have BK161 := n3_
        have HB := n4_
        clear n0_ n1_ n2_ n3_ n4_
        (try clear hb)
        (try clear hb2)
        (try clear hk)
        (try clear hi)
        refine hK.out _ _ ⟨(bc_ BK160.out 0).trans rfl, (bc_ BK160.out 1).trans rfl, (bc_ BK160.out 2).trans rfl⟩ (fun hHeld => ?_)
        clear hK K
        refine norm_ (a' := ?_) ?_ ?_
        rotate_left
        ·
         show Act.put _ (some 32) _ = _
         simp only [Act.put, lt1_, lt2_, lt3_, i64_w, i32_w]
         rfl
        refine one_ (i := 10) (N := some 37) #[true, true, true, true, true, true, true, true, true, true, true, true, true, false, false, false] rfl rfl (one_of HT_.out (by kernel_rfl)) (by decide) (fun K hK => ?_)
        refine goes_ Try.func29 (by kernel_rfl) rfl #[.slice A31 y164.length c31] (by rfl) rfl rfl au_ ?_
        with_reducible refine (replica_copied.calls kj12 (fun k_ => ((P0_2_ k_ ∨ w.heap.size ≤ k_) ∧ (k_ ≠ gb160 ∧ k_ ≠ gb161))) _ _ y164 t169 _ ?side1 A29.out).mono ?_
        (case side1 => exact HO168.out)
        rintro e w33 ⟨v170, rfl, ho0, hb⟩
        refine ⟨_, rfl, ?_⟩
        have n0_ := am_ (Kd.V_elder' (pV_ HO_161002.out) (Kd.N_base ho0) hb)
        have n1_ := am_ (Kd.V_elder' (pV_ HO168.out) (Kd.N_base ho0) hb)
        have n2_ := am_ (nl_ (nm_ (ok' := fun k_ => (P0_2_ k_ ∨ w.heap.size ≤ k_) ∧ k_ ≠ gb160 ∧ k_ ≠ gb161) ho0 (fun k_ hk_ => ⟨Or.elim hk_ (fun hs_ => hs_.1) (fun hn_ => (.inr (Nat.le_trans (bz_ (pb2_ HB.out GE160.out GE161.out)) hn_))), Or.elim hk_ (fun hs_ => hs_.2.1) (fun hn_ => (fb_ (g := gb160) (o := .cells #[.int .i64 a0_0, .int .i64 a0_1, .slice A0_2 l0_2.length c0_2] 35 (0, 0)) (pk_ BK160.out) k_ hn_)), Or.elim hk_ (fun hs_ => hs_.2.2) (fun hn_ => (fb_ (g := gb161) (o := .cells #[.int .i64 0, .int .i64 0, .int .i64 0, .slice none 0 0, .int .i64 0] 30 (0, 0)) (pk_ BK161.out) k_ hn_))⟩)) (bz_ (pb2_ HB.out GE160.out GE161.out)))
        have n3_ := am_ (bw_ (g := gb160) (o := .cells #[.int .i64 a0_0, .int .i64 a0_1, .slice A0_2 l0_2.length c0_2] 35 (0, 0)) (pk_ BK160.out) hb)
        have n4_ := am_ (bw_ (g := gb161) (o := .cells #[.int .i64 0, .int .i64 0, .int .i64 0, .slice none 0 0, .int .i64 0] 30 (0, 0)) (pk_ BK161.out) hb)
        have n5_ := am_ (sp_ (pb2_ HB.out GE160.out GE161.out) hb)
        clear HO_161002
        clear HO168
        clear BK160
        clear BK161
        clear HB
        have HO_161002 := n0_
        have HO168 := n1_
        have HO171 := n2_
        have BK160 := n3_
        have BK161 := n4_
        have HB := n5_
        clear n0_ n1_ n2_ n3_ n4_ n5_
        (try clear hb)
        (try clear hb2)
        (try clear hk)
        (try clear hi)
        (try clear ho0)
        obtain ⟨Ao34, co34, eo34⟩ := Kd.N_slice HO171.out
        (first | subst eo34 | (injection eo34 with f1_ f2_ f3_; have f4_ := f1_.symm; have f5_ := f3_.symm; clear f1_ f2_ f3_; subst f4_; subst f5_))
        refine hK.out _ _ ⟨(bc_ BK160.out 0).trans rfl, (bc_ BK160.out 1).trans rfl, (bc_ BK160.out 2).trans rfl⟩ (fun hHeld => ?_)
        clear hK K
        refine norm_ (a' := ?_) ?_ ?_
        rotate_left
        ·
         show Act.put _ (some 37) _ = _
         simp only [Act.put, lt1_, lt2_, lt3_, i64_w, i32_w]
         rfl
        refine pure_ (i := 13) (N := some 40) (v := ?_) (a' := ?_) #[true, true, true, true, true, true, true, true, true, true, true, true, true, true, false, false] rfl rfl (any_of HT_.out (by kernel_rfl)) (fun _ _ _ h => h) (Or.inl ⟨by rfl, ?_⟩) ?_ ?_
        rotate_left
        ·
         intro w'
         go_simp
         with_reducible rfl
        rotate_left
        ·
         simp only [Act.put, lt1_, lt2_, lt3_, i64_w, i32_w]
         rfl
        refine one_ (i := 14) (N := none) #[true, true, true, true, true, true, true, true, true, true, true, true, true, true, true, false] rfl rfl (one_of HT_.out (by kernel_rfl)) (by decide) (fun K hK => ?_)
        have hs35 : w33.cell? ⟨gb161, 0, none⟩ = some (.int .i64 0) := (bc_ BK161.out 0).trans rfl
        have hfs35 := bf_ BK161.out 0
        have hns35_0 := NB160_161.out
        have hms35_0 := NB161_160.out
        have hs36 : w33.cell? ⟨gb161, 1, none⟩ = some (.int .i64 0) := (bc_ BK161.out 1).trans rfl
        have hfs36 := bf_ BK161.out 1
        have hns36_0 := NB160_161.out
        have hms36_0 := NB161_160.out
        have hs37 : w33.cell? ⟨gb161, 2, none⟩ = some (.int .i64 0) := (bc_ BK161.out 2).trans rfl
        have hfs37 := bf_ BK161.out 2
        have hns37_0 := NB160_161.out
        have hms37_0 := NB161_160.out
        have hs38 : w33.cell? ⟨gb161, 3, none⟩ = some (.slice none 0 0) := (bc_ BK161.out 3).trans rfl
        have hfs38 := bf_ BK161.out 3
        have hns38_0 := NB160_161.out
        have hms38_0 := NB161_160.out
        have hs39 : w33.cell? ⟨gb161, 4, none⟩ = some (.int .i64 0) := (bc_ BK161.out 4).trans rfl
        have hfs39 := bf_ BK161.out 4
        have hns39_0 := NB160_161.out
        have hms39_0 := NB161_160.out
        refine skip_ (w1 := ?_) (by rfl) rfl ?_ ?_
        rotate_left
        ·
         go_simp
         rfl
        refine hK.out _ _ ⟨((cell_far (p := ⟨gb161, _, none⟩) NB160_161.out _).trans (((cell_far (p := ⟨gb161, _, none⟩) NB160_161.out _).trans (((cell_far (p := ⟨gb161, _, none⟩) NB160_161.out _).trans (((cell_far (p := ⟨gb161, _, none⟩) NB160_161.out _).trans (((cell_far (p := ⟨gb161, _, none⟩) NB160_161.out _).trans (hHeld.1)))))))))), ((cell_far (p := ⟨gb161, _, none⟩) NB160_161.out _).trans (((cell_far (p := ⟨gb161, _, none⟩) NB160_161.out _).trans (((cell_far (p := ⟨gb161, _, none⟩) NB160_161.out _).trans (((cell_far (p := ⟨gb161, _, none⟩) NB160_161.out _).trans (((cell_far (p := ⟨gb161, _, none⟩) NB160_161.out _).trans (hHeld.2.1)))))))))), ((cell_far (p := ⟨gb161, _, none⟩) NB160_161.out _).trans (((cell_far (p := ⟨gb161, _, none⟩) NB160_161.out _).trans (((cell_far (p := ⟨gb161, _, none⟩) NB160_161.out _).trans (((cell_far (p := ⟨gb161, _, none⟩) NB160_161.out _).trans (((cell_far (p := ⟨gb161, _, none⟩) NB160_161.out _).trans (hHeld.2.2))))))))))⟩ (fun hHeld => ?_)
        clear hK K
        refine pure_ (i := 15) (N := some 5) (v := ?_) (a' := ?_) #[true, true, true, true, true, true, true, true, true, true, true, true, true, true, true, true] rfl rfl (any_of HT_.out (by kernel_rfl)) (fun _ _ _ h => h) (Or.inl ⟨by rfl, ?_⟩) ?_ ?_
        rotate_left
        ·
         intro w'
         go_simp
         with_reducible rfl
        rotate_left
        ·
         simp only [Act.put, lt1_, lt2_, lt3_, i64_w, i32_w]
         rfl
        refine done_ (done_of HT_.out (by kernel_rfl)) ?_
        try go_wp2
        refine bodyPost_ret (results_ct rfl _ _ gb161 30 #[.int .i64 a0_0, .int .i64 a1, .int .i64 t163, .slice Ao34 t169.length co34, .int .i64 a0_1] (0, 0) _ rfl (by (with_reducible repeat (first | refine bn_ ?_ _ | refine bd_ ?_ | refine ba_ ?_ _)); refine blk_put (cs := #[.int .i64 a0_0, .int .i64 a1, .int .i64 t163, .slice Ao34 t169.length co34, .int .i64 0]) ?_ 4 _ rfl; (with_reducible repeat (first | refine bn_ ?_ _ | refine bd_ ?_ | refine ba_ ?_ _)); refine blk_put (cs := #[.int .i64 a0_0, .int .i64 a1, .int .i64 t163, .slice none 0 0, .int .i64 0]) ?_ 3 _ rfl; (with_reducible repeat (first | refine bn_ ?_ _ | refine bd_ ?_ | refine ba_ ?_ _)); refine blk_put (cs := #[.int .i64 a0_0, .int .i64 a1, .int .i64 0, .slice none 0 0, .int .i64 0]) ?_ 2 _ rfl; (with_reducible repeat (first | refine bn_ ?_ _ | refine bd_ ?_ | refine ba_ ?_ _)); refine blk_put (cs := #[.int .i64 a0_0, .int .i64 0, .int .i64 0, .slice none 0 0, .int .i64 0]) ?_ 1 _ rfl; (with_reducible repeat (first | refine bn_ ?_ _ | refine bd_ ?_ | refine ba_ ?_ _)); refine blk_put (cs := #[.int .i64 0, .int .i64 0, .int .i64 0, .slice none 0 0, .int .i64 0]) ?_ 0 _ rfl; (with_reducible repeat (first | refine bn_ ?_ _ | refine bd_ ?_ | refine ba_ ?_ _)); exact BK161.out) Try.underlying30 rfl (by kernel_rfl)) rfl ?_
        exact ⟨_, by first | rfl | (simp [errW_none, errW_some] <;> rfl) | (simp [*, errW_none, errW_some] <;> rfl), by (with_reducible repeat (first | apply na_ | apply nn_ | apply nd_)); exact nm_ (nf_ (p := ⟨gb161, 4, none⟩) (nf_ (p := ⟨gb161, 3, none⟩) (nf_ (p := ⟨gb161, 2, none⟩) (nf_ (p := ⟨gb161, 1, none⟩) (nf_ (p := ⟨gb161, 0, none⟩) (nm_ HO171.out (fun k_ hk => (⟨hk, hk.2.2⟩ : _ ∧ k_ ≠ gb161))) (fun _ hk => hk.2) (.int .i64 a0_0)) (fun _ hk => hk.2) (.int .i64 a1)) (fun _ hk => hk.2) (.int .i64 t163)) (fun _ hk => hk.2) (.slice Ao34 t169.length co34)) (fun _ hk => hk.2) (.int .i64 a0_1)) (fun _ hk => hk.1.1), pb2_ HB.out GE160.out GE161.out⟩
       ·
        rw [if_neg c28] at H
        exact absurd H (by simp)
      ·
       rw [if_neg c27] at H
       exact absurd H (by simp)
 ·
  replace c4 := Bool.eq_false_iff.mpr c4
  subst c4
  have H1 : (some (0, 0, 0, ([] : List (S87)), 0, 8)) = some (r1, r2, r3, r4, r5, r6) := by rw [if_neg (show ¬ (false = true) by decide)] at H; exact H
  clear H
  have H := H1
  clear H1
  simp only [Option.some.injEq, Prod.mk.injEq] at H
  obtain ⟨rfl, rfl, rfl, rfl, rfl, rfl⟩ := H
  go_enter Try.func10, Try.ntmps10
  go_wp2_with (first | ((with_reducible refine gate_dst (N := 2) rfl ?_); (try (refine gate_guard (by rfl) ?_; dsimp only)); refine box_event ?hg (N := 2) ?hd (cs := #[.int .i64 a0_0, .int .i64 a0_1, .slice A0_2 l0_2.length c0_2]) (t := 35) ?hr ?_; (case hd => rfl); (case hg => rfl); (case hr => first | (go_simp; done) | (go_simp; rfl)); intro gb160 hg w40 hbox hb; have n0_ := am_ (vb_ (Kd.V_elderB (pV_ HO0_2.out) gb160 (le_ hg.symm)) hb); have n1_ := am_ (sp_ (pb0_ HB.out) hb); have n2_ := am_ (hbox); have n3_ := am_ ((by rw [hg]; exact (bz_ (pb0_ HB.out)) : w.heap.size ≤ gb160)); have n4_ := am_ ((by rw [hg]; exact (bz_ (pb0_ HB.out)) : w.heap.size ≤ gb160)); clear HO0_2; clear HB; have HO0_2 := n0_; have HB := n1_; have BK160 := n2_; have GW160 := n3_; have GE160 := n4_; clear n0_ n1_ n2_ n3_ n4_; clear hb hbox hg) | ((with_reducible refine gate_dst (N := 4) rfl ?_); (try (refine gate_guard (by rfl) ?_; dsimp only)); refine box_event ?hg (N := 4) ?hd (cs := #[.int .i64 0, .int .i64 0, .int .i64 0, .slice none 0 0, .int .i64 0]) (t := 30) ?hr ?_; (case hd => rfl); (case hg => rfl); (case hr => first | (go_simp; done) | (go_simp; rfl)); intro gb161 hg w41 hbox hb; have n0_ := am_ (vb_ (Kd.V_elderB (pV_ HO0_2.out) gb161 (le_ hg.symm)) hb); have n1_ := am_ (bw_ (g := gb160) (o := .cells #[.int .i64 a0_0, .int .i64 a0_1, .slice A0_2 l0_2.length c0_2] 35 (0, 0)) (pk_ BK160.out) hb); have n2_ := am_ (sp_ (pb1_ HB.out GE160.out) hb); have n3_ := am_ (hbox); have n4_ := am_ ((by rw [hg]; exact (bz_ (pb1_ HB.out GE160.out)) : w.heap.size ≤ gb161)); have n5_ := am_ ((by rw [hg]; exact (bz_ (pb1_ HB.out GE160.out)) : w.heap.size ≤ gb161)); have n6_ := am_ ((by rw [hg]; exact Nat.ne_of_lt (blk_lt (g := gb160) (o := .cells #[.int .i64 a0_0, .int .i64 a0_1, .slice A0_2 l0_2.length c0_2] 35 (0, 0)) (pk_ BK160.out)) : gb160 ≠ gb161)); have n7_ := am_ ((by rw [hg]; exact Nat.ne_of_gt (blk_lt (g := gb160) (o := .cells #[.int .i64 a0_0, .int .i64 a0_1, .slice A0_2 l0_2.length c0_2] 35 (0, 0)) (pk_ BK160.out)) : gb161 ≠ gb160)); clear HO0_2; clear BK160; clear HB; have HO0_2 := n0_; have BK160 := n1_; have HB := n2_; have BK161 := n3_; have GW161 := n4_; have GE161 := n5_; have NB160_161 := n6_; have NB161_160 := n7_; clear n0_ n1_ n2_ n3_ n4_ n5_ n6_ n7_; clear hb hbox hg; have hnb42 := NB160_161.out; have hnc42 := NB161_160.out; have hcz43_0 : w41.cell? ⟨gb160, 0, none⟩ = some (.int .i64 a0_0) := (bc_ BK160.out 0).trans rfl; have hcz43_1 : w41.cell? ⟨gb160, 1, none⟩ = some (.int .i64 a0_1) := (bc_ BK160.out 1).trans rfl; have hcz43_2 : w41.cell? ⟨gb160, 2, none⟩ = some (.slice A0_2 l0_2.length c0_2) := (bc_ BK160.out 2).trans rfl; have hfz43_0 := bf_ BK160.out 0; have hfz43_1 := bf_ BK160.out 1; have hfz43_2 := bf_ BK160.out 2) | ((with_reducible refine gate_callee (f := 27) rfl ?_); refine goesL_ (some 8) rfl rfl Try.func27 (by kernel_rfl) rfl #[.agg #[.int .i64 a0_0, .int .i64 a0_1, .slice A0_2 l0_2.length c0_2]] rfl au_ ?_; (with_reducible refine (replica_Node_valid.calls k a0_0 a0_1 _ _ l0_2 false _ ?side1 ?side2 A3.out).mono ?_); (case side1 => repeat (first | exact (Kd.V_reads' HO0_2.out).2.2 | (with_reducible refine Kd.C_alloc ?_ _) | (with_reducible refine Kd.C_drewN ?_ _) | (with_reducible refine Kd.C_drew ?_))); (case side2 => exact (Kd.V_reads' HO0_2.out).2.1); rintro e w44 ⟨rfl, hb⟩; refine ⟨_, rfl, ?_⟩; have n0_ := am_ (vb_ (pV_ HO0_2.out) hb); have n1_ := am_ (bw_ (g := gb160) (o := .cells #[.int .i64 a0_0, .int .i64 a0_1, .slice A0_2 l0_2.length c0_2] 35 (0, 0)) (pk_ BK160.out) hb); have n2_ := am_ (bw_ (g := gb161) (o := .cells #[.int .i64 0, .int .i64 0, .int .i64 0, .slice none 0 0, .int .i64 0] 30 (0, 0)) (pk_ BK161.out) hb); have n3_ := am_ (sp_ (pb2_ HB.out GE160.out GE161.out) hb); clear HO0_2; clear BK160; clear BK161; clear HB; have HO0_2 := n0_; have BK160 := n1_; have BK161 := n2_; have HB := n3_; clear n0_ n1_ n2_ n3_; (try clear hb); (try clear hb2); (try clear hk); (try clear hi); have hcz45_0 : w44.cell? ⟨gb161, 0, none⟩ = some (.int .i64 0) := (bc_ BK161.out 0).trans rfl; have hcz45_1 : w44.cell? ⟨gb161, 1, none⟩ = some (.int .i64 0) := (bc_ BK161.out 1).trans rfl; have hcz45_2 : w44.cell? ⟨gb161, 2, none⟩ = some (.int .i64 0) := (bc_ BK161.out 2).trans rfl; have hcz45_3 : w44.cell? ⟨gb161, 3, none⟩ = some (.slice none 0 0) := (bc_ BK161.out 3).trans rfl; have hcz45_4 : w44.cell? ⟨gb161, 4, none⟩ = some (.int .i64 0) := (bc_ BK161.out 4).trans rfl; have hfz45_0 := bf_ BK161.out 0; have hfz45_1 := bf_ BK161.out 1; have hfz45_2 := bf_ BK161.out 2; have hfz45_3 := bf_ BK161.out 3; have hfz45_4 := bf_ BK161.out 4))
  refine bodyPost_ret (results_ct rfl _ _ gb161 30 #[.int .i64 0, .int .i64 0, .int .i64 0, .slice none 0 0, .int .i64 0] (0, 0) _ rfl (by (with_reducible repeat (first | refine bn_ ?_ _ | refine bd_ ?_ | refine ba_ ?_ _)); refine blk_put (cs := #[.int .i64 0, .int .i64 0, .int .i64 0, .slice none 0 0, .int .i64 0]) ?_ 4 _ rfl; (with_reducible repeat (first | refine bn_ ?_ _ | refine bd_ ?_ | refine ba_ ?_ _)); refine blk_put (cs := #[.int .i64 0, .int .i64 0, .int .i64 0, .slice none 0 0, .int .i64 0]) ?_ 3 _ rfl; (with_reducible repeat (first | refine bn_ ?_ _ | refine bd_ ?_ | refine ba_ ?_ _)); refine blk_put (cs := #[.int .i64 0, .int .i64 0, .int .i64 0, .slice none 0 0, .int .i64 0]) ?_ 2 _ rfl; (with_reducible repeat (first | refine bn_ ?_ _ | refine bd_ ?_ | refine ba_ ?_ _)); refine blk_put (cs := #[.int .i64 0, .int .i64 0, .int .i64 0, .slice none 0 0, .int .i64 0]) ?_ 1 _ rfl; (with_reducible repeat (first | refine bn_ ?_ _ | refine bd_ ?_ | refine ba_ ?_ _)); refine blk_put (cs := #[.int .i64 0, .int .i64 0, .int .i64 0, .slice none 0 0, .int .i64 0]) ?_ 0 _ rfl; (with_reducible repeat (first | refine bn_ ?_ _ | refine bd_ ?_ | refine ba_ ?_ _)); exact BK161.out) Try.underlying30 rfl (by kernel_rfl)) rfl ?_
  exact ⟨_, by first | rfl | (simp [errW_none, errW_some] <;> rfl) | (simp [*, errW_none, errW_some] <;> rfl), by first | exact Kd.S_nil _ _ _ _ _ | exact Kd.N_nil _ _ _ _ _ | exact Kd.V_nil _ _ _ _ _ | exact Kd.Q_nil _ _ _ _ _ | exact Kd.R_nil _ _ _ _ _, pb2_ HB.out GE160.out GE161.out⟩
end Go.Proofs.Ytbigcpjlahkggaa.Q
