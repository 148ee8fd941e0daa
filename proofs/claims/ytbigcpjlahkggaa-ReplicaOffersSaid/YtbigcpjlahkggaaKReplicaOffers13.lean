import Derived.Test.YtbigcpjlahkggaaKReplicaOffers12
set_option linter.unusedVariables false
set_option linter.unusedSimpArgs false
namespace Go.Proofs.Ytbigcpjlahkggaa.Q
open Go.RowKit Go.Proofs.YtbigcpjlahkggaaW.PrintWords Go.Proofs.YtbigcpjlahkggaaW.PrintLast Go.Proofs.YtbigcpjlahkggaaW.PrintMore
attribute [local go_sem] max2_int min2_int max_two min_two max_three min_three max_four min_four
attribute [local go_sem ↓] isSome_setCell
attribute [local go_sem] string_gtr
set_option linter.unusedVariables false
set_option linter.unusedSimpArgs false
def tapearchiveref26_Append.f (k : Nat) (a0_0 : Int) (a0_1 : Int) (l0_2 : List (S79)) (l1 : List Int) : Option (Int × Int × (List (S79)) × Int) := (tapearchiveref26_valid.f k a0_0 a0_1 l0_2).bind fun t311 => (if t311 = true then (if a0_0 = 0 then (some (0, 0, ([] : List (S79)), 13)) else (if (l1.length : Int) > 65536 then (some (0, 0, ([] : List (S79)), 6)) else ((tapearchiveref26_copied.f k l0_2).bind fun t312 => ((some (([] : List Int) : List Int)).bind fun y315 => (if y315.length + l1.length < 140737488355328 then (if t312.length < 4398046511104 then (some (a0_0, a0_1, (t312 ++ [(⟨a0_0, (y315 ++ l1)⟩ : S79)]), 0)) else (none)) else (none)))))) else (some (0, 0, ([] : List (S79)), 8)))
def tapearchiveref26_Append.T8 : Bool × List (List Nat × List Nat) := (true, [([], []), ([], []), ([1], [1]), ([], []), ([], []), ([3, 4], [3, 4]), ([2, 5], [2, 5]), ([6], [6]), ([0, 7, 5], [0, 7]), ([8, 8, 0, 1, 2, 3, 4, 5, 6, 7, 8], [0, 8])])
def tapearchiveref26_Append.B8 : List Nat := [0, 0, 2, 0, 0, 24, 62, 126, 255, 511]
theorem tapearchiveref26_Append.tab8 : rtab .any (opsOf Try.f14 8) = tapearchiveref26_Append.T8 := by kernel_rfl
theorem tapearchiveref26_Append.bits8 : waitsOk tapearchiveref26_Append.T8.2 tapearchiveref26_Append.B8 = true := by kernel_rfl
set_option maxHeartbeats 8000000 in
set_option maxRecDepth 100000 in
theorem tapearchiveref26_Append.calls (k : Nat) (a0_0 : Int) (a0_1 : Int) (A0_2 : Option Addr) (c0_2 : Nat) (l0_2 : List (S79)) (A1 : Option Addr) (c1 : Nat) (l1 : List Int) (r1 : Int) (r2 : Int) (r3 : List (S79)) (r4 : Int) (w : World) (hr0_2 : Kd.C k79 w A0_2 l0_2.length l0_2) (hc0_2 : l0_2.length ≤ c0_2) (hr1 : Kd.C (Kd.int .u8) w A1 l1.length l1) (hc1 : l1.length ≤ c1) (h : tapearchiveref26_Append.f k a0_0 a0_1 l0_2 l1 = some (r1, r2, r3, r4)) :
  Calls Try.prog 14 #[.agg #[.int .i64 a0_0, .int .i64 a0_1, .slice A0_2 l0_2.length c0_2], .slice A1 l1.length c1] w fun e w' => ∃ v2_ : Value, e = .returned (.tuple #[.agg #[.int .i64 r1, .int .i64 r2, v2_], .int .i64 r4]) ∧ Kd.S k79 79 w' w.heap.size (fun _ => True) v2_ r3 ∧ Below w.heap.size w w' := by
 have hu24 := Try.underlying24
 have hu79 := Try.underlying79
 have HR0_2 := am_ hr0_2
 have HC0_2 := am_ hc0_2
 clear hr0_2 hc0_2
 have HR1 := am_ hr1
 have HC1 := am_ hc1
 clear hr1 hc1
 have HB := am_ (Below.refl w.heap.size w)
 have H : ((tapearchiveref26_valid.f k a0_0 a0_1 l0_2).bind fun t311 => (if t311 = true then (if a0_0 = 0 then (some (0, 0, ([] : List (S79)), 13)) else (if (l1.length : Int) > 65536 then (some (0, 0, ([] : List (S79)), 6)) else ((tapearchiveref26_copied.f k l0_2).bind fun t312 => ((some (([] : List Int) : List Int)).bind fun y315 => (if y315.length + l1.length < 140737488355328 then (if t312.length < 4398046511104 then (some (a0_0, a0_1, (t312 ++ [(⟨a0_0, (y315 ++ l1)⟩ : S79)]), 0)) else (none)) else (none)))))) else (some (0, 0, ([] : List (S79)), 8)))) = some (r1, r2, r3, r4) := h
 clear h
 replace H := Option.bind_eq_some_iff.mp H
 obtain ⟨t311, A30, H⟩ := H
 replace H : (if t311 = true then (if a0_0 = 0 then (some (0, 0, ([] : List (S79)), 13)) else (if (l1.length : Int) > 65536 then (some (0, 0, ([] : List (S79)), 6)) else ((tapearchiveref26_copied.f k l0_2).bind fun t312 => ((some (([] : List Int) : List Int)).bind fun y315 => (if y315.length + l1.length < 140737488355328 then (if t312.length < 4398046511104 then (some (a0_0, a0_1, (t312 ++ [(⟨a0_0, (y315 ++ l1)⟩ : S79)]), 0)) else (none)) else (none)))))) else (some (0, 0, ([] : List (S79)), 8))) = some (r1, r2, r3, r4) := H
 have A3 := am_ A30
 clear A30
 by_cases c4 : t311 = true
 ·
  subst c4
  have H1 : (if a0_0 = 0 then (some (0, 0, ([] : List (S79)), 13)) else (if (l1.length : Int) > 65536 then (some (0, 0, ([] : List (S79)), 6)) else ((tapearchiveref26_copied.f k l0_2).bind fun t312 => ((some (([] : List Int) : List Int)).bind fun y315 => (if y315.length + l1.length < 140737488355328 then (if t312.length < 4398046511104 then (some (a0_0, a0_1, (t312 ++ [(⟨a0_0, (y315 ++ l1)⟩ : S79)]), 0)) else (none)) else (none)))))) = some (r1, r2, r3, r4) := by rw [if_pos rfl] at H; exact H
  clear H
  have H := H1
  clear H1
  by_cases c5 : a0_0 = 0
  ·
   rw [if_pos c5] at H
   have c5b0 : (a0_0 == 0) = true := beq_iff_eq.mpr c5
   have c5b1 : (a0_0 != 0) = false := bne_eq_false_iff_eq.mpr c5
   clear c5
   simp only [Option.some.injEq, Prod.mk.injEq] at H
   obtain ⟨rfl, rfl, rfl, rfl⟩ := H
   go_enter Try.func14, Try.ntmps14
   go_wp2_with (first | ((with_reducible refine gate_dst (N := 2) rfl ?_); refine box_event ?hg (N := 2) ?hd (cs := #[.int .i64 a0_0, .int .i64 a0_1, .slice A0_2 l0_2.length c0_2]) (t := 24) ?hr ?_; (case hd => rfl); (case hg => rfl); (case hr => first | (go_simp; done) | (go_simp; rfl)); intro gb309 hg w6 hbox hb; have n0_ := am_ (sp_ (pb0_ HB.out) hb); have n1_ := am_ (hbox); have n2_ := am_ ((by rw [hg]; exact (bz_ (pb0_ HB.out)) : w.heap.size ≤ gb309)); have n3_ := am_ ((by rw [hg]; exact (bz_ (pb0_ HB.out)) : w.heap.size ≤ gb309)); clear HB; have HB := n0_; have BK309 := n1_; have GW309 := n2_; have GE309 := n3_; clear n0_ n1_ n2_ n3_; clear hb hbox hg) | ((with_reducible refine gate_dst (N := 4) rfl ?_); refine box_event ?hg (N := 4) ?hd (cs := #[.int .i64 0, .int .i64 0, .slice none 0 0]) (t := 24) ?hr ?_; (case hd => rfl); (case hg => rfl); (case hr => first | (go_simp; done) | (go_simp; rfl)); intro gb310 hg w7 hbox hb; have n0_ := am_ (bw_ (g := gb309) (o := .cells #[.int .i64 a0_0, .int .i64 a0_1, .slice A0_2 l0_2.length c0_2] 24 (0, 0)) (pk_ BK309.out) hb); have n1_ := am_ (sp_ (pb1_ HB.out GE309.out) hb); have n2_ := am_ (hbox); have n3_ := am_ ((by rw [hg]; exact (bz_ (pb1_ HB.out GE309.out)) : w.heap.size ≤ gb310)); have n4_ := am_ ((by rw [hg]; exact (bz_ (pb1_ HB.out GE309.out)) : w.heap.size ≤ gb310)); have n5_ := am_ ((by rw [hg]; exact Nat.ne_of_lt (blk_lt (g := gb309) (o := .cells #[.int .i64 a0_0, .int .i64 a0_1, .slice A0_2 l0_2.length c0_2] 24 (0, 0)) (pk_ BK309.out)) : gb309 ≠ gb310)); have n6_ := am_ ((by rw [hg]; exact Nat.ne_of_gt (blk_lt (g := gb309) (o := .cells #[.int .i64 a0_0, .int .i64 a0_1, .slice A0_2 l0_2.length c0_2] 24 (0, 0)) (pk_ BK309.out)) : gb310 ≠ gb309)); clear BK309; clear HB; have BK309 := n0_; have HB := n1_; have BK310 := n2_; have GW310 := n3_; have GE310 := n4_; have NB309_310 := n5_; have NB310_309 := n6_; clear n0_ n1_ n2_ n3_ n4_ n5_ n6_; clear hb hbox hg; have hnb8 := NB309_310.out; have hnc8 := NB310_309.out; have hcz9_0 : w7.cell? ⟨gb309, 0, none⟩ = some (.int .i64 a0_0) := (bc_ BK309.out 0).trans rfl; have hcz9_1 : w7.cell? ⟨gb309, 1, none⟩ = some (.int .i64 a0_1) := (bc_ BK309.out 1).trans rfl; have hcz9_2 : w7.cell? ⟨gb309, 2, none⟩ = some (.slice A0_2 l0_2.length c0_2) := (bc_ BK309.out 2).trans rfl; have hfz9_0 := bf_ BK309.out 0; have hfz9_1 := bf_ BK309.out 1; have hfz9_2 := bf_ BK309.out 2) | ((with_reducible refine gate_callee (f := 31) rfl ?_); refine goesL_ (some 8) rfl rfl Try.func31 (by kernel_rfl) rfl #[.agg #[.int .i64 a0_0, .int .i64 a0_1, .slice A0_2 l0_2.length c0_2]] rfl au_ ?_; (with_reducible refine (tapearchiveref26_valid.calls k a0_0 a0_1 _ _ l0_2 true _ ?side1 ?side2 A3.out).mono ?_); (case side1 => repeat (first | exact (Kd.C_below HR0_2.out HB.out) | (with_reducible refine Kd.C_alloc ?_ _) | (with_reducible refine Kd.C_drewN ?_ _) | (with_reducible refine Kd.C_drew ?_))); (case side2 => exact HC0_2.out); rintro e w10 ⟨rfl, hb⟩; refine ⟨_, rfl, ?_⟩; have n0_ := am_ (bw_ (g := gb309) (o := .cells #[.int .i64 a0_0, .int .i64 a0_1, .slice A0_2 l0_2.length c0_2] 24 (0, 0)) (pk_ BK309.out) hb); have n1_ := am_ (bw_ (g := gb310) (o := .cells #[.int .i64 0, .int .i64 0, .slice none 0 0] 24 (0, 0)) (pk_ BK310.out) hb); have n2_ := am_ (sp_ (pb2_ HB.out GE309.out GE310.out) hb); clear BK309; clear BK310; clear HB; have BK309 := n0_; have BK310 := n1_; have HB := n2_; clear n0_ n1_ n2_; (try clear hb); (try clear hb2); (try clear hk); (try clear hi); have hcz11_0 : w10.cell? ⟨gb309, 0, none⟩ = some (.int .i64 a0_0) := (bc_ BK309.out 0).trans rfl; have hcz11_1 : w10.cell? ⟨gb309, 1, none⟩ = some (.int .i64 a0_1) := (bc_ BK309.out 1).trans rfl; have hcz11_2 : w10.cell? ⟨gb309, 2, none⟩ = some (.slice A0_2 l0_2.length c0_2) := (bc_ BK309.out 2).trans rfl; have hfz11_0 := bf_ BK309.out 0; have hfz11_1 := bf_ BK309.out 1; have hfz11_2 := bf_ BK309.out 2; have hcz12_0 : w10.cell? ⟨gb310, 0, none⟩ = some (.int .i64 0) := (bc_ BK310.out 0).trans rfl; have hcz12_1 : w10.cell? ⟨gb310, 1, none⟩ = some (.int .i64 0) := (bc_ BK310.out 1).trans rfl; have hcz12_2 : w10.cell? ⟨gb310, 2, none⟩ = some (.slice none 0 0) := (bc_ BK310.out 2).trans rfl; have hfz12_0 := bf_ BK310.out 0; have hfz12_1 := bf_ BK310.out 1; have hfz12_2 := bf_ BK310.out 2))
   refine bodyPost_ret (results_ct rfl _ _ gb310 24 #[.int .i64 0, .int .i64 0, .slice none 0 0] (0, 0) _ rfl (by (with_reducible repeat (first | refine bn_ ?_ _ | refine bd_ ?_ | refine ba_ ?_ _)); refine blk_put (cs := #[.int .i64 0, .int .i64 0, .slice none 0 0]) ?_ 2 _ rfl; (with_reducible repeat (first | refine bn_ ?_ _ | refine bd_ ?_ | refine ba_ ?_ _)); refine blk_put (cs := #[.int .i64 0, .int .i64 0, .slice none 0 0]) ?_ 1 _ rfl; (with_reducible repeat (first | refine bn_ ?_ _ | refine bd_ ?_ | refine ba_ ?_ _)); refine blk_put (cs := #[.int .i64 0, .int .i64 0, .slice none 0 0]) ?_ 0 _ rfl; (with_reducible repeat (first | refine bn_ ?_ _ | refine bd_ ?_ | refine ba_ ?_ _)); exact BK310.out) Try.underlying24 rfl (by kernel_rfl)) rfl ?_
   exact ⟨_, by first | rfl | (simp [errW_none, errW_some] <;> rfl) | (simp [*, errW_none, errW_some] <;> rfl), by first | exact Kd.S_nil _ _ _ _ _ | exact Kd.N_nil _ _ _ _ _ | exact Kd.V_nil _ _ _ _ _ | exact Kd.Q_nil _ _ _ _ _ | exact Kd.R_nil _ _ _ _ _, pb2_ HB.out GE309.out GE310.out⟩
  ·
   rw [if_neg c5] at H
   have c5b0 : (a0_0 == 0) = false := beq_eq_false_iff_ne.mpr c5
   have c5b1 : (a0_0 != 0) = true := bne_iff_ne.mpr c5
   by_cases c13 : (l1.length : Int) > 65536
   ·
    rw [if_pos c13] at H
    have c13b0 : decide (65536 < (l1.length : Int)) = true := de_ c13
    have c13b1 : decide (65536 < l1.length) = true := de_ (by omega)
    clear c13
    simp only [Option.some.injEq, Prod.mk.injEq] at H
    obtain ⟨rfl, rfl, rfl, rfl⟩ := H
    go_enter Try.func14, Try.ntmps14
    go_wp2_with (first | ((with_reducible refine gate_dst (N := 2) rfl ?_); refine box_event ?hg (N := 2) ?hd (cs := #[.int .i64 a0_0, .int .i64 a0_1, .slice A0_2 l0_2.length c0_2]) (t := 24) ?hr ?_; (case hd => rfl); (case hg => rfl); (case hr => first | (go_simp; done) | (go_simp; rfl)); intro gb309 hg w14 hbox hb; have n0_ := am_ (sp_ (pb0_ HB.out) hb); have n1_ := am_ (hbox); have n2_ := am_ ((by rw [hg]; exact (bz_ (pb0_ HB.out)) : w.heap.size ≤ gb309)); have n3_ := am_ ((by rw [hg]; exact (bz_ (pb0_ HB.out)) : w.heap.size ≤ gb309)); clear HB; have HB := n0_; have BK309 := n1_; have GW309 := n2_; have GE309 := n3_; clear n0_ n1_ n2_ n3_; clear hb hbox hg) | ((with_reducible refine gate_dst (N := 4) rfl ?_); refine box_event ?hg (N := 4) ?hd (cs := #[.int .i64 0, .int .i64 0, .slice none 0 0]) (t := 24) ?hr ?_; (case hd => rfl); (case hg => rfl); (case hr => first | (go_simp; done) | (go_simp; rfl)); intro gb310 hg w15 hbox hb; have n0_ := am_ (bw_ (g := gb309) (o := .cells #[.int .i64 a0_0, .int .i64 a0_1, .slice A0_2 l0_2.length c0_2] 24 (0, 0)) (pk_ BK309.out) hb); have n1_ := am_ (sp_ (pb1_ HB.out GE309.out) hb); have n2_ := am_ (hbox); have n3_ := am_ ((by rw [hg]; exact (bz_ (pb1_ HB.out GE309.out)) : w.heap.size ≤ gb310)); have n4_ := am_ ((by rw [hg]; exact (bz_ (pb1_ HB.out GE309.out)) : w.heap.size ≤ gb310)); have n5_ := am_ ((by rw [hg]; exact Nat.ne_of_lt (blk_lt (g := gb309) (o := .cells #[.int .i64 a0_0, .int .i64 a0_1, .slice A0_2 l0_2.length c0_2] 24 (0, 0)) (pk_ BK309.out)) : gb309 ≠ gb310)); have n6_ := am_ ((by rw [hg]; exact Nat.ne_of_gt (blk_lt (g := gb309) (o := .cells #[.int .i64 a0_0, .int .i64 a0_1, .slice A0_2 l0_2.length c0_2] 24 (0, 0)) (pk_ BK309.out)) : gb310 ≠ gb309)); clear BK309; clear HB; have BK309 := n0_; have HB := n1_; have BK310 := n2_; have GW310 := n3_; have GE310 := n4_; have NB309_310 := n5_; have NB310_309 := n6_; clear n0_ n1_ n2_ n3_ n4_ n5_ n6_; clear hb hbox hg; have hnb16 := NB309_310.out; have hnc16 := NB310_309.out; have hcz17_0 : w15.cell? ⟨gb309, 0, none⟩ = some (.int .i64 a0_0) := (bc_ BK309.out 0).trans rfl; have hcz17_1 : w15.cell? ⟨gb309, 1, none⟩ = some (.int .i64 a0_1) := (bc_ BK309.out 1).trans rfl; have hcz17_2 : w15.cell? ⟨gb309, 2, none⟩ = some (.slice A0_2 l0_2.length c0_2) := (bc_ BK309.out 2).trans rfl; have hfz17_0 := bf_ BK309.out 0; have hfz17_1 := bf_ BK309.out 1; have hfz17_2 := bf_ BK309.out 2) | ((with_reducible refine gate_callee (f := 31) rfl ?_); refine goesL_ (some 8) rfl rfl Try.func31 (by kernel_rfl) rfl #[.agg #[.int .i64 a0_0, .int .i64 a0_1, .slice A0_2 l0_2.length c0_2]] rfl au_ ?_; (with_reducible refine (tapearchiveref26_valid.calls k a0_0 a0_1 _ _ l0_2 true _ ?side1 ?side2 A3.out).mono ?_); (case side1 => repeat (first | exact (Kd.C_below HR0_2.out HB.out) | (with_reducible refine Kd.C_alloc ?_ _) | (with_reducible refine Kd.C_drewN ?_ _) | (with_reducible refine Kd.C_drew ?_))); (case side2 => exact HC0_2.out); rintro e w18 ⟨rfl, hb⟩; refine ⟨_, rfl, ?_⟩; have n0_ := am_ (bw_ (g := gb309) (o := .cells #[.int .i64 a0_0, .int .i64 a0_1, .slice A0_2 l0_2.length c0_2] 24 (0, 0)) (pk_ BK309.out) hb); have n1_ := am_ (bw_ (g := gb310) (o := .cells #[.int .i64 0, .int .i64 0, .slice none 0 0] 24 (0, 0)) (pk_ BK310.out) hb); have n2_ := am_ (sp_ (pb2_ HB.out GE309.out GE310.out) hb); clear BK309; clear BK310; clear HB; have BK309 := n0_; have BK310 := n1_; have HB := n2_; clear n0_ n1_ n2_; (try clear hb); (try clear hb2); (try clear hk); (try clear hi); have hcz19_0 : w18.cell? ⟨gb309, 0, none⟩ = some (.int .i64 a0_0) := (bc_ BK309.out 0).trans rfl; have hcz19_1 : w18.cell? ⟨gb309, 1, none⟩ = some (.int .i64 a0_1) := (bc_ BK309.out 1).trans rfl; have hcz19_2 : w18.cell? ⟨gb309, 2, none⟩ = some (.slice A0_2 l0_2.length c0_2) := (bc_ BK309.out 2).trans rfl; have hfz19_0 := bf_ BK309.out 0; have hfz19_1 := bf_ BK309.out 1; have hfz19_2 := bf_ BK309.out 2; have hcz20_0 : w18.cell? ⟨gb310, 0, none⟩ = some (.int .i64 0) := (bc_ BK310.out 0).trans rfl; have hcz20_1 : w18.cell? ⟨gb310, 1, none⟩ = some (.int .i64 0) := (bc_ BK310.out 1).trans rfl; have hcz20_2 : w18.cell? ⟨gb310, 2, none⟩ = some (.slice none 0 0) := (bc_ BK310.out 2).trans rfl; have hfz20_0 := bf_ BK310.out 0; have hfz20_1 := bf_ BK310.out 1; have hfz20_2 := bf_ BK310.out 2))
    refine bodyPost_ret (results_ct rfl _ _ gb310 24 #[.int .i64 0, .int .i64 0, .slice none 0 0] (0, 0) _ rfl (by (with_reducible repeat (first | refine bn_ ?_ _ | refine bd_ ?_ | refine ba_ ?_ _)); refine blk_put (cs := #[.int .i64 0, .int .i64 0, .slice none 0 0]) ?_ 2 _ rfl; (with_reducible repeat (first | refine bn_ ?_ _ | refine bd_ ?_ | refine ba_ ?_ _)); refine blk_put (cs := #[.int .i64 0, .int .i64 0, .slice none 0 0]) ?_ 1 _ rfl; (with_reducible repeat (first | refine bn_ ?_ _ | refine bd_ ?_ | refine ba_ ?_ _)); refine blk_put (cs := #[.int .i64 0, .int .i64 0, .slice none 0 0]) ?_ 0 _ rfl; (with_reducible repeat (first | refine bn_ ?_ _ | refine bd_ ?_ | refine ba_ ?_ _)); exact BK310.out) Try.underlying24 rfl (by kernel_rfl)) rfl ?_
    exact ⟨_, by first | rfl | (simp [errW_none, errW_some] <;> rfl) | (simp [*, errW_none, errW_some] <;> rfl), by first | exact Kd.S_nil _ _ _ _ _ | exact Kd.N_nil _ _ _ _ _ | exact Kd.V_nil _ _ _ _ _ | exact Kd.Q_nil _ _ _ _ _ | exact Kd.R_nil _ _ _ _ _, pb2_ HB.out GE309.out GE310.out⟩
   ·
    rw [if_neg c13] at H
    have c13b0 : decide (65536 < (l1.length : Int)) = false := df_ c13
    have c13b1 : decide (65536 < l1.length) = false := df_ (by omega)
    clear c13
    replace H := Option.bind_eq_some_iff.mp H
    obtain ⟨t312, A210, H⟩ := H
    replace H : ((some (([] : List Int) : List Int)).bind fun y315 => (if y315.length + l1.length < 140737488355328 then (if t312.length < 4398046511104 then (some (a0_0, a0_1, (t312 ++ [(⟨a0_0, (y315 ++ l1)⟩ : S79)]), 0)) else (none)) else (none))) = some (r1, r2, r3, r4) := H
    have A21 := am_ A210
    clear A210
    obtain ⟨y315, hy315⟩ : ∃ y_ : List Int, y_ = (([] : List Int)) := ⟨_, rfl⟩
    replace H : (if y315.length + l1.length < 140737488355328 then (if t312.length < 4398046511104 then (some (a0_0, a0_1, (t312 ++ [(⟨a0_0, (y315 ++ l1)⟩ : S79)]), 0)) else (none)) else (none)) = some (r1, r2, r3, r4) := by first | (rw [hy315]; with_reducible exact H) | (have H2_ := (Option.bind_some _ _).symm.trans H; rw [hy315]; with_reducible exact H2_) | (have H2_ := (Option.bind_some _ _).symm.trans H; with_reducible exact H2_) | with_reducible exact H | (rw [hy315]; exact H) | exact H
    have Ny315 := am_ hy315
    clear hy315
    by_cases c22 : y315.length + l1.length < 140737488355328
    ·
     rw [if_pos c22] at H
     have LMc22 := am_ c22
     clear c22
     obtain ⟨y318, hy318⟩ : ∃ y_ : List Int, y_ = (y315 ++ l1) := ⟨_, rfl⟩
     replace H : (if t312.length < 4398046511104 then (some (a0_0, a0_1, (t312 ++ [(⟨a0_0, y318⟩ : S79)]), 0)) else (none)) = some (r1, r2, r3, r4) := by first | (rw [hy318]; with_reducible exact H) | (have H2_ := (Option.bind_some _ _).symm.trans H; rw [hy318]; with_reducible exact H2_) | (have H2_ := (Option.bind_some _ _).symm.trans H; with_reducible exact H2_) | with_reducible exact H | (rw [hy318]; exact H) | exact H
     have Ny318 := am_ hy318
     clear hy318
     by_cases c23 : t312.length < 4398046511104
     ·
      rw [if_pos c23] at H
      have LMc23 := am_ c23
      clear c23
      obtain ⟨y321, hy321⟩ : ∃ y_ : List (S79), y_ = (t312 ++ [(⟨a0_0, y318⟩ : S79)]) := ⟨_, rfl⟩
      replace H : (some (a0_0, a0_1, y321, 0)) = some (r1, r2, r3, r4) := by first | (rw [hy321]; with_reducible exact H) | (have H2_ := (Option.bind_some _ _).symm.trans H; rw [hy321]; with_reducible exact H2_) | (have H2_ := (Option.bind_some _ _).symm.trans H; with_reducible exact H2_) | with_reducible exact H | (rw [hy321]; exact H) | exact H
      have Ny321 := am_ hy321
      clear hy321
      simp only [Option.some.injEq, Prod.mk.injEq] at H
      obtain ⟨rfl, rfl, rfl, rfl⟩ := H
      go_enter Try.func14, Try.ntmps14
      try go_wp2_with (first | ((with_reducible refine gate_dst (N := 2) rfl ?_); refine box_event ?hg (N := 2) ?hd (cs := #[.int .i64 a0_0, .int .i64 a0_1, .slice A0_2 l0_2.length c0_2]) (t := 24) ?hr ?_; (case hd => rfl); (case hg => rfl); (case hr => first | (go_simp; done) | (go_simp; rfl)); intro gb309 hg w24 hbox hb; have n0_ := am_ (sp_ (pb0_ HB.out) hb); have n1_ := am_ (hbox); have n2_ := am_ ((by rw [hg]; exact (bz_ (pb0_ HB.out)) : w.heap.size ≤ gb309)); have n3_ := am_ ((by rw [hg]; exact (bz_ (pb0_ HB.out)) : w.heap.size ≤ gb309)); clear HB; have HB := n0_; have BK309 := n1_; have GW309 := n2_; have GE309 := n3_; clear n0_ n1_ n2_ n3_; clear hb hbox hg) | ((with_reducible refine gate_dst (N := 4) rfl ?_); refine box_event ?hg (N := 4) ?hd (cs := #[.int .i64 0, .int .i64 0, .slice none 0 0]) (t := 24) ?hr ?_; (case hd => rfl); (case hg => rfl); (case hr => first | (go_simp; done) | (go_simp; rfl)); intro gb310 hg w25 hbox hb; have n0_ := am_ (bw_ (g := gb309) (o := .cells #[.int .i64 a0_0, .int .i64 a0_1, .slice A0_2 l0_2.length c0_2] 24 (0, 0)) (pk_ BK309.out) hb); have n1_ := am_ (sp_ (pb1_ HB.out GE309.out) hb); have n2_ := am_ (hbox); have n3_ := am_ ((by rw [hg]; exact (bz_ (pb1_ HB.out GE309.out)) : w.heap.size ≤ gb310)); have n4_ := am_ ((by rw [hg]; exact (bz_ (pb1_ HB.out GE309.out)) : w.heap.size ≤ gb310)); have n5_ := am_ ((by rw [hg]; exact Nat.ne_of_lt (blk_lt (g := gb309) (o := .cells #[.int .i64 a0_0, .int .i64 a0_1, .slice A0_2 l0_2.length c0_2] 24 (0, 0)) (pk_ BK309.out)) : gb309 ≠ gb310)); have n6_ := am_ ((by rw [hg]; exact Nat.ne_of_gt (blk_lt (g := gb309) (o := .cells #[.int .i64 a0_0, .int .i64 a0_1, .slice A0_2 l0_2.length c0_2] 24 (0, 0)) (pk_ BK309.out)) : gb310 ≠ gb309)); clear BK309; clear HB; have BK309 := n0_; have HB := n1_; have BK310 := n2_; have GW310 := n3_; have GE310 := n4_; have NB309_310 := n5_; have NB310_309 := n6_; clear n0_ n1_ n2_ n3_ n4_ n5_ n6_; clear hb hbox hg; have hnb26 := NB309_310.out; have hnc26 := NB310_309.out; have hcz27_0 : w25.cell? ⟨gb309, 0, none⟩ = some (.int .i64 a0_0) := (bc_ BK309.out 0).trans rfl; have hcz27_1 : w25.cell? ⟨gb309, 1, none⟩ = some (.int .i64 a0_1) := (bc_ BK309.out 1).trans rfl; have hcz27_2 : w25.cell? ⟨gb309, 2, none⟩ = some (.slice A0_2 l0_2.length c0_2) := (bc_ BK309.out 2).trans rfl; have hfz27_0 := bf_ BK309.out 0; have hfz27_1 := bf_ BK309.out 1; have hfz27_2 := bf_ BK309.out 2) | ((with_reducible refine gate_callee (f := 31) rfl ?_); refine goesL_ (some 8) rfl rfl Try.func31 (by kernel_rfl) rfl #[.agg #[.int .i64 a0_0, .int .i64 a0_1, .slice A0_2 l0_2.length c0_2]] rfl au_ ?_; (with_reducible refine (tapearchiveref26_valid.calls k a0_0 a0_1 _ _ l0_2 true _ ?side1 ?side2 A3.out).mono ?_); (case side1 => repeat (first | exact (Kd.C_below HR0_2.out HB.out) | (with_reducible refine Kd.C_alloc ?_ _) | (with_reducible refine Kd.C_drewN ?_ _) | (with_reducible refine Kd.C_drew ?_))); (case side2 => exact HC0_2.out); rintro e w28 ⟨rfl, hb⟩; refine ⟨_, rfl, ?_⟩; have n0_ := am_ (bw_ (g := gb309) (o := .cells #[.int .i64 a0_0, .int .i64 a0_1, .slice A0_2 l0_2.length c0_2] 24 (0, 0)) (pk_ BK309.out) hb); have n1_ := am_ (bw_ (g := gb310) (o := .cells #[.int .i64 0, .int .i64 0, .slice none 0 0] 24 (0, 0)) (pk_ BK310.out) hb); have n2_ := am_ (sp_ (pb2_ HB.out GE309.out GE310.out) hb); clear BK309; clear BK310; clear HB; have BK309 := n0_; have BK310 := n1_; have HB := n2_; clear n0_ n1_ n2_; (try clear hb); (try clear hb2); (try clear hk); (try clear hi); have hcz29_0 : w28.cell? ⟨gb309, 0, none⟩ = some (.int .i64 a0_0) := (bc_ BK309.out 0).trans rfl; have hcz29_1 : w28.cell? ⟨gb309, 1, none⟩ = some (.int .i64 a0_1) := (bc_ BK309.out 1).trans rfl; have hcz29_2 : w28.cell? ⟨gb309, 2, none⟩ = some (.slice A0_2 l0_2.length c0_2) := (bc_ BK309.out 2).trans rfl; have hfz29_0 := bf_ BK309.out 0; have hfz29_1 := bf_ BK309.out 1; have hfz29_2 := bf_ BK309.out 2) | ((with_reducible refine gate_callee (f := 33) rfl ?_); refine goesL_ (some 21) rfl rfl Try.func33 (by kernel_rfl) rfl #[.slice A0_2 l0_2.length c0_2] rfl au_ ?_; (with_reducible refine (tapearchiveref26_copied.calls k _ _ l0_2 t312 _ ?side1 ?side2 A21.out).mono ?_); (case side1 => repeat (first | exact (Kd.C_below HR0_2.out HB.out) | (with_reducible refine Kd.C_alloc ?_ _) | (with_reducible refine Kd.C_drewN ?_ _) | (with_reducible refine Kd.C_drew ?_))); (case side2 => exact HC0_2.out); rintro e w30 ⟨v313, rfl, ho0, hb⟩; refine ⟨_, rfl, ?_⟩; have n0_ := am_ (Kd.S_lower ho0 (bz_ (pb2_ HB.out GE309.out GE310.out))); have n1_ := am_ (bw_ (g := gb309) (o := .cells #[.int .i64 a0_0, .int .i64 a0_1, .slice A0_2 l0_2.length c0_2] 24 (0, 0)) (pk_ BK309.out) hb); have n2_ := am_ (bw_ (g := gb310) (o := .cells #[.int .i64 0, .int .i64 0, .slice none 0 0] 24 (0, 0)) (pk_ BK310.out) hb); have n3_ := am_ (sp_ (pb2_ HB.out GE309.out GE310.out) hb); clear BK309; clear BK310; clear HB; have HO314 := n0_; have BK309 := n1_; have BK310 := n2_; have HB := n3_; clear n0_ n1_ n2_ n3_; (try clear hb); (try clear hb2); (try clear hk); (try clear hi); (try clear ho0)))
      have n0_ := am_ (Kd.S_drew HO314.out)
      have n1_ := am_ (bd_ BK309.out)
      have n2_ := am_ (bd_ BK310.out)
      have n3_ := am_ (b1_ HB.out)
      clear HO314
      clear BK309
      clear BK310
      clear HB
      have HO314 := n0_
      have BK309 := n1_
      have BK310 := n2_
      have HB := n3_
      clear n0_ n1_ n2_ n3_
      refine start_ (n := 10) (S := fun w' => w'.cell? ⟨gb309, 0, none⟩ = some (.int .i64 a0_0) ∧ w'.cell? ⟨gb309, 1, none⟩ = some (.int .i64 a0_1) ∧ w'.cell? ⟨gb309, 2, none⟩ = some (.slice A0_2 l0_2.length c0_2)) (ds := []) #[false, false, false, false, false, false, false, false, false, false] (by kernel_rfl) rfl rfl ⟨(bc_ BK309.out 0).trans rfl, (bc_ BK309.out 1).trans rfl, (bc_ BK309.out 2).trans rfl⟩ (fun hHeld => ?_); refine with_tabW tapearchiveref26_Append.tab8 tapearchiveref26_Append.bits8 (fun HT_ HW_ => ?_)
      generalize w30.drew = w31 at HO314 BK309 BK310 HB hHeld ⊢
      refine pure_ (i := 0) (N := some 22) (v := ?_) (a' := ?_) #[true, false, false, false, false, false, false, false, false, false] rfl rfl (any_of HT_.out (by kernel_rfl)) (fun _ _ _ h => h) (Or.inl ⟨by rfl, ?_⟩) ?_ ?_
      rotate_left
      ·
       intro w'
       go_simp
       with_reducible rfl
      rotate_left
      ·
       simp only [Act.put, lt1_, lt2_, lt3_, i64_w, i32_w]
       rfl
      refine pure_ (i := 1) (N := some 23) (v := ?_) (a' := ?_) #[true, true, false, false, false, false, false, false, false, false] rfl rfl (any_of HT_.out (by kernel_rfl)) (fun _ _ _ h => h) (Or.inl ⟨by rfl, ?_⟩) ?_ ?_
      rotate_left
      ·
       intro w'
       go_simp
       with_reducible rfl
      rotate_left
      ·
       simp only [Act.put, lt1_, lt2_, lt3_, i64_w, i32_w]
       rfl
      refine pure_ (i := 4) (N := some 26) (v := ?_) (a' := ?_) #[true, true, false, false, true, false, false, false, false, false] rfl rfl (any_of HT_.out (by kernel_rfl)) (fun _ _ _ h => h) (Or.inl ⟨by rfl, ?_⟩) ?_ ?_
      rotate_left
      ·
       intro w'
       go_simp
       with_reducible rfl
      rotate_left
      ·
       simp only [Act.put, lt1_, lt2_, lt3_, i64_w, i32_w]
       rfl
      refine take_ (i := 2) (N := some 24) (v := ?_) (a' := ?_) #[true, true, true, false, true, false, false, false, false, false] rfl rfl (take_ofW HT_.out HW_.out (by kernel_rfl)) (fun _ _ _ h => h) (Or.inl ⟨by rfl, ?_⟩) hHeld ?_ ?_
      rotate_left
      ·
       rintro w' ⟨s0, s1, s2⟩
       go_simp
       with_reducible rfl
      rotate_left
      ·
       simp only [Act.put, lt1_, lt2_, lt3_, i64_w, i32_w]
       rfl
      refine one_ (i := 3) (N := some 25) #[true, true, true, true, true, false, false, false, false, false] rfl rfl (one_of HT_.out (by kernel_rfl)) (by decide) (fun K hK => ?_)
      refine Kd.R_lit_step (Kd.int .u8) _ 5 ?hg (N := 25) ?hd (xs := ([] : List Int)) (inner := []) (ok := fun _ => True) (okp := fun _ => True) ?hr ?hp (fun _ hk => hk) trivial (Below.refl _ _) (Nat.le_refl _) (by simp) ?_; (case hd => rfl); (case hg => rfl); (case hr => first | (go_simp; done) | (go_simp; rfl)); (case hp => exact (Reps.none _ _))
      intro v316 w32 ho33 hb hg_ hnew_
      clear hg_ hnew_
      (first | rw [← Ny315.out] at ho33 | (simp only [Int.reduceToNat] at ho33; rw [← Ny315.out] at ho33))
      have n0_ := am_ (Kd.S_elder' (pS_ HO314.out) (Kd.R_base ho33) hb)
      have n1_ := am_ (Kd.R_lower ho33 (bz_ (pb2_ HB.out GE309.out GE310.out)))
      have n2_ := am_ (bw_ (g := gb309) (o := .cells #[.int .i64 a0_0, .int .i64 a0_1, .slice A0_2 l0_2.length c0_2] 24 (0, 0)) (pk_ BK309.out) hb)
      have n3_ := am_ (bw_ (g := gb310) (o := .cells #[.int .i64 0, .int .i64 0, .slice none 0 0] 24 (0, 0)) (pk_ BK310.out) hb)
      have n4_ := am_ (sp_ (pb2_ HB.out GE309.out GE310.out) hb)
      clear HO314
      clear BK309
      clear BK310
      clear HB
      have HO314 := n0_
      have HO317 := n1_
      have BK309 := n2_
      have BK310 := n3_
      have HB := n4_
      clear n0_ n1_ n2_ n3_ n4_
      clear hb ho33
      refine hK.out _ _ ⟨(bc_ BK309.out 0).trans rfl, (bc_ BK309.out 1).trans rfl, (bc_ BK309.out 2).trans rfl⟩ (fun hHeld => ?_)
      clear hK K
      refine norm_ (a' := ?_) ?_ ?_
      rotate_left
      ·
       show Act.put _ (some 25) _ = _
       simp only [Act.put, lt1_, lt2_, lt3_, i64_w, i32_w]
       rfl
      refine one_ (i := 5) (N := some 27) #[true, true, true, true, true, true, false, false, false, false] rfl rfl (one_of HT_.out (by kernel_rfl)) (by decide) (fun K hK => ?_)
      refine Kd.R_append_rows_step (Kd.int .u8) (w0 := w) w.heap.size (by rfl) (.tmp 25) (.tmp 26) 25 5 (.int .u8 0) 1 rfl Try.underlying25 info5 rfl (by decide) (by omega) v316 y315 l1 _ _ _ (fun _ => True) (fun _ => False) rfl rfl ?aO ?aR (fun _ _ h => h) (fun _ h => h.elim) ?aF ?aB ?aS ?aL ?_
      (case aR => repeat (first | exact (Kd.C_below HR1.out HB.out) | (with_reducible refine Kd.C_alloc ?_ _) | (with_reducible refine Kd.C_drewN ?_ _) | (with_reducible refine Kd.C_drew ?_)))
      (case aB => exact (pb2_ HB.out GE309.out GE310.out))
      (case aF => exact (fun _ _ => trivial))
      (case aO => exact (pR_ HO317.out))
      (case aS => exact (bz_ (pb2_ HB.out GE309.out GE310.out)))
      (case aL => have := LMc22.out; omega)
      intro v319 w34 ho hb hg hat
      rw [← Ny318.out] at ho
      have n0_ := am_ (blk_grown (g := gb309) (o := .cells #[.int .i64 a0_0, .int .i64 a0_1, .slice A0_2 l0_2.length c0_2] 24 (0, 0)) (pk_ BK309.out) hg (Kd.R_ne HO317.out BK309.out (by decide)))
      have n1_ := am_ (blk_grown (g := gb310) (o := .cells #[.int .i64 0, .int .i64 0, .slice none 0 0] 24 (0, 0)) (pk_ BK310.out) hg (Kd.R_ne HO317.out BK310.out (by decide)))
      have n2_ := am_ (Kd.S_after (ok := (fun _ => True)) (pS_ HO314.out) hg hat)
      have n3_ := am_ (hb)
      have n4_ := am_ (ho)
      clear BK309
      clear BK310
      clear HO314
      clear HB
      clear HO317
      have BK309 := n0_
      have BK310 := n1_
      have HO314 := n2_
      have HB := n3_
      have HO320 := n4_
      clear n0_ n1_ n2_ n3_ n4_
      clear ho hb hg hat
      obtain ⟨Ao35, co35, eo35⟩ := Kd.R_slice HO320.out
      (first | subst eo35 | (injection eo35 with f1_ f2_ f3_; have f4_ := f1_.symm; have f5_ := f3_.symm; clear f1_ f2_ f3_; subst f4_; subst f5_))
      refine hK.out _ _ ⟨(bc_ BK309.out 0).trans rfl, (bc_ BK309.out 1).trans rfl, (bc_ BK309.out 2).trans rfl⟩ (fun hHeld => ?_)
      clear hK K
      refine norm_ (a' := ?_) ?_ ?_
      rotate_left
      ·
       show Act.put _ (some 27) _ = _
       simp only [Act.put, lt1_, lt2_, lt3_, i64_w, i32_w]
       rfl
      refine pure_ (i := 6) (N := some 28) (v := ?_) (a' := ?_) #[true, true, true, true, true, true, true, false, false, false] rfl rfl (any_of HT_.out (by kernel_rfl)) (fun _ _ _ h => h) (Or.inl ⟨by rfl, ?_⟩) ?_ ?_
      rotate_left
      ·
       intro w'
       go_simp
       with_reducible rfl
      rotate_left
      ·
       simp only [Act.put, lt1_, lt2_, lt3_, i64_w, i32_w]
       rfl
      refine one_ (i := 7) (N := some 29) #[true, true, true, true, true, true, true, true, false, false] rfl rfl (one_of HT_.out (by kernel_rfl)) (by decide) (fun K hK => ?_)
      refine value_ (w1 := ?_) (v := ?_) (by rfl) rfl ?_ ?_
      rotate_left 2
      ·
       go_simp
       constructor
       ·
        rfl
       ·
        rfl
      refine hK.out _ _ ⟨(bc_ (ba_ BK309.out _) 0).trans rfl, (bc_ (ba_ BK309.out _) 1).trans rfl, (bc_ (ba_ BK309.out _) 2).trans rfl⟩ (fun hHeld => ?_)
      clear hK K
      refine norm_ (a' := ?_) ?_ ?_
      rotate_left
      ·
       show Act.put _ (some 29) _ = _
       simp only [Act.put, lt1_, lt2_, lt3_, i64_w, i32_w]
       rfl
      refine one_ (i := 8) (N := some 30) #[true, true, true, true, true, true, true, true, true, false] rfl rfl (one_of HT_.out (by kernel_rfl)) (by decide) (fun K hK => ?_)
      refine Kd.S_append_step k79 (w0 := w) w.heap.size (by rfl) (.tmp 22) (.tmp 29) 22 79 (.agg #[(.int .i64 0), (.slice none 0 0)]) 32 rfl Try.underlying22 info79 rfl (by decide) (by omega) v313 t312 (⟨a0_0, y318⟩ : S79) [.int .i64 a0_0, .slice Ao35 y318.length co35] (fun _ => True) (fun k_ => some k_ = (.slice Ao35 y318.length co35 : Value).ownBlock) rfl rfl ?aP (fun k_ hk_ => ((Kd.R_mono (ok' := fun k_ => ((fun _ => True)) k_ ∧ some k_ ≠ (v313 : Value).ownBlock) (Kd.R_apart' (HO320.out) (Kd.S_typed HO314.out) (by decide)) (fun k_ hk => ⟨trivial, hk.2⟩))).1 k_ hk_.symm) ?aF ?aO ?aB ?aS ?aL ?_
      (case aP => exact k79_mkM _ _ _ (⟨a0_0, y318⟩ : S79) (Kd.R_mono (Kd.R_tight rfl (Kd.R_mono (ok' := fun k_ => ((fun _ => True)) k_ ∧ some k_ ≠ (v313 : Value).ownBlock) (Kd.R_apart' (HO320.out) (Kd.S_typed HO314.out) (by decide)) (fun k_ hk => ⟨trivial, hk.2⟩))) (fun _ h_ => h_)))
      (case aB => exact (pb2_ HB.out GE309.out GE310.out))
      (case aF => exact (fun _ _ => trivial))
      (case aO => exact (by (with_reducible repeat (first | apply Kd.S_alloc | apply Kd.S_drewN | apply Kd.S_drew)); exact Kd.S_mono HO314.out (fun k_ hk => ⟨trivial, fun e_ => hk.2 e_⟩)))
      (case aS => exact (bz_ (pb2_ HB.out GE309.out GE310.out)))
      (case aL => have := LMc23.out; omega)
      intro v322 w36 ho hb hg hat
      rw [← Ny321.out] at ho
      have n0_ := am_ (blk_grown (g := gb309) (o := .cells #[.int .i64 a0_0, .int .i64 a0_1, .slice A0_2 l0_2.length c0_2] 24 (0, 0)) (pk_ BK309.out) hg (Kd.S_ne HO314.out BK309.out (by decide)))
      have n1_ := am_ (blk_grown (g := gb310) (o := .cells #[.int .i64 0, .int .i64 0, .slice none 0 0] 24 (0, 0)) (pk_ BK310.out) hg (Kd.S_ne HO314.out BK310.out (by decide)))
      have n2_ := am_ (hb)
      have n3_ := am_ (ho)
      clear BK309
      clear BK310
      clear HB
      clear HO314
      clear HO320
      have BK309 := n0_
      have BK310 := n1_
      have HB := n2_
      have HO323 := n3_
      clear n0_ n1_ n2_ n3_
      clear ho hb hg hat
      refine hK.out _ _ ⟨(bc_ BK309.out 0).trans rfl, (bc_ BK309.out 1).trans rfl, (bc_ BK309.out 2).trans rfl⟩ (fun hHeld => ?_)
      clear hK K
      refine norm_ (a' := ?_) ?_ ?_
      rotate_left
      ·
       show Act.put _ (some 30) _ = _
       simp only [Act.put, lt1_, lt2_, lt3_, i64_w, i32_w]
       rfl
      refine pure_ (i := 9) (N := some 6) (v := ?_) (a' := ?_) #[true, true, true, true, true, true, true, true, true, true] rfl rfl (any_of HT_.out (by kernel_rfl)) (fun _ _ _ h => h) (Or.inl ⟨by rfl, ?_⟩) ?_ ?_
      rotate_left
      ·
       intro w'
       go_simp
       with_reducible rfl
      rotate_left
      ·
       simp only [Act.put, lt1_, lt2_, lt3_, i64_w, i32_w]
       rfl
      refine done_ (done_of HT_.out (by kernel_rfl)) ?_
      have hcz37_0 : w36.cell? ⟨gb309, 0, none⟩ = some (.int .i64 a0_0) := (bc_ BK309.out 0).trans rfl
      have hcz37_1 : w36.cell? ⟨gb309, 1, none⟩ = some (.int .i64 a0_1) := (bc_ BK309.out 1).trans rfl
      have hcz37_2 : w36.cell? ⟨gb309, 2, none⟩ = some (.slice A0_2 l0_2.length c0_2) := (bc_ BK309.out 2).trans rfl
      have hfz37_0 := bf_ BK309.out 0
      have hfz37_1 := bf_ BK309.out 1
      have hfz37_2 := bf_ BK309.out 2
      obtain ⟨Ao38, co38, eo38⟩ := Kd.S_slice HO323.out
      subst eo38
      have hcz39_0 : w36.cell? ⟨gb310, 0, none⟩ = some (.int .i64 0) := (bc_ BK310.out 0).trans rfl
      have hcz39_1 : w36.cell? ⟨gb310, 1, none⟩ = some (.int .i64 0) := (bc_ BK310.out 1).trans rfl
      have hcz39_2 : w36.cell? ⟨gb310, 2, none⟩ = some (.slice none 0 0) := (bc_ BK310.out 2).trans rfl
      have hfz39_0 := bf_ BK310.out 0
      have hfz39_1 := bf_ BK310.out 1
      have hfz39_2 := bf_ BK310.out 2
      try go_wp2
      refine bodyPost_ret (results_ct rfl _ _ gb310 24 #[.int .i64 a0_0, .int .i64 a0_1, .slice Ao38 y321.length co38] (0, 0) _ rfl (by (with_reducible repeat (first | refine bn_ ?_ _ | refine bd_ ?_ | refine ba_ ?_ _)); refine blk_put (cs := #[.int .i64 a0_0, .int .i64 a0_1, .slice none 0 0]) ?_ 2 _ rfl; (with_reducible repeat (first | refine bn_ ?_ _ | refine bd_ ?_ | refine ba_ ?_ _)); refine blk_put (cs := #[.int .i64 a0_0, .int .i64 0, .slice none 0 0]) ?_ 1 _ rfl; (with_reducible repeat (first | refine bn_ ?_ _ | refine bd_ ?_ | refine ba_ ?_ _)); refine blk_put (cs := #[.int .i64 0, .int .i64 0, .slice none 0 0]) ?_ 0 _ rfl; (with_reducible repeat (first | refine bn_ ?_ _ | refine bd_ ?_ | refine ba_ ?_ _)); exact BK310.out) Try.underlying24 rfl (by kernel_rfl)) rfl ?_
      exact ⟨_, by first | rfl | (simp [errW_none, errW_some] <;> rfl) | (simp [*, errW_none, errW_some] <;> rfl), by (with_reducible repeat (first | apply Kd.S_alloc | apply Kd.S_drewN | apply Kd.S_drew)); exact Kd.S_mono (Kd.S_far (p := ⟨gb310, 2, none⟩) (Kd.S_far (p := ⟨gb310, 1, none⟩) (Kd.S_far (p := ⟨gb310, 0, none⟩) (Kd.S_types HO323.out BK310.out (by decide)) (fun _ hk => hk.2) (.int .i64 a0_0)) (fun _ hk => hk.2) (.int .i64 a0_1)) (fun _ hk => hk.2) (.slice Ao38 y321.length co38)) (fun _ hk => trivial), pb2_ HB.out GE309.out GE310.out⟩
     ·
      rw [if_neg c23] at H
      exact absurd H (by simp)
    ·
     rw [if_neg c22] at H
     exact absurd H (by simp)
 ·
  replace c4 := Bool.eq_false_iff.mpr c4
  subst c4
  have H1 : (some (0, 0, ([] : List (S79)), 8)) = some (r1, r2, r3, r4) := by rw [if_neg (show ¬ (false = true) by decide)] at H; exact H
  clear H
  have H := H1
  clear H1
  simp only [Option.some.injEq, Prod.mk.injEq] at H
  obtain ⟨rfl, rfl, rfl, rfl⟩ := H
  go_enter Try.func14, Try.ntmps14
  go_wp2_with (first | ((with_reducible refine gate_dst (N := 2) rfl ?_); refine box_event ?hg (N := 2) ?hd (cs := #[.int .i64 a0_0, .int .i64 a0_1, .slice A0_2 l0_2.length c0_2]) (t := 24) ?hr ?_; (case hd => rfl); (case hg => rfl); (case hr => first | (go_simp; done) | (go_simp; rfl)); intro gb309 hg w40 hbox hb; have n0_ := am_ (sp_ (pb0_ HB.out) hb); have n1_ := am_ (hbox); have n2_ := am_ ((by rw [hg]; exact (bz_ (pb0_ HB.out)) : w.heap.size ≤ gb309)); have n3_ := am_ ((by rw [hg]; exact (bz_ (pb0_ HB.out)) : w.heap.size ≤ gb309)); clear HB; have HB := n0_; have BK309 := n1_; have GW309 := n2_; have GE309 := n3_; clear n0_ n1_ n2_ n3_; clear hb hbox hg) | ((with_reducible refine gate_dst (N := 4) rfl ?_); refine box_event ?hg (N := 4) ?hd (cs := #[.int .i64 0, .int .i64 0, .slice none 0 0]) (t := 24) ?hr ?_; (case hd => rfl); (case hg => rfl); (case hr => first | (go_simp; done) | (go_simp; rfl)); intro gb310 hg w41 hbox hb; have n0_ := am_ (bw_ (g := gb309) (o := .cells #[.int .i64 a0_0, .int .i64 a0_1, .slice A0_2 l0_2.length c0_2] 24 (0, 0)) (pk_ BK309.out) hb); have n1_ := am_ (sp_ (pb1_ HB.out GE309.out) hb); have n2_ := am_ (hbox); have n3_ := am_ ((by rw [hg]; exact (bz_ (pb1_ HB.out GE309.out)) : w.heap.size ≤ gb310)); have n4_ := am_ ((by rw [hg]; exact (bz_ (pb1_ HB.out GE309.out)) : w.heap.size ≤ gb310)); have n5_ := am_ ((by rw [hg]; exact Nat.ne_of_lt (blk_lt (g := gb309) (o := .cells #[.int .i64 a0_0, .int .i64 a0_1, .slice A0_2 l0_2.length c0_2] 24 (0, 0)) (pk_ BK309.out)) : gb309 ≠ gb310)); have n6_ := am_ ((by rw [hg]; exact Nat.ne_of_gt (blk_lt (g := gb309) (o := .cells #[.int .i64 a0_0, .int .i64 a0_1, .slice A0_2 l0_2.length c0_2] 24 (0, 0)) (pk_ BK309.out)) : gb310 ≠ gb309)); clear BK309; clear HB; have BK309 := n0_; have HB := n1_; have BK310 := n2_; have GW310 := n3_; have GE310 := n4_; have NB309_310 := n5_; have NB310_309 := n6_; clear n0_ n1_ n2_ n3_ n4_ n5_ n6_; clear hb hbox hg; have hnb42 := NB309_310.out; have hnc42 := NB310_309.out; have hcz43_0 : w41.cell? ⟨gb309, 0, none⟩ = some (.int .i64 a0_0) := (bc_ BK309.out 0).trans rfl; have hcz43_1 : w41.cell? ⟨gb309, 1, none⟩ = some (.int .i64 a0_1) := (bc_ BK309.out 1).trans rfl; have hcz43_2 : w41.cell? ⟨gb309, 2, none⟩ = some (.slice A0_2 l0_2.length c0_2) := (bc_ BK309.out 2).trans rfl; have hfz43_0 := bf_ BK309.out 0; have hfz43_1 := bf_ BK309.out 1; have hfz43_2 := bf_ BK309.out 2) | ((with_reducible refine gate_callee (f := 31) rfl ?_); refine goesL_ (some 8) rfl rfl Try.func31 (by kernel_rfl) rfl #[.agg #[.int .i64 a0_0, .int .i64 a0_1, .slice A0_2 l0_2.length c0_2]] rfl au_ ?_; (with_reducible refine (tapearchiveref26_valid.calls k a0_0 a0_1 _ _ l0_2 false _ ?side1 ?side2 A3.out).mono ?_); (case side1 => repeat (first | exact (Kd.C_below HR0_2.out HB.out) | (with_reducible refine Kd.C_alloc ?_ _) | (with_reducible refine Kd.C_drewN ?_ _) | (with_reducible refine Kd.C_drew ?_))); (case side2 => exact HC0_2.out); rintro e w44 ⟨rfl, hb⟩; refine ⟨_, rfl, ?_⟩; have n0_ := am_ (bw_ (g := gb309) (o := .cells #[.int .i64 a0_0, .int .i64 a0_1, .slice A0_2 l0_2.length c0_2] 24 (0, 0)) (pk_ BK309.out) hb); have n1_ := am_ (bw_ (g := gb310) (o := .cells #[.int .i64 0, .int .i64 0, .slice none 0 0] 24 (0, 0)) (pk_ BK310.out) hb); have n2_ := am_ (sp_ (pb2_ HB.out GE309.out GE310.out) hb); clear BK309; clear BK310; clear HB; have BK309 := n0_; have BK310 := n1_; have HB := n2_; clear n0_ n1_ n2_; (try clear hb); (try clear hb2); (try clear hk); (try clear hi); have hcz45_0 : w44.cell? ⟨gb310, 0, none⟩ = some (.int .i64 0) := (bc_ BK310.out 0).trans rfl; have hcz45_1 : w44.cell? ⟨gb310, 1, none⟩ = some (.int .i64 0) := (bc_ BK310.out 1).trans rfl; have hcz45_2 : w44.cell? ⟨gb310, 2, none⟩ = some (.slice none 0 0) := (bc_ BK310.out 2).trans rfl; have hfz45_0 := bf_ BK310.out 0; have hfz45_1 := bf_ BK310.out 1; have hfz45_2 := bf_ BK310.out 2))
  refine bodyPost_ret (results_ct rfl _ _ gb310 24 #[.int .i64 0, .int .i64 0, .slice none 0 0] (0, 0) _ rfl (by (with_reducible repeat (first | refine bn_ ?_ _ | refine bd_ ?_ | refine ba_ ?_ _)); refine blk_put (cs := #[.int .i64 0, .int .i64 0, .slice none 0 0]) ?_ 2 _ rfl; (with_reducible repeat (first | refine bn_ ?_ _ | refine bd_ ?_ | refine ba_ ?_ _)); refine blk_put (cs := #[.int .i64 0, .int .i64 0, .slice none 0 0]) ?_ 1 _ rfl; (with_reducible repeat (first | refine bn_ ?_ _ | refine bd_ ?_ | refine ba_ ?_ _)); refine blk_put (cs := #[.int .i64 0, .int .i64 0, .slice none 0 0]) ?_ 0 _ rfl; (with_reducible repeat (first | refine bn_ ?_ _ | refine bd_ ?_ | refine ba_ ?_ _)); exact BK310.out) Try.underlying24 rfl (by kernel_rfl)) rfl ?_
  exact ⟨_, by first | rfl | (simp [errW_none, errW_some] <;> rfl) | (simp [*, errW_none, errW_some] <;> rfl), by first | exact Kd.S_nil _ _ _ _ _ | exact Kd.N_nil _ _ _ _ _ | exact Kd.V_nil _ _ _ _ _ | exact Kd.Q_nil _ _ _ _ _ | exact Kd.R_nil _ _ _ _ _, pb2_ HB.out GE309.out GE310.out⟩
def tapearchivelaw26_equal.l0 : Nat → List Int → List Int → Int → Option (Bool)
 | 0, _, _, _ => none
 | k + 1, x0, x1, x5 => if x5 < (x0.length : Int) then (if 0 ≤ x5 then (if x5 < (x1.length : Int) then (if (rd x0 x5) = (rd x1 x5) then (tapearchivelaw26_equal.l0 k x0 x1 (wrap64 (x5 + 1))) else (some false)) else (none)) else (none)) else (some true)
def tapearchivelaw26_equal.f (k : Nat) (l0 : List Int) (l1 : List Int) : Option (Bool) := if (l0.length : Int) = (l1.length : Int) then (tapearchivelaw26_equal.l0 k l0 l1 0) else (some false)
set_option maxHeartbeats 8000000 in
set_option maxRecDepth 100000 in
theorem tapearchivelaw26_equal.calls (k : Nat) (A0 : Option Addr) (c0 : Nat) (l0 : List Int) (A1 : Option Addr) (c1 : Nat) (l1 : List Int) (r : Bool) (w : World) (hr0 : Kd.C (Kd.int .u8) w A0 l0.length l0) (hc0 : l0.length ≤ c0) (hr1 : Kd.C (Kd.int .u8) w A1 l1.length l1) (hc1 : l1.length ≤ c1) (h : tapearchivelaw26_equal.f k l0 l1 = some r) :
  Calls Try.prog 47 #[.slice A0 l0.length c0, .slice A1 l1.length c1] w fun e w' => e = .returned (.bool r) ∧ Drawn0 w w' := by
 have HR0 := am_ hr0
 have HC0 := am_ hc0
 clear hr0 hc0
 have HR1 := am_ hr1
 have HC1 := am_ hc1
 clear hr1 hc1
 have H : (if (l0.length : Int) = (l1.length : Int) then (tapearchivelaw26_equal.l0 k l0 l1 0) else (some false)) = some r := h
 clear h
 by_cases c3 : (l0.length : Int) = (l1.length : Int)
 ·
  rw [if_pos c3] at H
  have c3b0 : ((l0.length : Int) == (l1.length : Int)) = true := beq_iff_eq.mpr c3
  have c3b1 : ((l0.length : Int) != (l1.length : Int)) = false := bne_eq_false_iff_eq.mpr c3
  have c3b2 : (l0.length == l1.length) = true := by first | simpa using c3 | (simp at c3 ⊢; omega)
  clear c3
  have H' := am_ H
  clear H
  go_enter Try.func47, Try.ntmps47
  go_wp2
  repeat (go_quiet (fail); try go_wp2)
  go_loopg [5] k (fun kq v5 w' => ∃ (x5_1 : Int), v5 = .int .i64 x5_1 ∧ Aside0 (tapearchivelaw26_equal.l0 kq l0 l1 x5_1 = some r) ∧ Aside0 (kq ≤ k) ∧ Drawn0 w w')
  case atStart => exact ⟨(0), (by first | rfl | (simp; done) | (simp [*]; done)), H', ⟨Nat.le_refl _⟩, by repeat (first | exact Drawn0.refl _ | apply Drawn0.step)⟩
  case round =>
   clear H'
   try clear c1
   try clear p2
   try clear c3
   try clear c3b0
   try clear c3b1
   try clear c3b2
   obtain ⟨x5_1, rfl, HA, HK1, ⟨m1, rfl⟩⟩ := hrel
   cases gk with
   | zero => exact absurd HA.out (by simp [tapearchivelaw26_equal.l0])
   | succ k1 =>
    have H := HA.out
    clear HA
    simp only [tapearchivelaw26_equal.l0] at H
    by_cases c4 : x5_1 < (l0.length : Int)
    ·
     rw [if_pos c4] at H
     have c4b0 : decide (x5_1 < (l0.length : Int)) = true := de_ c4
     clear c4
     by_cases c5 : 0 ≤ x5_1
     ·
      rw [if_pos c5] at H
      have c5b0 : decide (0 ≤ x5_1) = true := de_ c5
      clear c5
      by_cases c6 : x5_1 < (l1.length : Int)
      ·
       rw [if_pos c6] at H
       have c6b0 : decide (x5_1 < (l1.length : Int)) = true := de_ c6
       clear c6
       by_cases c7 : (rd l0 x5_1) = (rd l1 x5_1)
       ·
        rw [if_pos c7] at H
        have c7b0 : ((rd l0 x5_1) == (rd l1 x5_1)) = true := beq_iff_eq.mpr c7
        have c7b1 : ((rd l0 x5_1) != (rd l1 x5_1)) = false := bne_eq_false_iff_eq.mpr c7
        clear c7
        have H' := am_ H
        clear H
        have p324 : 0 ≤ (x5_1 : Int) := ot_ (by first | (with_reducible assumption) | assumption)
        have q324 : x5_1 < (l0.length : Int) := ot_ (by first | (with_reducible assumption) | assumption)
        obtain ⟨ad324, e324, hx324_0⟩ := Kd.at_int HR0.out x5_1 p324 q324
        cases e324
        replace p324 := eq_true p324
        replace q324 := eq_true q324
        have p325 : 0 ≤ (x5_1 : Int) := ot_ (by first | (with_reducible assumption) | assumption)
        have q325 : x5_1 < (l1.length : Int) := ot_ (by first | (with_reducible assumption) | assumption)
        obtain ⟨ad325, e325, hx325_0⟩ := Kd.at_int HR1.out x5_1 p325 q325
        cases e325
        replace p325 := eq_true p325
        replace q325 := eq_true q325
        go_wp2
        repeat (go_quiet (fail); try go_wp2)
        go_roundg k1
        case measure => have := HK1.out; omega
        case rel => exact ⟨(wrap64 (x5_1 + 1)), (by first | rfl | (simp; done) | (simp [*]; done)), H', ⟨by have := HK1.out; omega⟩, by repeat (first | exact Drawn0.refl _ | apply Drawn0.step)⟩
       ·
        rw [if_neg c7] at H
        have c7b0 : ((rd l0 x5_1) == (rd l1 x5_1)) = false := beq_eq_false_iff_ne.mpr c7
        have c7b1 : ((rd l0 x5_1) != (rd l1 x5_1)) = true := bne_iff_ne.mpr c7
        obtain rfl := si_ H
        have p324 : 0 ≤ (x5_1 : Int) := ot_ (by first | (with_reducible assumption) | assumption)
        have q324 : x5_1 < (l0.length : Int) := ot_ (by first | (with_reducible assumption) | assumption)
        obtain ⟨ad324, e324, hx324_0⟩ := Kd.at_int HR0.out x5_1 p324 q324
        cases e324
        replace p324 := eq_true p324
        replace q324 := eq_true q324
        have p325 : 0 ≤ (x5_1 : Int) := ot_ (by first | (with_reducible assumption) | assumption)
        have q325 : x5_1 < (l1.length : Int) := ot_ (by first | (with_reducible assumption) | assumption)
        obtain ⟨ad325, e325, hx325_0⟩ := Kd.at_int HR1.out x5_1 p325 q325
        cases e325
        replace p325 := eq_true p325
        replace q325 := eq_true q325
        go_wp2
        repeat (go_quiet (fail); try go_wp2)
        go_ret
        exact ⟨by first | rfl | (simp; done) | (simp [*]; done), by repeat (first | exact Drawn0.refl _ | apply Drawn0.step)⟩
      ·
       rw [if_neg c6] at H
       exact absurd H (by simp)
     ·
      rw [if_neg c5] at H
      exact absurd H (by simp)
    ·
     rw [if_neg c4] at H
     have c4b0 : decide (x5_1 < (l0.length : Int)) = false := df_ c4
     clear c4
     obtain rfl := si_ H
     go_wp2
     repeat (go_quiet (fail); try go_wp2)
     go_ret
     exact ⟨by first | rfl | (simp; done) | (simp [*]; done), by repeat (first | exact Drawn0.refl _ | apply Drawn0.step)⟩
 ·
  rw [if_neg c3] at H
  have c3b0 : ((l0.length : Int) == (l1.length : Int)) = false := beq_eq_false_iff_ne.mpr c3
  have c3b1 : ((l0.length : Int) != (l1.length : Int)) = true := bne_iff_ne.mpr c3
  have c3b2 : (l0.length == l1.length) = false := by first | simpa using c3 | (simp at c3 ⊢; omega)
  obtain rfl := si_ H
  go_enter Try.func47, Try.ntmps47
  go_wp2
  repeat (go_quiet (fail); try go_wp2)
  go_ret
  exact ⟨by first | rfl | (simp; done) | (simp [*]; done), by repeat (first | exact Drawn0.refl _ | apply Drawn0.step)⟩
def tapearchivelaw26_sameRecords.l0 : Nat → List (S87) → List (S79) → Int → Option (Bool)
 | 0, _, _, _ => none
 | k + 1, x0, x1, x5 => if x5 < (x0.length : Int) then (if 0 ≤ x5 then (if x5 < (x1.length : Int) then (if ((rd_T87 x0 x5).f0) = ((rd_T79 x1 x5).f0) then ((tapearchivelaw26_equal.f k ((rd_T87 x0 x5).f1) ((rd_T79 x1 x5).f1)).bind fun t330 => (if t330 = true then (tapearchivelaw26_sameRecords.l0 k x0 x1 (wrap64 (x5 + 1))) else (some false))) else (some false)) else (none)) else (none)) else (some true)
def tapearchivelaw26_sameRecords.f (k : Nat) (l0 : List (S87)) (l1 : List (S79)) : Option (Bool) := if (l0.length : Int) = (l1.length : Int) then (tapearchivelaw26_sameRecords.l0 k l0 l1 0) else (some false)
set_option maxHeartbeats 8000000 in
set_option maxRecDepth 100000 in
theorem tapearchivelaw26_sameRecords.calls (k : Nat) (A0 : Option Addr) (c0 : Nat) (l0 : List (S87)) (A1 : Option Addr) (c1 : Nat) (l1 : List (S79)) (r : Bool) (w : World) (hr0 : Kd.C k87 w A0 l0.length l0) (hc0 : l0.length ≤ c0) (hr1 : Kd.C k79 w A1 l1.length l1) (hc1 : l1.length ≤ c1) (h : tapearchivelaw26_sameRecords.f k l0 l1 = some r) :
  Calls Try.prog 35 #[.slice A0 l0.length c0, .slice A1 l1.length c1] w fun e w' => e = .returned (.bool r) ∧ Drawn0 w w' := by
 have HR0 := am_ hr0
 have HC0 := am_ hc0
 clear hr0 hc0
 have HR1 := am_ hr1
 have HC1 := am_ hc1
 clear hr1 hc1
 have H : (if (l0.length : Int) = (l1.length : Int) then (tapearchivelaw26_sameRecords.l0 k l0 l1 0) else (some false)) = some r := h
 clear h
 by_cases c3 : (l0.length : Int) = (l1.length : Int)
 ·
  rw [if_pos c3] at H
  have c3b0 : ((l0.length : Int) == (l1.length : Int)) = true := beq_iff_eq.mpr c3
  have c3b1 : ((l0.length : Int) != (l1.length : Int)) = false := bne_eq_false_iff_eq.mpr c3
  have c3b2 : (l0.length == l1.length) = true := by first | simpa using c3 | (simp at c3 ⊢; omega)
  clear c3
  have H' := am_ H
  clear H
  go_enter Try.func35, Try.ntmps35
  go_wp2
  repeat (go_quiet (fail); try go_wp2)
  go_loopg [5] k (fun kq v5 w' => ∃ (x5_1 : Int), v5 = .int .i64 x5_1 ∧ Aside0 (tapearchivelaw26_sameRecords.l0 kq l0 l1 x5_1 = some r) ∧ Aside0 (kq ≤ k) ∧ Drawn0 w w')
  case atStart => exact ⟨(0), (by first | rfl | (simp; done) | (simp [*]; done)), H', ⟨Nat.le_refl _⟩, by repeat (first | exact Drawn0.refl _ | apply Drawn0.step)⟩
  case round =>
   clear H'
   try clear c1
   try clear p2
   try clear c3
   try clear c3b0
   try clear c3b1
   try clear c3b2
   obtain ⟨x5_1, rfl, HA, HK1, ⟨m1, rfl⟩⟩ := hrel
   cases gk with
   | zero => exact absurd HA.out (by simp [tapearchivelaw26_sameRecords.l0])
   | succ k1 =>
    have H := HA.out
    clear HA
    simp only [tapearchivelaw26_sameRecords.l0] at H
    by_cases c4 : x5_1 < (l0.length : Int)
    ·
     rw [if_pos c4] at H
     have c4b0 : decide (x5_1 < (l0.length : Int)) = true := de_ c4
     clear c4
     by_cases c5 : 0 ≤ x5_1
     ·
      rw [if_pos c5] at H
      have c5b0 : decide (0 ≤ x5_1) = true := de_ c5
      clear c5
      by_cases c6 : x5_1 < (l1.length : Int)
      ·
       rw [if_pos c6] at H
       have c6b0 : decide (x5_1 < (l1.length : Int)) = true := de_ c6
       clear c6
       by_cases c7 : ((rd_T87 l0 x5_1).f0) = ((rd_T79 l1 x5_1).f0)
       ·
        rw [if_pos c7] at H
        have c7b0 : (((rd_T87 l0 x5_1).f0) == ((rd_T79 l1 x5_1).f0)) = true := beq_iff_eq.mpr c7
        have c7b1 : (((rd_T87 l0 x5_1).f0) != ((rd_T79 l1 x5_1).f0)) = false := bne_eq_false_iff_eq.mpr c7
        clear c7
        replace H := Option.bind_eq_some_iff.mp H
        obtain ⟨t330, A80, H⟩ := H
        replace H : (if t330 = true then (tapearchivelaw26_sameRecords.l0 k1 l0 l1 (wrap64 (x5_1 + 1))) else (some false)) = some r := H
        have A8 := am_ A80
        clear A80
        by_cases c9 : t330 = true
        ·
         subst c9
         have H1 : (tapearchivelaw26_sameRecords.l0 k1 l0 l1 (wrap64 (x5_1 + 1))) = some r := by rw [if_pos rfl] at H; exact H
         clear H
         have H := H1
         clear H1
         have H' := am_ H
         clear H
         have p326 : 0 ≤ (x5_1 : Int) := ot_ (by first | (with_reducible assumption) | assumption)
         have q326 : x5_1 < (l0.length : Int) := ot_ (by first | (with_reducible assumption) | assumption)
         obtain ⟨ad326, A326_1, c326_1, e326, hx326_0, hx326_1, hl326_1, hi326_1⟩ := at_T87 HR0.out x5_1 p326 q326
         cases e326
         have HR326_1 := am_ hi326_1
         have HC326_1 := am_ hl326_1
         clear hi326_1 hl326_1
         replace p326 := eq_true p326
         replace q326 := eq_true q326
         have p327 : 0 ≤ (x5_1 : Int) := ot_ (by first | (with_reducible assumption) | assumption)
         have q327 : x5_1 < (l1.length : Int) := ot_ (by first | (with_reducible assumption) | assumption)
         obtain ⟨ad327, A327_1, c327_1, e327, hx327_0, hx327_1, hl327_1, hi327_1⟩ := at_T79 HR1.out x5_1 p327 q327
         cases e327
         have HR327_1 := am_ hi327_1
         have HC327_1 := am_ hl327_1
         clear hi327_1 hl327_1
         replace p327 := eq_true p327
         replace q327 := eq_true q327
         have p328 : 0 ≤ (x5_1 : Int) := ot_ (by first | (with_reducible assumption) | assumption)
         have q328 : x5_1 < (l0.length : Int) := ot_ (by first | (with_reducible assumption) | assumption)
         obtain ⟨ad328, A328_1, c328_1, e328, hx328_0, hx328_1, hl328_1, hi328_1⟩ := at_T87 HR0.out x5_1 p328 q328
         obtain rfl : ad326 = ad328 := (by injection e328)
         have HR328_1 := am_ hi328_1
         have HC328_1 := am_ hl328_1
         clear hi328_1 hl328_1
         replace p328 := eq_true p328
         replace q328 := eq_true q328
         have ea_ := si_ (hx326_1.symm.trans hx328_1)
         injection ea_ with ea_ en_ ec_
         subst ea_
         subst ec_
         clear en_
         have p329 : 0 ≤ (x5_1 : Int) := ot_ (by first | (with_reducible assumption) | assumption)
         have q329 : x5_1 < (l1.length : Int) := ot_ (by first | (with_reducible assumption) | assumption)
         obtain ⟨ad329, A329_1, c329_1, e329, hx329_0, hx329_1, hl329_1, hi329_1⟩ := at_T79 HR1.out x5_1 p329 q329
         obtain rfl : ad327 = ad329 := (by injection e329)
         have HR329_1 := am_ hi329_1
         have HC329_1 := am_ hl329_1
         clear hi329_1 hl329_1
         replace p329 := eq_true p329
         replace q329 := eq_true q329
         have ea_ := si_ (hx327_1.symm.trans hx329_1)
         injection ea_ with ea_ en_ ec_
         subst ea_
         subst ec_
         clear en_
         go_wp2_with (first | (go_at_call 47; (with_reducible refine (tapearchivelaw26_equal.calls k1 _ _ ((rd_T87 l0 x5_1).f1) _ _ ((rd_T79 l1 x5_1).f1) true _ ?side1 ?side2 ?side3 ?side4 A8.out).mono ?_); (case side1 => repeat (first | exact HR328_1.out | (with_reducible refine Kd.C_alloc ?_ _) | (with_reducible refine Kd.C_drewN ?_ _) | (with_reducible refine Kd.C_drew ?_))); (case side2 => exact HC328_1.out); (case side3 => repeat (first | exact HR329_1.out | (with_reducible refine Kd.C_alloc ?_ _) | (with_reducible refine Kd.C_drewN ?_ _) | (with_reducible refine Kd.C_drew ?_))); (case side4 => exact HC329_1.out); rintro e w' ⟨rfl, ⟨nd, rfl⟩⟩; (try first | exact ⟨rfl, _, World.drewN_drewN _ _ _⟩ | exact ⟨rfl, _, Eq.trans (World.drewN_drewN _ _ _) (congrArg (World.drewN _) (Nat.add_assoc _ _ _))⟩)))
         repeat (go_quiet (first | (go_at_call 47; (with_reducible refine (tapearchivelaw26_equal.calls k1 _ _ ((rd_T87 l0 x5_1).f1) _ _ ((rd_T79 l1 x5_1).f1) true _ ?side1 ?side2 ?side3 ?side4 A8.out).mono ?_); (case side1 => repeat (first | exact HR328_1.out | (with_reducible refine Kd.C_alloc ?_ _) | (with_reducible refine Kd.C_drewN ?_ _) | (with_reducible refine Kd.C_drew ?_))); (case side2 => exact HC328_1.out); (case side3 => repeat (first | exact HR329_1.out | (with_reducible refine Kd.C_alloc ?_ _) | (with_reducible refine Kd.C_drewN ?_ _) | (with_reducible refine Kd.C_drew ?_))); (case side4 => exact HC329_1.out); rintro e w' ⟨rfl, ⟨nd, rfl⟩⟩; (try first | exact ⟨rfl, _, World.drewN_drewN _ _ _⟩ | exact ⟨rfl, _, Eq.trans (World.drewN_drewN _ _ _) (congrArg (World.drewN _) (Nat.add_assoc _ _ _))⟩))); try go_wp2_with (first | (go_at_call 47; (with_reducible refine (tapearchivelaw26_equal.calls k1 _ _ ((rd_T87 l0 x5_1).f1) _ _ ((rd_T79 l1 x5_1).f1) true _ ?side1 ?side2 ?side3 ?side4 A8.out).mono ?_); (case side1 => repeat (first | exact HR328_1.out | (with_reducible refine Kd.C_alloc ?_ _) | (with_reducible refine Kd.C_drewN ?_ _) | (with_reducible refine Kd.C_drew ?_))); (case side2 => exact HC328_1.out); (case side3 => repeat (first | exact HR329_1.out | (with_reducible refine Kd.C_alloc ?_ _) | (with_reducible refine Kd.C_drewN ?_ _) | (with_reducible refine Kd.C_drew ?_))); (case side4 => exact HC329_1.out); rintro e w' ⟨rfl, ⟨nd, rfl⟩⟩; (try first | exact ⟨rfl, _, World.drewN_drewN _ _ _⟩ | exact ⟨rfl, _, Eq.trans (World.drewN_drewN _ _ _) (congrArg (World.drewN _) (Nat.add_assoc _ _ _))⟩))))
         go_roundg k1
         case measure => have := HK1.out; omega
         case rel => exact ⟨(wrap64 (x5_1 + 1)), (by first | rfl | (simp; done) | (simp [*]; done)), H', ⟨by have := HK1.out; omega⟩, by repeat (first | exact Drawn0.refl _ | apply Drawn0.step)⟩
        ·
         replace c9 := Bool.eq_false_iff.mpr c9
         subst c9
         have H1 : (some false) = some r := by rw [if_neg (show ¬ (false = true) by decide)] at H; exact H
         clear H
         have H := H1
         clear H1
         obtain rfl := si_ H
         have p326 : 0 ≤ (x5_1 : Int) := ot_ (by first | (with_reducible assumption) | assumption)
         have q326 : x5_1 < (l0.length : Int) := ot_ (by first | (with_reducible assumption) | assumption)
         obtain ⟨ad326, A326_1, c326_1, e326, hx326_0, hx326_1, hl326_1, hi326_1⟩ := at_T87 HR0.out x5_1 p326 q326
         cases e326
         have HR326_1 := am_ hi326_1
         have HC326_1 := am_ hl326_1
         clear hi326_1 hl326_1
         replace p326 := eq_true p326
         replace q326 := eq_true q326
         have p327 : 0 ≤ (x5_1 : Int) := ot_ (by first | (with_reducible assumption) | assumption)
         have q327 : x5_1 < (l1.length : Int) := ot_ (by first | (with_reducible assumption) | assumption)
         obtain ⟨ad327, A327_1, c327_1, e327, hx327_0, hx327_1, hl327_1, hi327_1⟩ := at_T79 HR1.out x5_1 p327 q327
         cases e327
         have HR327_1 := am_ hi327_1
         have HC327_1 := am_ hl327_1
         clear hi327_1 hl327_1
         replace p327 := eq_true p327
         replace q327 := eq_true q327
         have p328 : 0 ≤ (x5_1 : Int) := ot_ (by first | (with_reducible assumption) | assumption)
         have q328 : x5_1 < (l0.length : Int) := ot_ (by first | (with_reducible assumption) | assumption)
         obtain ⟨ad328, A328_1, c328_1, e328, hx328_0, hx328_1, hl328_1, hi328_1⟩ := at_T87 HR0.out x5_1 p328 q328
         obtain rfl : ad326 = ad328 := (by injection e328)
         have HR328_1 := am_ hi328_1
         have HC328_1 := am_ hl328_1
         clear hi328_1 hl328_1
         replace p328 := eq_true p328
         replace q328 := eq_true q328
         have ea_ := si_ (hx326_1.symm.trans hx328_1)
         injection ea_ with ea_ en_ ec_
         subst ea_
         subst ec_
         clear en_
         have p329 : 0 ≤ (x5_1 : Int) := ot_ (by first | (with_reducible assumption) | assumption)
         have q329 : x5_1 < (l1.length : Int) := ot_ (by first | (with_reducible assumption) | assumption)
         obtain ⟨ad329, A329_1, c329_1, e329, hx329_0, hx329_1, hl329_1, hi329_1⟩ := at_T79 HR1.out x5_1 p329 q329
         obtain rfl : ad327 = ad329 := (by injection e329)
         have HR329_1 := am_ hi329_1
         have HC329_1 := am_ hl329_1
         clear hi329_1 hl329_1
         replace p329 := eq_true p329
         replace q329 := eq_true q329
         have ea_ := si_ (hx327_1.symm.trans hx329_1)
         injection ea_ with ea_ en_ ec_
         subst ea_
         subst ec_
         clear en_
         go_wp2_with (first | (go_at_call 47; (with_reducible refine (tapearchivelaw26_equal.calls k1 _ _ ((rd_T87 l0 x5_1).f1) _ _ ((rd_T79 l1 x5_1).f1) false _ ?side1 ?side2 ?side3 ?side4 A8.out).mono ?_); (case side1 => repeat (first | exact HR328_1.out | (with_reducible refine Kd.C_alloc ?_ _) | (with_reducible refine Kd.C_drewN ?_ _) | (with_reducible refine Kd.C_drew ?_))); (case side2 => exact HC328_1.out); (case side3 => repeat (first | exact HR329_1.out | (with_reducible refine Kd.C_alloc ?_ _) | (with_reducible refine Kd.C_drewN ?_ _) | (with_reducible refine Kd.C_drew ?_))); (case side4 => exact HC329_1.out); rintro e w' ⟨rfl, ⟨nd, rfl⟩⟩; (try first | exact ⟨rfl, _, World.drewN_drewN _ _ _⟩ | exact ⟨rfl, _, Eq.trans (World.drewN_drewN _ _ _) (congrArg (World.drewN _) (Nat.add_assoc _ _ _))⟩)))
         repeat (go_quiet (first | (go_at_call 47; (with_reducible refine (tapearchivelaw26_equal.calls k1 _ _ ((rd_T87 l0 x5_1).f1) _ _ ((rd_T79 l1 x5_1).f1) false _ ?side1 ?side2 ?side3 ?side4 A8.out).mono ?_); (case side1 => repeat (first | exact HR328_1.out | (with_reducible refine Kd.C_alloc ?_ _) | (with_reducible refine Kd.C_drewN ?_ _) | (with_reducible refine Kd.C_drew ?_))); (case side2 => exact HC328_1.out); (case side3 => repeat (first | exact HR329_1.out | (with_reducible refine Kd.C_alloc ?_ _) | (with_reducible refine Kd.C_drewN ?_ _) | (with_reducible refine Kd.C_drew ?_))); (case side4 => exact HC329_1.out); rintro e w' ⟨rfl, ⟨nd, rfl⟩⟩; (try first | exact ⟨rfl, _, World.drewN_drewN _ _ _⟩ | exact ⟨rfl, _, Eq.trans (World.drewN_drewN _ _ _) (congrArg (World.drewN _) (Nat.add_assoc _ _ _))⟩))); try go_wp2_with (first | (go_at_call 47; (with_reducible refine (tapearchivelaw26_equal.calls k1 _ _ ((rd_T87 l0 x5_1).f1) _ _ ((rd_T79 l1 x5_1).f1) false _ ?side1 ?side2 ?side3 ?side4 A8.out).mono ?_); (case side1 => repeat (first | exact HR328_1.out | (with_reducible refine Kd.C_alloc ?_ _) | (with_reducible refine Kd.C_drewN ?_ _) | (with_reducible refine Kd.C_drew ?_))); (case side2 => exact HC328_1.out); (case side3 => repeat (first | exact HR329_1.out | (with_reducible refine Kd.C_alloc ?_ _) | (with_reducible refine Kd.C_drewN ?_ _) | (with_reducible refine Kd.C_drew ?_))); (case side4 => exact HC329_1.out); rintro e w' ⟨rfl, ⟨nd, rfl⟩⟩; (try first | exact ⟨rfl, _, World.drewN_drewN _ _ _⟩ | exact ⟨rfl, _, Eq.trans (World.drewN_drewN _ _ _) (congrArg (World.drewN _) (Nat.add_assoc _ _ _))⟩))))
         go_ret
         exact ⟨by first | rfl | (simp; done) | (simp [*]; done), by repeat (first | exact Drawn0.refl _ | apply Drawn0.step)⟩
       ·
        rw [if_neg c7] at H
        have c7b0 : (((rd_T87 l0 x5_1).f0) == ((rd_T79 l1 x5_1).f0)) = false := beq_eq_false_iff_ne.mpr c7
        have c7b1 : (((rd_T87 l0 x5_1).f0) != ((rd_T79 l1 x5_1).f0)) = true := bne_iff_ne.mpr c7
        obtain rfl := si_ H
        have p326 : 0 ≤ (x5_1 : Int) := ot_ (by first | (with_reducible assumption) | assumption)
        have q326 : x5_1 < (l0.length : Int) := ot_ (by first | (with_reducible assumption) | assumption)
        obtain ⟨ad326, A326_1, c326_1, e326, hx326_0, hx326_1, hl326_1, hi326_1⟩ := at_T87 HR0.out x5_1 p326 q326
        cases e326
        have HR326_1 := am_ hi326_1
        have HC326_1 := am_ hl326_1
        clear hi326_1 hl326_1
        replace p326 := eq_true p326
        replace q326 := eq_true q326
        have p327 : 0 ≤ (x5_1 : Int) := ot_ (by first | (with_reducible assumption) | assumption)
        have q327 : x5_1 < (l1.length : Int) := ot_ (by first | (with_reducible assumption) | assumption)
        obtain ⟨ad327, A327_1, c327_1, e327, hx327_0, hx327_1, hl327_1, hi327_1⟩ := at_T79 HR1.out x5_1 p327 q327
        cases e327
        have HR327_1 := am_ hi327_1
        have HC327_1 := am_ hl327_1
        clear hi327_1 hl327_1
        replace p327 := eq_true p327
        replace q327 := eq_true q327
        go_wp2
        repeat (go_quiet (fail); try go_wp2)
        go_ret
        exact ⟨by first | rfl | (simp; done) | (simp [*]; done), by repeat (first | exact Drawn0.refl _ | apply Drawn0.step)⟩
      ·
       rw [if_neg c6] at H
       exact absurd H (by simp)
     ·
      rw [if_neg c5] at H
      exact absurd H (by simp)
    ·
     rw [if_neg c4] at H
     have c4b0 : decide (x5_1 < (l0.length : Int)) = false := df_ c4
     clear c4
     obtain rfl := si_ H
     go_wp2
     repeat (go_quiet (fail); try go_wp2)
     go_ret
     exact ⟨by first | rfl | (simp; done) | (simp [*]; done), by repeat (first | exact Drawn0.refl _ | apply Drawn0.step)⟩
 ·
  rw [if_neg c3] at H
  have c3b0 : ((l0.length : Int) == (l1.length : Int)) = false := beq_eq_false_iff_ne.mpr c3
  have c3b1 : ((l0.length : Int) != (l1.length : Int)) = true := bne_iff_ne.mpr c3
  have c3b2 : (l0.length == l1.length) = false := by first | simpa using c3 | (simp at c3 ⊢; omega)
  obtain rfl := si_ H
  go_enter Try.func35, Try.ntmps35
  go_wp2
  repeat (go_quiet (fail); try go_wp2)
  go_ret
  exact ⟨by first | rfl | (simp; done) | (simp [*]; done), by repeat (first | exact Drawn0.refl _ | apply Drawn0.step)⟩
def tapearchivelaw26_sameMessage.f (k : Nat) (a0_0 : Int) (a0_1 : Int) (a0_2 : Int) (l0_3 : List (S87)) (a0_4 : Int) (a1_0 : Int) (a1_1 : Int) (a1_2 : Int) (l1_3 : List (S79)) (a1_4 : Int) : Option (Bool) := if a0_0 = a1_0 then (if a0_1 = a1_1 then (if a0_2 = a1_2 then (if a0_4 = a1_4 then ((tapearchivelaw26_sameRecords.f k l0_3 l1_3).bind fun t333 => (some t333)) else (some false)) else (some false)) else (some false)) else (some false)
set_option maxHeartbeats 8000000 in
set_option maxRecDepth 100000 in
theorem tapearchivelaw26_sameMessage.calls (k : Nat) (a0_0 : Int) (a0_1 : Int) (a0_2 : Int) (A0_3 : Option Addr) (c0_3 : Nat) (l0_3 : List (S87)) (a0_4 : Int) (a1_0 : Int) (a1_1 : Int) (a1_2 : Int) (A1_3 : Option Addr) (c1_3 : Nat) (l1_3 : List (S79)) (a1_4 : Int) (r : Bool) (w : World) (hr0_3 : Kd.C k87 w A0_3 l0_3.length l0_3) (hc0_3 : l0_3.length ≤ c0_3) (hr1_3 : Kd.C k79 w A1_3 l1_3.length l1_3) (hc1_3 : l1_3.length ≤ c1_3) (h : tapearchivelaw26_sameMessage.f k a0_0 a0_1 a0_2 l0_3 a0_4 a1_0 a1_1 a1_2 l1_3 a1_4 = some r) :
  Calls Try.prog 15 #[.agg #[.int .i64 a0_0, .int .i64 a0_1, .int .i64 a0_2, .slice A0_3 l0_3.length c0_3, .int .i64 a0_4], .agg #[.int .i64 a1_0, .int .i64 a1_1, .int .i64 a1_2, .slice A1_3 l1_3.length c1_3, .int .i64 a1_4]] w fun e w' => e = .returned (.bool r) ∧ Below w.heap.size w w' := by
 have hu30 := Try.underlying30
 have hu38 := Try.underlying38
 have HR0_3 := am_ hr0_3
 have HC0_3 := am_ hc0_3
 clear hr0_3 hc0_3
 have HR1_3 := am_ hr1_3
 have HC1_3 := am_ hc1_3
 clear hr1_3 hc1_3
 have HB := am_ (Below.refl w.heap.size w)
 have H : (if a0_0 = a1_0 then (if a0_1 = a1_1 then (if a0_2 = a1_2 then (if a0_4 = a1_4 then ((tapearchivelaw26_sameRecords.f k l0_3 l1_3).bind fun t333 => (some t333)) else (some false)) else (some false)) else (some false)) else (some false)) = some r := h
 clear h
 by_cases c3 : a0_0 = a1_0
 ·
  rw [if_pos c3] at H
  have c3b0 : (a0_0 == a1_0) = true := beq_iff_eq.mpr c3
  have c3b1 : (a0_0 != a1_0) = false := bne_eq_false_iff_eq.mpr c3
  clear c3
  by_cases c4 : a0_1 = a1_1
  ·
   rw [if_pos c4] at H
   have c4b0 : (a0_1 == a1_1) = true := beq_iff_eq.mpr c4
   have c4b1 : (a0_1 != a1_1) = false := bne_eq_false_iff_eq.mpr c4
   clear c4
   by_cases c5 : a0_2 = a1_2
   ·
    rw [if_pos c5] at H
    have c5b0 : (a0_2 == a1_2) = true := beq_iff_eq.mpr c5
    have c5b1 : (a0_2 != a1_2) = false := bne_eq_false_iff_eq.mpr c5
    clear c5
    by_cases c6 : a0_4 = a1_4
    ·
     rw [if_pos c6] at H
     have c6b0 : (a0_4 == a1_4) = true := beq_iff_eq.mpr c6
     have c6b1 : (a0_4 != a1_4) = false := bne_eq_false_iff_eq.mpr c6
     clear c6
     replace H := Option.bind_eq_some_iff.mp H
     obtain ⟨t333, A70, H⟩ := H
     replace H : (some t333) = some r := H
     have A7 := am_ A70
     clear A70
     obtain rfl := si_ H
     go_enter Try.func15, Try.ntmps15
     go_wp2_with (first | ((with_reducible refine gate_dst (N := 2) rfl ?_); refine box_event ?hg (N := 2) ?hd (cs := #[.int .i64 a0_0, .int .i64 a0_1, .int .i64 a0_2, .slice A0_3 l0_3.length c0_3, .int .i64 a0_4]) (t := 30) ?hr ?_; (case hd => rfl); (case hg => rfl); (case hr => first | (go_simp; done) | (go_simp; rfl)); intro gb331 hg w8 hbox hb; have n0_ := am_ (sp_ (pb0_ HB.out) hb); have n1_ := am_ (hbox); have n2_ := am_ ((by rw [hg]; exact (bz_ (pb0_ HB.out)) : w.heap.size ≤ gb331)); have n3_ := am_ ((by rw [hg]; exact (bz_ (pb0_ HB.out)) : w.heap.size ≤ gb331)); clear HB; have HB := n0_; have BK331 := n1_; have GW331 := n2_; have GE331 := n3_; clear n0_ n1_ n2_ n3_; clear hb hbox hg) | ((with_reducible refine gate_dst (N := 3) rfl ?_); refine box_event ?hg (N := 3) ?hd (cs := #[.int .i64 a1_0, .int .i64 a1_1, .int .i64 a1_2, .slice A1_3 l1_3.length c1_3, .int .i64 a1_4]) (t := 38) ?hr ?_; (case hd => rfl); (case hg => rfl); (case hr => first | (go_simp; done) | (go_simp; rfl)); intro gb332 hg w9 hbox hb; have n0_ := am_ (bw_ (g := gb331) (o := .cells #[.int .i64 a0_0, .int .i64 a0_1, .int .i64 a0_2, .slice A0_3 l0_3.length c0_3, .int .i64 a0_4] 30 (0, 0)) (pk_ BK331.out) hb); have n1_ := am_ (sp_ (pb1_ HB.out GE331.out) hb); have n2_ := am_ (hbox); have n3_ := am_ ((by rw [hg]; exact (bz_ (pb1_ HB.out GE331.out)) : w.heap.size ≤ gb332)); have n4_ := am_ ((by rw [hg]; exact (bz_ (pb1_ HB.out GE331.out)) : w.heap.size ≤ gb332)); have n5_ := am_ ((by rw [hg]; exact Nat.ne_of_lt (blk_lt (g := gb331) (o := .cells #[.int .i64 a0_0, .int .i64 a0_1, .int .i64 a0_2, .slice A0_3 l0_3.length c0_3, .int .i64 a0_4] 30 (0, 0)) (pk_ BK331.out)) : gb331 ≠ gb332)); have n6_ := am_ ((by rw [hg]; exact Nat.ne_of_gt (blk_lt (g := gb331) (o := .cells #[.int .i64 a0_0, .int .i64 a0_1, .int .i64 a0_2, .slice A0_3 l0_3.length c0_3, .int .i64 a0_4] 30 (0, 0)) (pk_ BK331.out)) : gb332 ≠ gb331)); clear BK331; clear HB; have BK331 := n0_; have HB := n1_; have BK332 := n2_; have GW332 := n3_; have GE332 := n4_; have NB331_332 := n5_; have NB332_331 := n6_; clear n0_ n1_ n2_ n3_ n4_ n5_ n6_; clear hb hbox hg; have hnb10 := NB331_332.out; have hnc10 := NB332_331.out; have hcz11_0 : w9.cell? ⟨gb331, 0, none⟩ = some (.int .i64 a0_0) := (bc_ BK331.out 0).trans rfl; have hcz11_1 : w9.cell? ⟨gb331, 1, none⟩ = some (.int .i64 a0_1) := (bc_ BK331.out 1).trans rfl; have hcz11_2 : w9.cell? ⟨gb331, 2, none⟩ = some (.int .i64 a0_2) := (bc_ BK331.out 2).trans rfl; have hcz11_3 : w9.cell? ⟨gb331, 3, none⟩ = some (.slice A0_3 l0_3.length c0_3) := (bc_ BK331.out 3).trans rfl; have hcz11_4 : w9.cell? ⟨gb331, 4, none⟩ = some (.int .i64 a0_4) := (bc_ BK331.out 4).trans rfl; have hfz11_0 := bf_ BK331.out 0; have hfz11_1 := bf_ BK331.out 1; have hfz11_2 := bf_ BK331.out 2; have hfz11_3 := bf_ BK331.out 3; have hfz11_4 := bf_ BK331.out 4; have hcz12_0 : w9.cell? ⟨gb332, 0, none⟩ = some (.int .i64 a1_0) := (bc_ BK332.out 0).trans rfl; have hcz12_1 : w9.cell? ⟨gb332, 1, none⟩ = some (.int .i64 a1_1) := (bc_ BK332.out 1).trans rfl; have hcz12_2 : w9.cell? ⟨gb332, 2, none⟩ = some (.int .i64 a1_2) := (bc_ BK332.out 2).trans rfl; have hcz12_3 : w9.cell? ⟨gb332, 3, none⟩ = some (.slice A1_3 l1_3.length c1_3) := (bc_ BK332.out 3).trans rfl; have hcz12_4 : w9.cell? ⟨gb332, 4, none⟩ = some (.int .i64 a1_4) := (bc_ BK332.out 4).trans rfl; have hfz12_0 := bf_ BK332.out 0; have hfz12_1 := bf_ BK332.out 1; have hfz12_2 := bf_ BK332.out 2; have hfz12_3 := bf_ BK332.out 3; have hfz12_4 := bf_ BK332.out 4) | (go_at_call 35; (with_reducible refine (tapearchivelaw26_sameRecords.calls k _ _ l0_3 _ _ l1_3 t333 _ ?side1 ?side2 ?side3 ?side4 A7.out).mono ?_); (case side1 => repeat (first | exact (Kd.C_below HR0_3.out HB.out) | (with_reducible refine Kd.C_alloc ?_ _) | (with_reducible refine Kd.C_drewN ?_ _) | (with_reducible refine Kd.C_drew ?_))); (case side2 => exact HC0_3.out); (case side3 => repeat (first | exact (Kd.C_below HR1_3.out HB.out) | (with_reducible refine Kd.C_alloc ?_ _) | (with_reducible refine Kd.C_drewN ?_ _) | (with_reducible refine Kd.C_drew ?_))); (case side4 => exact HC1_3.out); rintro e w' ⟨rfl, ⟨nd, rfl⟩⟩))
     go_ret
     exact ⟨by first | rfl | (simp [errW_none, errW_some] <;> rfl) | (simp [*, errW_none, errW_some] <;> rfl), pb2_ HB.out GE331.out GE332.out⟩
    ·
     rw [if_neg c6] at H
     have c6b0 : (a0_4 == a1_4) = false := beq_eq_false_iff_ne.mpr c6
     have c6b1 : (a0_4 != a1_4) = true := bne_iff_ne.mpr c6
     obtain rfl := si_ H
     go_enter Try.func15, Try.ntmps15
     go_wp2_with (first | ((with_reducible refine gate_dst (N := 2) rfl ?_); refine box_event ?hg (N := 2) ?hd (cs := #[.int .i64 a0_0, .int .i64 a0_1, .int .i64 a0_2, .slice A0_3 l0_3.length c0_3, .int .i64 a0_4]) (t := 30) ?hr ?_; (case hd => rfl); (case hg => rfl); (case hr => first | (go_simp; done) | (go_simp; rfl)); intro gb331 hg w13 hbox hb; have n0_ := am_ (sp_ (pb0_ HB.out) hb); have n1_ := am_ (hbox); have n2_ := am_ ((by rw [hg]; exact (bz_ (pb0_ HB.out)) : w.heap.size ≤ gb331)); have n3_ := am_ ((by rw [hg]; exact (bz_ (pb0_ HB.out)) : w.heap.size ≤ gb331)); clear HB; have HB := n0_; have BK331 := n1_; have GW331 := n2_; have GE331 := n3_; clear n0_ n1_ n2_ n3_; clear hb hbox hg) | ((with_reducible refine gate_dst (N := 3) rfl ?_); refine box_event ?hg (N := 3) ?hd (cs := #[.int .i64 a1_0, .int .i64 a1_1, .int .i64 a1_2, .slice A1_3 l1_3.length c1_3, .int .i64 a1_4]) (t := 38) ?hr ?_; (case hd => rfl); (case hg => rfl); (case hr => first | (go_simp; done) | (go_simp; rfl)); intro gb332 hg w14 hbox hb; have n0_ := am_ (bw_ (g := gb331) (o := .cells #[.int .i64 a0_0, .int .i64 a0_1, .int .i64 a0_2, .slice A0_3 l0_3.length c0_3, .int .i64 a0_4] 30 (0, 0)) (pk_ BK331.out) hb); have n1_ := am_ (sp_ (pb1_ HB.out GE331.out) hb); have n2_ := am_ (hbox); have n3_ := am_ ((by rw [hg]; exact (bz_ (pb1_ HB.out GE331.out)) : w.heap.size ≤ gb332)); have n4_ := am_ ((by rw [hg]; exact (bz_ (pb1_ HB.out GE331.out)) : w.heap.size ≤ gb332)); have n5_ := am_ ((by rw [hg]; exact Nat.ne_of_lt (blk_lt (g := gb331) (o := .cells #[.int .i64 a0_0, .int .i64 a0_1, .int .i64 a0_2, .slice A0_3 l0_3.length c0_3, .int .i64 a0_4] 30 (0, 0)) (pk_ BK331.out)) : gb331 ≠ gb332)); have n6_ := am_ ((by rw [hg]; exact Nat.ne_of_gt (blk_lt (g := gb331) (o := .cells #[.int .i64 a0_0, .int .i64 a0_1, .int .i64 a0_2, .slice A0_3 l0_3.length c0_3, .int .i64 a0_4] 30 (0, 0)) (pk_ BK331.out)) : gb332 ≠ gb331)); clear BK331; clear HB; have BK331 := n0_; have HB := n1_; have BK332 := n2_; have GW332 := n3_; have GE332 := n4_; have NB331_332 := n5_; have NB332_331 := n6_; clear n0_ n1_ n2_ n3_ n4_ n5_ n6_; clear hb hbox hg; have hnb15 := NB331_332.out; have hnc15 := NB332_331.out; have hcz16_0 : w14.cell? ⟨gb331, 0, none⟩ = some (.int .i64 a0_0) := (bc_ BK331.out 0).trans rfl; have hcz16_1 : w14.cell? ⟨gb331, 1, none⟩ = some (.int .i64 a0_1) := (bc_ BK331.out 1).trans rfl; have hcz16_2 : w14.cell? ⟨gb331, 2, none⟩ = some (.int .i64 a0_2) := (bc_ BK331.out 2).trans rfl; have hcz16_3 : w14.cell? ⟨gb331, 3, none⟩ = some (.slice A0_3 l0_3.length c0_3) := (bc_ BK331.out 3).trans rfl; have hcz16_4 : w14.cell? ⟨gb331, 4, none⟩ = some (.int .i64 a0_4) := (bc_ BK331.out 4).trans rfl; have hfz16_0 := bf_ BK331.out 0; have hfz16_1 := bf_ BK331.out 1; have hfz16_2 := bf_ BK331.out 2; have hfz16_3 := bf_ BK331.out 3; have hfz16_4 := bf_ BK331.out 4; have hcz17_0 : w14.cell? ⟨gb332, 0, none⟩ = some (.int .i64 a1_0) := (bc_ BK332.out 0).trans rfl; have hcz17_1 : w14.cell? ⟨gb332, 1, none⟩ = some (.int .i64 a1_1) := (bc_ BK332.out 1).trans rfl; have hcz17_2 : w14.cell? ⟨gb332, 2, none⟩ = some (.int .i64 a1_2) := (bc_ BK332.out 2).trans rfl; have hcz17_3 : w14.cell? ⟨gb332, 3, none⟩ = some (.slice A1_3 l1_3.length c1_3) := (bc_ BK332.out 3).trans rfl; have hcz17_4 : w14.cell? ⟨gb332, 4, none⟩ = some (.int .i64 a1_4) := (bc_ BK332.out 4).trans rfl; have hfz17_0 := bf_ BK332.out 0; have hfz17_1 := bf_ BK332.out 1; have hfz17_2 := bf_ BK332.out 2; have hfz17_3 := bf_ BK332.out 3; have hfz17_4 := bf_ BK332.out 4))
     go_ret
     exact ⟨by first | rfl | (simp [errW_none, errW_some] <;> rfl) | (simp [*, errW_none, errW_some] <;> rfl), pb2_ HB.out GE331.out GE332.out⟩
   ·
    rw [if_neg c5] at H
    have c5b0 : (a0_2 == a1_2) = false := beq_eq_false_iff_ne.mpr c5
    have c5b1 : (a0_2 != a1_2) = true := bne_iff_ne.mpr c5
    obtain rfl := si_ H
    go_enter Try.func15, Try.ntmps15
    go_wp2_with (first | ((with_reducible refine gate_dst (N := 2) rfl ?_); refine box_event ?hg (N := 2) ?hd (cs := #[.int .i64 a0_0, .int .i64 a0_1, .int .i64 a0_2, .slice A0_3 l0_3.length c0_3, .int .i64 a0_4]) (t := 30) ?hr ?_; (case hd => rfl); (case hg => rfl); (case hr => first | (go_simp; done) | (go_simp; rfl)); intro gb331 hg w18 hbox hb; have n0_ := am_ (sp_ (pb0_ HB.out) hb); have n1_ := am_ (hbox); have n2_ := am_ ((by rw [hg]; exact (bz_ (pb0_ HB.out)) : w.heap.size ≤ gb331)); have n3_ := am_ ((by rw [hg]; exact (bz_ (pb0_ HB.out)) : w.heap.size ≤ gb331)); clear HB; have HB := n0_; have BK331 := n1_; have GW331 := n2_; have GE331 := n3_; clear n0_ n1_ n2_ n3_; clear hb hbox hg) | ((with_reducible refine gate_dst (N := 3) rfl ?_); refine box_event ?hg (N := 3) ?hd (cs := #[.int .i64 a1_0, .int .i64 a1_1, .int .i64 a1_2, .slice A1_3 l1_3.length c1_3, .int .i64 a1_4]) (t := 38) ?hr ?_; (case hd => rfl); (case hg => rfl); (case hr => first | (go_simp; done) | (go_simp; rfl)); intro gb332 hg w19 hbox hb; have n0_ := am_ (bw_ (g := gb331) (o := .cells #[.int .i64 a0_0, .int .i64 a0_1, .int .i64 a0_2, .slice A0_3 l0_3.length c0_3, .int .i64 a0_4] 30 (0, 0)) (pk_ BK331.out) hb); have n1_ := am_ (sp_ (pb1_ HB.out GE331.out) hb); have n2_ := am_ (hbox); have n3_ := am_ ((by rw [hg]; exact (bz_ (pb1_ HB.out GE331.out)) : w.heap.size ≤ gb332)); have n4_ := am_ ((by rw [hg]; exact (bz_ (pb1_ HB.out GE331.out)) : w.heap.size ≤ gb332)); have n5_ := am_ ((by rw [hg]; exact Nat.ne_of_lt (blk_lt (g := gb331) (o := .cells #[.int .i64 a0_0, .int .i64 a0_1, .int .i64 a0_2, .slice A0_3 l0_3.length c0_3, .int .i64 a0_4] 30 (0, 0)) (pk_ BK331.out)) : gb331 ≠ gb332)); have n6_ := am_ ((by rw [hg]; exact Nat.ne_of_gt (blk_lt (g := gb331) (o := .cells #[.int .i64 a0_0, .int .i64 a0_1, .int .i64 a0_2, .slice A0_3 l0_3.length c0_3, .int .i64 a0_4] 30 (0, 0)) (pk_ BK331.out)) : gb332 ≠ gb331)); clear BK331; clear HB; have BK331 := n0_; have HB := n1_; have BK332 := n2_; have GW332 := n3_; have GE332 := n4_; have NB331_332 := n5_; have NB332_331 := n6_; clear n0_ n1_ n2_ n3_ n4_ n5_ n6_; clear hb hbox hg; have hnb20 := NB331_332.out; have hnc20 := NB332_331.out; have hcz21_0 : w19.cell? ⟨gb331, 0, none⟩ = some (.int .i64 a0_0) := (bc_ BK331.out 0).trans rfl; have hcz21_1 : w19.cell? ⟨gb331, 1, none⟩ = some (.int .i64 a0_1) := (bc_ BK331.out 1).trans rfl; have hcz21_2 : w19.cell? ⟨gb331, 2, none⟩ = some (.int .i64 a0_2) := (bc_ BK331.out 2).trans rfl; have hcz21_3 : w19.cell? ⟨gb331, 3, none⟩ = some (.slice A0_3 l0_3.length c0_3) := (bc_ BK331.out 3).trans rfl; have hcz21_4 : w19.cell? ⟨gb331, 4, none⟩ = some (.int .i64 a0_4) := (bc_ BK331.out 4).trans rfl; have hfz21_0 := bf_ BK331.out 0; have hfz21_1 := bf_ BK331.out 1; have hfz21_2 := bf_ BK331.out 2; have hfz21_3 := bf_ BK331.out 3; have hfz21_4 := bf_ BK331.out 4; have hcz22_0 : w19.cell? ⟨gb332, 0, none⟩ = some (.int .i64 a1_0) := (bc_ BK332.out 0).trans rfl; have hcz22_1 : w19.cell? ⟨gb332, 1, none⟩ = some (.int .i64 a1_1) := (bc_ BK332.out 1).trans rfl; have hcz22_2 : w19.cell? ⟨gb332, 2, none⟩ = some (.int .i64 a1_2) := (bc_ BK332.out 2).trans rfl; have hcz22_3 : w19.cell? ⟨gb332, 3, none⟩ = some (.slice A1_3 l1_3.length c1_3) := (bc_ BK332.out 3).trans rfl; have hcz22_4 : w19.cell? ⟨gb332, 4, none⟩ = some (.int .i64 a1_4) := (bc_ BK332.out 4).trans rfl; have hfz22_0 := bf_ BK332.out 0; have hfz22_1 := bf_ BK332.out 1; have hfz22_2 := bf_ BK332.out 2; have hfz22_3 := bf_ BK332.out 3; have hfz22_4 := bf_ BK332.out 4))
    go_ret
    exact ⟨by first | rfl | (simp [errW_none, errW_some] <;> rfl) | (simp [*, errW_none, errW_some] <;> rfl), pb2_ HB.out GE331.out GE332.out⟩
  ·
   rw [if_neg c4] at H
   have c4b0 : (a0_1 == a1_1) = false := beq_eq_false_iff_ne.mpr c4
   have c4b1 : (a0_1 != a1_1) = true := bne_iff_ne.mpr c4
   obtain rfl := si_ H
   go_enter Try.func15, Try.ntmps15
   go_wp2_with (first | ((with_reducible refine gate_dst (N := 2) rfl ?_); refine box_event ?hg (N := 2) ?hd (cs := #[.int .i64 a0_0, .int .i64 a0_1, .int .i64 a0_2, .slice A0_3 l0_3.length c0_3, .int .i64 a0_4]) (t := 30) ?hr ?_; (case hd => rfl); (case hg => rfl); (case hr => first | (go_simp; done) | (go_simp; rfl)); intro gb331 hg w23 hbox hb; have n0_ := am_ (sp_ (pb0_ HB.out) hb); have n1_ := am_ (hbox); have n2_ := am_ ((by rw [hg]; exact (bz_ (pb0_ HB.out)) : w.heap.size ≤ gb331)); have n3_ := am_ ((by rw [hg]; exact (bz_ (pb0_ HB.out)) : w.heap.size ≤ gb331)); clear HB; have HB := n0_; have BK331 := n1_; have GW331 := n2_; have GE331 := n3_; clear n0_ n1_ n2_ n3_; clear hb hbox hg) | ((with_reducible refine gate_dst (N := 3) rfl ?_); refine box_event ?hg (N := 3) ?hd (cs := #[.int .i64 a1_0, .int .i64 a1_1, .int .i64 a1_2, .slice A1_3 l1_3.length c1_3, .int .i64 a1_4]) (t := 38) ?hr ?_; (case hd => rfl); (case hg => rfl); (case hr => first | (go_simp; done) | (go_simp; rfl)); intro gb332 hg w24 hbox hb; have n0_ := am_ (bw_ (g := gb331) (o := .cells #[.int .i64 a0_0, .int .i64 a0_1, .int .i64 a0_2, .slice A0_3 l0_3.length c0_3, .int .i64 a0_4] 30 (0, 0)) (pk_ BK331.out) hb); have n1_ := am_ (sp_ (pb1_ HB.out GE331.out) hb); have n2_ := am_ (hbox); have n3_ := am_ ((by rw [hg]; exact (bz_ (pb1_ HB.out GE331.out)) : w.heap.size ≤ gb332)); have n4_ := am_ ((by rw [hg]; exact (bz_ (pb1_ HB.out GE331.out)) : w.heap.size ≤ gb332)); have n5_ := am_ ((by rw [hg]; exact Nat.ne_of_lt (blk_lt (g := gb331) (o := .cells #[.int .i64 a0_0, .int .i64 a0_1, .int .i64 a0_2, .slice A0_3 l0_3.length c0_3, .int .i64 a0_4] 30 (0, 0)) (pk_ BK331.out)) : gb331 ≠ gb332)); have n6_ := am_ ((by rw [hg]; exact Nat.ne_of_gt (blk_lt (g := gb331) (o := .cells #[.int .i64 a0_0, .int .i64 a0_1, .int .i64 a0_2, .slice A0_3 l0_3.length c0_3, .int .i64 a0_4] 30 (0, 0)) (pk_ BK331.out)) : gb332 ≠ gb331)); clear BK331; clear HB; have BK331 := n0_; have HB := n1_; have BK332 := n2_; have GW332 := n3_; have GE332 := n4_; have NB331_332 := n5_; have NB332_331 := n6_; clear n0_ n1_ n2_ n3_ n4_ n5_ n6_; clear hb hbox hg; have hnb25 := NB331_332.out; have hnc25 := NB332_331.out; have hcz26_0 : w24.cell? ⟨gb331, 0, none⟩ = some (.int .i64 a0_0) := (bc_ BK331.out 0).trans rfl; have hcz26_1 : w24.cell? ⟨gb331, 1, none⟩ = some (.int .i64 a0_1) := (bc_ BK331.out 1).trans rfl; have hcz26_2 : w24.cell? ⟨gb331, 2, none⟩ = some (.int .i64 a0_2) := (bc_ BK331.out 2).trans rfl; have hcz26_3 : w24.cell? ⟨gb331, 3, none⟩ = some (.slice A0_3 l0_3.length c0_3) := (bc_ BK331.out 3).trans rfl; have hcz26_4 : w24.cell? ⟨gb331, 4, none⟩ = some (.int .i64 a0_4) := (bc_ BK331.out 4).trans rfl; have hfz26_0 := bf_ BK331.out 0; have hfz26_1 := bf_ BK331.out 1; have hfz26_2 := bf_ BK331.out 2; have hfz26_3 := bf_ BK331.out 3; have hfz26_4 := bf_ BK331.out 4; have hcz27_0 : w24.cell? ⟨gb332, 0, none⟩ = some (.int .i64 a1_0) := (bc_ BK332.out 0).trans rfl; have hcz27_1 : w24.cell? ⟨gb332, 1, none⟩ = some (.int .i64 a1_1) := (bc_ BK332.out 1).trans rfl; have hcz27_2 : w24.cell? ⟨gb332, 2, none⟩ = some (.int .i64 a1_2) := (bc_ BK332.out 2).trans rfl; have hcz27_3 : w24.cell? ⟨gb332, 3, none⟩ = some (.slice A1_3 l1_3.length c1_3) := (bc_ BK332.out 3).trans rfl; have hcz27_4 : w24.cell? ⟨gb332, 4, none⟩ = some (.int .i64 a1_4) := (bc_ BK332.out 4).trans rfl; have hfz27_0 := bf_ BK332.out 0; have hfz27_1 := bf_ BK332.out 1; have hfz27_2 := bf_ BK332.out 2; have hfz27_3 := bf_ BK332.out 3; have hfz27_4 := bf_ BK332.out 4))
   go_ret
   exact ⟨by first | rfl | (simp [errW_none, errW_some] <;> rfl) | (simp [*, errW_none, errW_some] <;> rfl), pb2_ HB.out GE331.out GE332.out⟩
 ·
  rw [if_neg c3] at H
  have c3b0 : (a0_0 == a1_0) = false := beq_eq_false_iff_ne.mpr c3
  have c3b1 : (a0_0 != a1_0) = true := bne_iff_ne.mpr c3
  obtain rfl := si_ H
  go_enter Try.func15, Try.ntmps15
  go_wp2_with (first | ((with_reducible refine gate_dst (N := 2) rfl ?_); refine box_event ?hg (N := 2) ?hd (cs := #[.int .i64 a0_0, .int .i64 a0_1, .int .i64 a0_2, .slice A0_3 l0_3.length c0_3, .int .i64 a0_4]) (t := 30) ?hr ?_; (case hd => rfl); (case hg => rfl); (case hr => first | (go_simp; done) | (go_simp; rfl)); intro gb331 hg w28 hbox hb; have n0_ := am_ (sp_ (pb0_ HB.out) hb); have n1_ := am_ (hbox); have n2_ := am_ ((by rw [hg]; exact (bz_ (pb0_ HB.out)) : w.heap.size ≤ gb331)); have n3_ := am_ ((by rw [hg]; exact (bz_ (pb0_ HB.out)) : w.heap.size ≤ gb331)); clear HB; have HB := n0_; have BK331 := n1_; have GW331 := n2_; have GE331 := n3_; clear n0_ n1_ n2_ n3_; clear hb hbox hg) | ((with_reducible refine gate_dst (N := 3) rfl ?_); refine box_event ?hg (N := 3) ?hd (cs := #[.int .i64 a1_0, .int .i64 a1_1, .int .i64 a1_2, .slice A1_3 l1_3.length c1_3, .int .i64 a1_4]) (t := 38) ?hr ?_; (case hd => rfl); (case hg => rfl); (case hr => first | (go_simp; done) | (go_simp; rfl)); intro gb332 hg w29 hbox hb; have n0_ := am_ (bw_ (g := gb331) (o := .cells #[.int .i64 a0_0, .int .i64 a0_1, .int .i64 a0_2, .slice A0_3 l0_3.length c0_3, .int .i64 a0_4] 30 (0, 0)) (pk_ BK331.out) hb); have n1_ := am_ (sp_ (pb1_ HB.out GE331.out) hb); have n2_ := am_ (hbox); have n3_ := am_ ((by rw [hg]; exact (bz_ (pb1_ HB.out GE331.out)) : w.heap.size ≤ gb332)); have n4_ := am_ ((by rw [hg]; exact (bz_ (pb1_ HB.out GE331.out)) : w.heap.size ≤ gb332)); have n5_ := am_ ((by rw [hg]; exact Nat.ne_of_lt (blk_lt (g := gb331) (o := .cells #[.int .i64 a0_0, .int .i64 a0_1, .int .i64 a0_2, .slice A0_3 l0_3.length c0_3, .int .i64 a0_4] 30 (0, 0)) (pk_ BK331.out)) : gb331 ≠ gb332)); have n6_ := am_ ((by rw [hg]; exact Nat.ne_of_gt (blk_lt (g := gb331) (o := .cells #[.int .i64 a0_0, .int .i64 a0_1, .int .i64 a0_2, .slice A0_3 l0_3.length c0_3, .int .i64 a0_4] 30 (0, 0)) (pk_ BK331.out)) : gb332 ≠ gb331)); clear BK331; clear HB; have BK331 := n0_; have HB := n1_; have BK332 := n2_; have GW332 := n3_; have GE332 := n4_; have NB331_332 := n5_; have NB332_331 := n6_; clear n0_ n1_ n2_ n3_ n4_ n5_ n6_; clear hb hbox hg; have hnb30 := NB331_332.out; have hnc30 := NB332_331.out; have hcz31_0 : w29.cell? ⟨gb331, 0, none⟩ = some (.int .i64 a0_0) := (bc_ BK331.out 0).trans rfl; have hcz31_1 : w29.cell? ⟨gb331, 1, none⟩ = some (.int .i64 a0_1) := (bc_ BK331.out 1).trans rfl; have hcz31_2 : w29.cell? ⟨gb331, 2, none⟩ = some (.int .i64 a0_2) := (bc_ BK331.out 2).trans rfl; have hcz31_3 : w29.cell? ⟨gb331, 3, none⟩ = some (.slice A0_3 l0_3.length c0_3) := (bc_ BK331.out 3).trans rfl; have hcz31_4 : w29.cell? ⟨gb331, 4, none⟩ = some (.int .i64 a0_4) := (bc_ BK331.out 4).trans rfl; have hfz31_0 := bf_ BK331.out 0; have hfz31_1 := bf_ BK331.out 1; have hfz31_2 := bf_ BK331.out 2; have hfz31_3 := bf_ BK331.out 3; have hfz31_4 := bf_ BK331.out 4; have hcz32_0 : w29.cell? ⟨gb332, 0, none⟩ = some (.int .i64 a1_0) := (bc_ BK332.out 0).trans rfl; have hcz32_1 : w29.cell? ⟨gb332, 1, none⟩ = some (.int .i64 a1_1) := (bc_ BK332.out 1).trans rfl; have hcz32_2 : w29.cell? ⟨gb332, 2, none⟩ = some (.int .i64 a1_2) := (bc_ BK332.out 2).trans rfl; have hcz32_3 : w29.cell? ⟨gb332, 3, none⟩ = some (.slice A1_3 l1_3.length c1_3) := (bc_ BK332.out 3).trans rfl; have hcz32_4 : w29.cell? ⟨gb332, 4, none⟩ = some (.int .i64 a1_4) := (bc_ BK332.out 4).trans rfl; have hfz32_0 := bf_ BK332.out 0; have hfz32_1 := bf_ BK332.out 1; have hfz32_2 := bf_ BK332.out 2; have hfz32_3 := bf_ BK332.out 3; have hfz32_4 := bf_ BK332.out 4))
  go_ret
  exact ⟨by first | rfl | (simp [errW_none, errW_some] <;> rfl) | (simp [*, errW_none, errW_some] <;> rfl), pb2_ HB.out GE331.out GE332.out⟩
def tapearchivelaw26_sameNode.f (k : Nat) (a0_0 : Int) (a0_1 : Int) (l0_2 : List (S87)) (a1_0 : Int) (a1_1 : Int) (l1_2 : List (S79)) : Option (Bool) := if a0_0 = a1_0 then (if a0_1 = a1_1 then ((tapearchivelaw26_sameRecords.f k l0_2 l1_2).bind fun t336 => (some t336)) else (some false)) else (some false)
set_option maxHeartbeats 8000000 in
set_option maxRecDepth 100000 in
theorem tapearchivelaw26_sameNode.calls (k : Nat) (a0_0 : Int) (a0_1 : Int) (A0_2 : Option Addr) (c0_2 : Nat) (l0_2 : List (S87)) (a1_0 : Int) (a1_1 : Int) (A1_2 : Option Addr) (c1_2 : Nat) (l1_2 : List (S79)) (r : Bool) (w : World) (hr0_2 : Kd.C k87 w A0_2 l0_2.length l0_2) (hc0_2 : l0_2.length ≤ c0_2) (hr1_2 : Kd.C k79 w A1_2 l1_2.length l1_2) (hc1_2 : l1_2.length ≤ c1_2) (h : tapearchivelaw26_sameNode.f k a0_0 a0_1 l0_2 a1_0 a1_1 l1_2 = some r) :
  Calls Try.prog 16 #[.agg #[.int .i64 a0_0, .int .i64 a0_1, .slice A0_2 l0_2.length c0_2], .agg #[.int .i64 a1_0, .int .i64 a1_1, .slice A1_2 l1_2.length c1_2]] w fun e w' => e = .returned (.bool r) ∧ Below w.heap.size w w' := by
 have hu35 := Try.underlying35
 have hu24 := Try.underlying24
 have HR0_2 := am_ hr0_2
 have HC0_2 := am_ hc0_2
 clear hr0_2 hc0_2
 have HR1_2 := am_ hr1_2
 have HC1_2 := am_ hc1_2
 clear hr1_2 hc1_2
 have HB := am_ (Below.refl w.heap.size w)
 have H : (if a0_0 = a1_0 then (if a0_1 = a1_1 then ((tapearchivelaw26_sameRecords.f k l0_2 l1_2).bind fun t336 => (some t336)) else (some false)) else (some false)) = some r := h
 clear h
 by_cases c3 : a0_0 = a1_0
 ·
  rw [if_pos c3] at H
  have c3b0 : (a0_0 == a1_0) = true := beq_iff_eq.mpr c3
  have c3b1 : (a0_0 != a1_0) = false := bne_eq_false_iff_eq.mpr c3
  clear c3
  by_cases c4 : a0_1 = a1_1
  ·
   rw [if_pos c4] at H
   have c4b0 : (a0_1 == a1_1) = true := beq_iff_eq.mpr c4
   have c4b1 : (a0_1 != a1_1) = false := bne_eq_false_iff_eq.mpr c4
   clear c4
   replace H := Option.bind_eq_some_iff.mp H
   obtain ⟨t336, A50, H⟩ := H
   replace H : (some t336) = some r := H
   have A5 := am_ A50
   clear A50
   obtain rfl := si_ H
   go_enter Try.func16, Try.ntmps16
   go_wp2_with (first | ((with_reducible refine gate_dst (N := 2) rfl ?_); refine box_event ?hg (N := 2) ?hd (cs := #[.int .i64 a0_0, .int .i64 a0_1, .slice A0_2 l0_2.length c0_2]) (t := 35) ?hr ?_; (case hd => rfl); (case hg => rfl); (case hr => first | (go_simp; done) | (go_simp; rfl)); intro gb334 hg w6 hbox hb; have n0_ := am_ (sp_ (pb0_ HB.out) hb); have n1_ := am_ (hbox); have n2_ := am_ ((by rw [hg]; exact (bz_ (pb0_ HB.out)) : w.heap.size ≤ gb334)); have n3_ := am_ ((by rw [hg]; exact (bz_ (pb0_ HB.out)) : w.heap.size ≤ gb334)); clear HB; have HB := n0_; have BK334 := n1_; have GW334 := n2_; have GE334 := n3_; clear n0_ n1_ n2_ n3_; clear hb hbox hg) | ((with_reducible refine gate_dst (N := 3) rfl ?_); refine box_event ?hg (N := 3) ?hd (cs := #[.int .i64 a1_0, .int .i64 a1_1, .slice A1_2 l1_2.length c1_2]) (t := 24) ?hr ?_; (case hd => rfl); (case hg => rfl); (case hr => first | (go_simp; done) | (go_simp; rfl)); intro gb335 hg w7 hbox hb; have n0_ := am_ (bw_ (g := gb334) (o := .cells #[.int .i64 a0_0, .int .i64 a0_1, .slice A0_2 l0_2.length c0_2] 35 (0, 0)) (pk_ BK334.out) hb); have n1_ := am_ (sp_ (pb1_ HB.out GE334.out) hb); have n2_ := am_ (hbox); have n3_ := am_ ((by rw [hg]; exact (bz_ (pb1_ HB.out GE334.out)) : w.heap.size ≤ gb335)); have n4_ := am_ ((by rw [hg]; exact (bz_ (pb1_ HB.out GE334.out)) : w.heap.size ≤ gb335)); have n5_ := am_ ((by rw [hg]; exact Nat.ne_of_lt (blk_lt (g := gb334) (o := .cells #[.int .i64 a0_0, .int .i64 a0_1, .slice A0_2 l0_2.length c0_2] 35 (0, 0)) (pk_ BK334.out)) : gb334 ≠ gb335)); have n6_ := am_ ((by rw [hg]; exact Nat.ne_of_gt (blk_lt (g := gb334) (o := .cells #[.int .i64 a0_0, .int .i64 a0_1, .slice A0_2 l0_2.length c0_2] 35 (0, 0)) (pk_ BK334.out)) : gb335 ≠ gb334)); clear BK334; clear HB; have BK334 := n0_; have HB := n1_; have BK335 := n2_; have GW335 := n3_; have GE335 := n4_; have NB334_335 := n5_; have NB335_334 := n6_; clear n0_ n1_ n2_ n3_ n4_ n5_ n6_; clear hb hbox hg; have hnb8 := NB334_335.out; have hnc8 := NB335_334.out; have hcz9_0 : w7.cell? ⟨gb334, 0, none⟩ = some (.int .i64 a0_0) := (bc_ BK334.out 0).trans rfl; have hcz9_1 : w7.cell? ⟨gb334, 1, none⟩ = some (.int .i64 a0_1) := (bc_ BK334.out 1).trans rfl; have hcz9_2 : w7.cell? ⟨gb334, 2, none⟩ = some (.slice A0_2 l0_2.length c0_2) := (bc_ BK334.out 2).trans rfl; have hfz9_0 := bf_ BK334.out 0; have hfz9_1 := bf_ BK334.out 1; have hfz9_2 := bf_ BK334.out 2; have hcz10_0 : w7.cell? ⟨gb335, 0, none⟩ = some (.int .i64 a1_0) := (bc_ BK335.out 0).trans rfl; have hcz10_1 : w7.cell? ⟨gb335, 1, none⟩ = some (.int .i64 a1_1) := (bc_ BK335.out 1).trans rfl; have hcz10_2 : w7.cell? ⟨gb335, 2, none⟩ = some (.slice A1_2 l1_2.length c1_2) := (bc_ BK335.out 2).trans rfl; have hfz10_0 := bf_ BK335.out 0; have hfz10_1 := bf_ BK335.out 1; have hfz10_2 := bf_ BK335.out 2) | (go_at_call 35; (with_reducible refine (tapearchivelaw26_sameRecords.calls k _ _ l0_2 _ _ l1_2 t336 _ ?side1 ?side2 ?side3 ?side4 A5.out).mono ?_); (case side1 => repeat (first | exact (Kd.C_below HR0_2.out HB.out) | (with_reducible refine Kd.C_alloc ?_ _) | (with_reducible refine Kd.C_drewN ?_ _) | (with_reducible refine Kd.C_drew ?_))); (case side2 => exact HC0_2.out); (case side3 => repeat (first | exact (Kd.C_below HR1_2.out HB.out) | (with_reducible refine Kd.C_alloc ?_ _) | (with_reducible refine Kd.C_drewN ?_ _) | (with_reducible refine Kd.C_drew ?_))); (case side4 => exact HC1_2.out); rintro e w' ⟨rfl, ⟨nd, rfl⟩⟩))
   go_ret
   exact ⟨by first | rfl | (simp [errW_none, errW_some] <;> rfl) | (simp [*, errW_none, errW_some] <;> rfl), pb2_ HB.out GE334.out GE335.out⟩
  ·
   rw [if_neg c4] at H
   have c4b0 : (a0_1 == a1_1) = false := beq_eq_false_iff_ne.mpr c4
   have c4b1 : (a0_1 != a1_1) = true := bne_iff_ne.mpr c4
   obtain rfl := si_ H
   go_enter Try.func16, Try.ntmps16
   go_wp2_with (first | ((with_reducible refine gate_dst (N := 2) rfl ?_); refine box_event ?hg (N := 2) ?hd (cs := #[.int .i64 a0_0, .int .i64 a0_1, .slice A0_2 l0_2.length c0_2]) (t := 35) ?hr ?_; (case hd => rfl); (case hg => rfl); (case hr => first | (go_simp; done) | (go_simp; rfl)); intro gb334 hg w11 hbox hb; have n0_ := am_ (sp_ (pb0_ HB.out) hb); have n1_ := am_ (hbox); have n2_ := am_ ((by rw [hg]; exact (bz_ (pb0_ HB.out)) : w.heap.size ≤ gb334)); have n3_ := am_ ((by rw [hg]; exact (bz_ (pb0_ HB.out)) : w.heap.size ≤ gb334)); clear HB; have HB := n0_; have BK334 := n1_; have GW334 := n2_; have GE334 := n3_; clear n0_ n1_ n2_ n3_; clear hb hbox hg) | ((with_reducible refine gate_dst (N := 3) rfl ?_); refine box_event ?hg (N := 3) ?hd (cs := #[.int .i64 a1_0, .int .i64 a1_1, .slice A1_2 l1_2.length c1_2]) (t := 24) ?hr ?_; (case hd => rfl); (case hg => rfl); (case hr => first | (go_simp; done) | (go_simp; rfl)); intro gb335 hg w12 hbox hb; have n0_ := am_ (bw_ (g := gb334) (o := .cells #[.int .i64 a0_0, .int .i64 a0_1, .slice A0_2 l0_2.length c0_2] 35 (0, 0)) (pk_ BK334.out) hb); have n1_ := am_ (sp_ (pb1_ HB.out GE334.out) hb); have n2_ := am_ (hbox); have n3_ := am_ ((by rw [hg]; exact (bz_ (pb1_ HB.out GE334.out)) : w.heap.size ≤ gb335)); have n4_ := am_ ((by rw [hg]; exact (bz_ (pb1_ HB.out GE334.out)) : w.heap.size ≤ gb335)); have n5_ := am_ ((by rw [hg]; exact Nat.ne_of_lt (blk_lt (g := gb334) (o := .cells #[.int .i64 a0_0, .int .i64 a0_1, .slice A0_2 l0_2.length c0_2] 35 (0, 0)) (pk_ BK334.out)) : gb334 ≠ gb335)); have n6_ := am_ ((by rw [hg]; exact Nat.ne_of_gt (blk_lt (g := gb334) (o := .cells #[.int .i64 a0_0, .int .i64 a0_1, .slice A0_2 l0_2.length c0_2] 35 (0, 0)) (pk_ BK334.out)) : gb335 ≠ gb334)); clear BK334; clear HB; have BK334 := n0_; have HB := n1_; have BK335 := n2_; have GW335 := n3_; have GE335 := n4_; have NB334_335 := n5_; have NB335_334 := n6_; clear n0_ n1_ n2_ n3_ n4_ n5_ n6_; clear hb hbox hg; have hnb13 := NB334_335.out; have hnc13 := NB335_334.out; have hcz14_0 : w12.cell? ⟨gb334, 0, none⟩ = some (.int .i64 a0_0) := (bc_ BK334.out 0).trans rfl; have hcz14_1 : w12.cell? ⟨gb334, 1, none⟩ = some (.int .i64 a0_1) := (bc_ BK334.out 1).trans rfl; have hcz14_2 : w12.cell? ⟨gb334, 2, none⟩ = some (.slice A0_2 l0_2.length c0_2) := (bc_ BK334.out 2).trans rfl; have hfz14_0 := bf_ BK334.out 0; have hfz14_1 := bf_ BK334.out 1; have hfz14_2 := bf_ BK334.out 2; have hcz15_0 : w12.cell? ⟨gb335, 0, none⟩ = some (.int .i64 a1_0) := (bc_ BK335.out 0).trans rfl; have hcz15_1 : w12.cell? ⟨gb335, 1, none⟩ = some (.int .i64 a1_1) := (bc_ BK335.out 1).trans rfl; have hcz15_2 : w12.cell? ⟨gb335, 2, none⟩ = some (.slice A1_2 l1_2.length c1_2) := (bc_ BK335.out 2).trans rfl; have hfz15_0 := bf_ BK335.out 0; have hfz15_1 := bf_ BK335.out 1; have hfz15_2 := bf_ BK335.out 2))
   go_ret
   exact ⟨by first | rfl | (simp [errW_none, errW_some] <;> rfl) | (simp [*, errW_none, errW_some] <;> rfl), pb2_ HB.out GE334.out GE335.out⟩
 ·
  rw [if_neg c3] at H
  have c3b0 : (a0_0 == a1_0) = false := beq_eq_false_iff_ne.mpr c3
  have c3b1 : (a0_0 != a1_0) = true := bne_iff_ne.mpr c3
  obtain rfl := si_ H
  go_enter Try.func16, Try.ntmps16
  go_wp2_with (first | ((with_reducible refine gate_dst (N := 2) rfl ?_); refine box_event ?hg (N := 2) ?hd (cs := #[.int .i64 a0_0, .int .i64 a0_1, .slice A0_2 l0_2.length c0_2]) (t := 35) ?hr ?_; (case hd => rfl); (case hg => rfl); (case hr => first | (go_simp; done) | (go_simp; rfl)); intro gb334 hg w16 hbox hb; have n0_ := am_ (sp_ (pb0_ HB.out) hb); have n1_ := am_ (hbox); have n2_ := am_ ((by rw [hg]; exact (bz_ (pb0_ HB.out)) : w.heap.size ≤ gb334)); have n3_ := am_ ((by rw [hg]; exact (bz_ (pb0_ HB.out)) : w.heap.size ≤ gb334)); clear HB; have HB := n0_; have BK334 := n1_; have GW334 := n2_; have GE334 := n3_; clear n0_ n1_ n2_ n3_; clear hb hbox hg) | ((with_reducible refine gate_dst (N := 3) rfl ?_); refine box_event ?hg (N := 3) ?hd (cs := #[.int .i64 a1_0, .int .i64 a1_1, .slice A1_2 l1_2.length c1_2]) (t := 24) ?hr ?_; (case hd => rfl); (case hg => rfl); (case hr => first | (go_simp; done) | (go_simp; rfl)); intro gb335 hg w17 hbox hb; have n0_ := am_ (bw_ (g := gb334) (o := .cells #[.int .i64 a0_0, .int .i64 a0_1, .slice A0_2 l0_2.length c0_2] 35 (0, 0)) (pk_ BK334.out) hb); have n1_ := am_ (sp_ (pb1_ HB.out GE334.out) hb); have n2_ := am_ (hbox); have n3_ := am_ ((by rw [hg]; exact (bz_ (pb1_ HB.out GE334.out)) : w.heap.size ≤ gb335)); have n4_ := am_ ((by rw [hg]; exact (bz_ (pb1_ HB.out GE334.out)) : w.heap.size ≤ gb335)); have n5_ := am_ ((by rw [hg]; exact Nat.ne_of_lt (blk_lt (g := gb334) (o := .cells #[.int .i64 a0_0, .int .i64 a0_1, .slice A0_2 l0_2.length c0_2] 35 (0, 0)) (pk_ BK334.out)) : gb334 ≠ gb335)); have n6_ := am_ ((by rw [hg]; exact Nat.ne_of_gt (blk_lt (g := gb334) (o := .cells #[.int .i64 a0_0, .int .i64 a0_1, .slice A0_2 l0_2.length c0_2] 35 (0, 0)) (pk_ BK334.out)) : gb335 ≠ gb334)); clear BK334; clear HB; have BK334 := n0_; have HB := n1_; have BK335 := n2_; have GW335 := n3_; have GE335 := n4_; have NB334_335 := n5_; have NB335_334 := n6_; clear n0_ n1_ n2_ n3_ n4_ n5_ n6_; clear hb hbox hg; have hnb18 := NB334_335.out; have hnc18 := NB335_334.out; have hcz19_0 : w17.cell? ⟨gb334, 0, none⟩ = some (.int .i64 a0_0) := (bc_ BK334.out 0).trans rfl; have hcz19_1 : w17.cell? ⟨gb334, 1, none⟩ = some (.int .i64 a0_1) := (bc_ BK334.out 1).trans rfl; have hcz19_2 : w17.cell? ⟨gb334, 2, none⟩ = some (.slice A0_2 l0_2.length c0_2) := (bc_ BK334.out 2).trans rfl; have hfz19_0 := bf_ BK334.out 0; have hfz19_1 := bf_ BK334.out 1; have hfz19_2 := bf_ BK334.out 2; have hcz20_0 : w17.cell? ⟨gb335, 0, none⟩ = some (.int .i64 a1_0) := (bc_ BK335.out 0).trans rfl; have hcz20_1 : w17.cell? ⟨gb335, 1, none⟩ = some (.int .i64 a1_1) := (bc_ BK335.out 1).trans rfl; have hcz20_2 : w17.cell? ⟨gb335, 2, none⟩ = some (.slice A1_2 l1_2.length c1_2) := (bc_ BK335.out 2).trans rfl; have hfz20_0 := bf_ BK335.out 0; have hfz20_1 := bf_ BK335.out 1; have hfz20_2 := bf_ BK335.out 2))
  go_ret
  exact ⟨by first | rfl | (simp [errW_none, errW_some] <;> rfl) | (simp [*, errW_none, errW_some] <;> rfl), pb2_ HB.out GE334.out GE335.out⟩
end Go.Proofs.Ytbigcpjlahkggaa.Q
